/- Texts put together by a program: HidB HidC HidD HidE. -/
import Derived.Test.YtophlopiigpbgaaGreatDoorMn
set_option linter.unusedVariables false
set_option linter.unusedSimpArgs false
/- The law of SdBack: hiding, walked. -/
namespace Sg
open Go.Lib
theorem Z38 {pk:Nat→Nat} {rec_:List Nd→Nat→Hd}:∀ (xs:List (List Nd)) (y:List Nd) (n:Nat),ZW pk rec_ (xs++[y]) n=((ZW pk rec_ xs n).1++[⟨y,pk (ZW pk rec_ xs n).2,rec_ y ((ZW pk rec_ xs n).2+1)⟩],(rec_ y ((ZW pk rec_ xs n).2+1)).n)
 | [],y,n=>rfl
 | x::r,y,n=>by
  rw [List.cons_append,ZW,Z38 r y,ZW]
  rfl
end Sg
namespace Go.Proofs.YtophlopiigpbgaaGreatDoor
open Sg Go Go.RowKit Go.IntWalk
set_option maxRecDepth 100000
set_option maxHeartbeats 4000000
def ItP (F : World) : Prop := Lib.TabIs Tryz.prog F "internal/strconv.uint64pow10" .u64 Lib.pow10Tab
theorem pow10_named : Tryz.prog.globalNamed "internal/strconv.uint64pow10" = some 11 := by kernel_rfl
theorem ItP.at {F w : World} {H : List Res} (h : ItP F) (hw : St F [] w H) : Lib.TabIs Tryz.prog w "internal/strconv.uint64pow10" .u64 Lib.pow10Tab := by
 unfold ItP at h
 unfold Lib.TabIs World.var? at h ⊢
 rw [pow10_named] at h ⊢
 simp only [Option.bind_some] at h ⊢
 have hlt:11 < F.heap.size:=by
  rcases Nat.lt_or_ge 11 F.heap.size with h' | h'
  ·exact h'
  ·rw [Array.getElem?_eq_none h'] at h;cases h
 rw [hw.keep _ hlt (by simp)]
 exact h
section
variable {F:World} {H:List Res} {v:List Nd} {va pa:Option Addr} {vc pc:Nat} {pick:List Int}
theorem Z6h {n:Nat} (hI:ItP F) (hn:n≤9223372036854775807):Meets Tryz.prog 40 [.int .i64 n] F [] H (fun e H'=>e=.returned (sV (Lib.itoa (n:Int)))∧H'=H):=fun w hw =>
 (Tryz.strconv_Itoa (n:Int) (by omega) (by omega) w (hI.at hw)).mono fun e w' ⟨h1,k,os,h2⟩=>⟨H,⟨h1,rfl⟩,by
  subst h2
  exact hw.below ⟨rfl,rfl,rfl,by show w.heap.size≤(w.heap++os).size;rw [Array.size_append];omega,fun j hj=>by show (w.heap++os)[j]?=_;rw [Array.getElem?_append_left hj]⟩⟩
abbrev hidV (h:Hd) (la aa:Option Addr) (lc ac:Nat):Value:=.agg ⟨[sV (sp h.T),sV (sp h.S),.slice la h.L.length lc,.slice aa h.A.length ac,.int .i64 h.n]⟩
def HidR (h:Hd) (H:List Res):Ending→List Res→Prop:=fun e H'=>∃ la aa lc ac,e=.returned (hidV h la aa lc ac)∧H'=txR la lc h.L::txR aa ac h.A::H
theorem Zap {q n f:Nat} (hT:Tabs F []) [hRv:Rd F [] H va (v.flatMap ndV)] (hv:v.length≤vc) (hvl:v.length≤1000000) (ha:IsAt v q) {d:Nat} {nm:Option (List (List UInt8))} (hk:VOk d nm (Z8 v q)) (hr:¬ZF (Zz v q)) (hd:d≤32) (hb:(Zz v q).text.length≤8192) :
  Meets Tryz.prog 17 [.slice va v.length vc,.int .i64 q,.slice pa pick.length pc,.int .i64 n] F [] H (HidR (Z7 Z2 (Za pick) f (Z8 v q) n) H):=by
 have hlt:=ha.lt
 have hnd:Zz v q=v.getD q default:=Zc hlt
 have hh:Z7 Z2 (Za pick) f (Z8 v q) n=⟨Z6 (Z8 v q) [],Z6 (Z8 v q) [],[],[],n⟩:=by
  cases f with
  | zero=>rfl
  | succ f=>rw [Z7,if_neg (show ¬ZF (Z3 (Z8 v q)) from hr)]
 obtain ⟨h1,h2,-,-,-,-,h3,-⟩:=hk.open_
 have hz:kidsOf v q=[]:=by
  have:=(Z1f h2 hr).1
  rw [Zh ha] at h3
  exact List.eq_nil_of_length_eq_zero (by omega)
 have hva:Z8 v q=[v.getD q default]:=by
  unfold Z8
  rw [hz,hnd]
  rfl
 have hr2:=not_or.1 hr
 rw [hnd] at hr2 hb
 have k6:=hr2.1
 have k7:=hr2.2
 rw [hh,hva]
 rw [hva] at hk h2
 have h2:Zl Lib.validD (v.getD q default)=true:=h2
 obtain ⟨x,hx⟩:∃ x,v.getD q default=x:=⟨_,rfl⟩
 rw [hx] at hk h2 hb ⊢
 have e1:(q:Int)+1=((q+1:Nat):Int):=by omega
 have hone:(v.drop q).take 1=[x]:=by
  rw [List.drop_eq_getElem_cons hlt]
  have:v.getD q default=v[q]:=by rw [List.getD_eq_getElem?_getD,List.getElem?_eq_getElem hlt];rfl
  rw [←hx,this]
  rfl
 have hp1:Rd F [] H (saddr va vc q 6) ([x].flatMap ndV):=by
  rw [←hone]
  exact Rd.takeF (g:=ndV) (sz:=6) (Rd.subF (g:=ndV) (sz:=6) hRv (fun _=>rfl) hv) (fun _=>rfl) 1
 refine Meets.enter Tryz.func17 rfl rfl ?_
 refine S.nilrow 9 1 (S.nilrow 9 1 ?_)
 repeat' (first|(apply T.addI;apply rfl;apply rfl;omega;apply rfl;rw [e1])|(apply Sr.same;refine T.sliceLHK (i:=q) (j:=q+1) rfl rfl rfl (by omega) rfl ?_)|(apply T.alloc;apply rfl;intro nb)|refine Sg.Y8 ?_|(apply S.condQ;apply rfl;all_goals intro _)|(apply T.gcase;apply rfl;apply rfl;all_goals intro _)|fail)
 rw [show q+1 - q=[x].length by rw [List.length_singleton];omega]
 refine T.call rfl rfl (Z7n (v:=[x]) (Rd.tl (h:=Rd.tl (h:=Rd.tl (h:=hp1)))) (by simp)) ?_
 rintro _ _ ⟨oa,oc,rfl,rfl⟩
 unfold noR
 have hlx:[x].length=1:=rfl
 repeat' (first|(apply Sr.same;refine T.ixF (g:=ndV) (sz:=6) (i:=0) (xs:=[x]) rfl rfl inferInstance (fun _=>rfl) rfl (by omega) (by omega) rfl ?_)|(apply Sr.same;refine T.storeF (g:=ndV) (xs:=[x]) (x.named []) rfl rfl inferInstance (fun _=>rfl) rfl rfl rfl rfl ?_)|refine Sg.Y9 ?_|fail)
 have hv2:VOk 32 none [x.named []]:=Zc6 (Z2y (x:=[x]) hk) hd
 have hkx:x.kids=0:=(Z1f h2 (fun h=>h.elim (by rw [←hx];exact k6) (by rw [←hx];exact k7))).1
 refine T.call rfl rfl (Z33 (v:=[x.named []]) (n:=[x].length) hT rfl (by simp) (fun z hz=>by
  obtain rfl:=List.mem_singleton.1 hz
  exact ⟨fun _=>by show x.text.length≤_;omega,by show x.text.length≤_;omega,Nat.zero_le _,by show x.kids≤_;omega⟩) (by show 6*(x.text.length+0)+20+0≤_;omega)) ?_
 have hsp:sp (Z6 [x] [])=Z1D x:=Z2X (n:=x.named []) (by
  have:=Z1g h2
  show 1≤x.kind∧x.kind≤5
  rw [←hx] at this ⊢
  omega)
 have hll:(Z1D x).length≤6*x.text.length+5:=by
  have:=Z07 x.text
  unfold Z1D
  repeat' split
  all_goals first|omega|(simp only [List.length_cons,List.length_nil];omega)
 have hpx:Z1L Lib.validD [x.named []]=(sp (Z6 [x] []),0):=by
  unfold Z1L
  rw [if_pos (Z2T hv2),if_neg]
  ·rfl
  ·show ¬262144 < (sp (Z6 [x] [])).length
   rw [hsp]
   omega
 rw [hpx]
 rintro _ _ ⟨rfl,rfl⟩
 repeat' (first|refine Sg.Y9 ?_|fail)
 exact ⟨_,PSub.drop (PSub.drop (PSub.refl _)),none,none,0,0,rfl,rfl⟩
end
end Go.Proofs.YtophlopiigpbgaaGreatDoor
/- The law of SdBack: hiding a list or an object, walked. -/
namespace Sg
open Go.Lib
theorem Z47 {l:List (List UInt8)} (hl:∀ y∈l,y≠[]) (h:Zk l=[]):l=[]:=by
 cases l with
 | nil=>rfl
 | cons x r =>
  have:=(List.append_eq_nil_iff.1 h).1
  exact absurd this (hl x (List.mem_cons_self ..))
theorem Zaj {a b:List (List UInt8)} (ha:a≠[]) (hb:b≠[]):Zk (a++b)=Zk a++[44]++Zk b:=by
 cases a with
 | nil=>exact absurd rfl ha
 | cons x r =>
  cases b with
  | nil=>exact absurd rfl hb
  | cons y s=>simp [Zk]
theorem Z2N {dg:List UInt8→List UInt8} {pk:Nat→Nat} {f:Nat} (hc:∀ {x:List Nd} {n:Nat},(Z7 dg pk f x n).A.length+n≤(Z7 dg pk f x n).n) {o:Bool}:∀ {xs:List (List Nd)} {n:Nat},((ZW pk (Z7 dg pk f) xs n).1.flatMap (Kd.a o)).length+n≤(ZW pk (Z7 dg pk f) xs n).2
 | [],n=>Nat.le_of_eq (Nat.zero_add n)
 | y::r,n=>by
  have h1:=hc (x:=y) (n:=n+1)
  have h2:=Z2N hc (o:=o) (xs:=r) (n:=(Z7 dg pk f y (n+1)).n)
  rw [ZW,List.flatMap_cons,List.length_append]
  have h3:(Kd.a o ⟨y,pk n,Z7 dg pk f y (n+1)⟩).length≤(Z7 dg pk f y (n+1)).A.length+1:=by
   unfold Kd.a
   rw [List.length_append]
   split<;>simp
  show _+_+n≤(ZW pk (Z7 dg pk f) r (Z7 dg pk f y (n+1)).n).2
  omega
theorem Z2a {dg:List UInt8→List UInt8} {pk:Nat→Nat}:∀ (f:Nat) {x:List Nd} {n:Nat},(Z7 dg pk f x n).A.length+n≤(Z7 dg pk f x n).n
 | 0,x,n=>Nat.le_of_eq (Nat.zero_add n)
 | f+1,x,n=>by
  rw [Z7]
  split
  ·exact Z2N (Z2a f)
  ·exact Nat.le_of_eq (Nat.zero_add n)
theorem Ze0 {K:Kd} (hT:Fo 1 K.h.T):K.dT true=enc urlS ([91]++([34,115,97,108,116,32]++itoa (K.h.n:Int)++[34,44]++quoS K.key++[44])++sp K.h.T++[93]):=by
 have hi:∀ x,itS ((6:Int)=7) x=sp x:=fun x=>by unfold itS;rw [if_neg (by decide)];rfl
 have hf:∀ y∈[strV (Z1d K.h.n),strV K.key,K.h.T],Fo 1 y:=fun y hy=>by
  rcases List.mem_cons.1 hy with rfl|hy
  ·exact Z4h _
  ·rcases List.mem_cons.1 hy with rfl|hy
   ·exact Z4h _
   ·obtain rfl:=List.mem_singleton.1 hy
    exact hT
 unfold Kd.dT
 congr 1
 show sp (rowN 6 [] [strV (Z1d K.h.n),strV K.key,K.h.T])=_
 unfold rowN
 rw [Z1b (n:=⟨6,[],[],false,0,_⟩) rfl hf (.inl rfl)]
 show 91::(Zk ([strV (Z1d K.h.n),strV K.key,K.h.T].map (itS ((6:Int)=7)))++[93])=_
 have hq:=(Z1c K.h.n).1
 simp only [List.map_cons,List.map_nil,hi,Z13,hq,Zk,List.flatMap_cons,List.flatMap_nil]
 unfold Z1d
 simp
theorem Z6L {v x r:List Nd} {p:Nat} (h:v.drop p=x++r):sumT x≤sumT v:=by
 have h1:sumT v=sumT (v.take p)+sumT (v.drop p):=by rw [←Z3o,List.take_append_drop]
 rw [h,Z3o] at h1
 omega
theorem Z5R {D:Nat} {nm:Option (List (List UInt8))} {x:List Nd} (h:VOk D nm x):sp x≠[]:=by
 obtain ⟨c,l,e,-⟩:=Z2Y h
 rw [e]
 simp
end Sg
namespace Go.Proofs.YtophlopiigpbgaaGreatDoor
open Sg Go Go.RowKit Go.IntWalk
set_option maxRecDepth 100000
set_option maxHeartbeats 4000000
theorem Z9o:∀ c∈urlS,qB c=[c]∧c.toNat < 128:=by decide
theorem ZaA (bs:List UInt8):∀ c∈enc urlS bs,c∈urlS:=fun c hc=>by
 unfold enc at hc
 obtain ⟨k,-,rfl⟩:=List.mem_map.1 hc
 exact Z9p ⟨six bs k,Z9w bs k⟩
theorem Z87 {s:List UInt8} (h:∀ c∈s,c∈urlS):s.flatMap qB=s∧Lib.validD s=true:=by
 induction s with
 | nil=>exact ⟨rfl,rfl⟩
 | cons c r ih =>
  obtain ⟨h1,h2⟩:=Z9o c (h c (List.mem_cons_self ..))
  obtain ⟨i1,i2⟩:=ih fun d hd=>h d (List.mem_cons_of_mem _ hd)
  rw [List.flatMap_cons,i1,h1,Lib.validD_cons _ _ h2]
  exact ⟨rfl,i2⟩
theorem ZU (t:List UInt8):Lib.validD (Z2 t)=true:=(Z87 (ZaA _)).2
theorem Z4t (t:List UInt8):(quoS (Z2 t)).length=45:=by
 have h:=(Z87 (ZaA (sha256 t))).1
 have h2:=Z0Z t
 unfold quoS
 unfold Z2 at h2 ⊢
 rw [h]
 simp [h2]
theorem Z46 {a b:List (List UInt8)} (ha:∀ y∈a,y≠[]) (hb:∀ y∈b,y≠[]):Z05 (Zk a) (Zk b)=Zk (a++b):=by
 unfold Z05
 by_cases h1:a=[]
 ·subst h1
  rw [if_pos (.inl rfl)]
  rfl
 ·by_cases h2:b=[]
  ·subst h2
   rw [if_pos (.inr rfl)]
   simp [Zk]
  ·rw [if_neg (fun h=>h.elim (fun h=>h1 (Z47 ha h)) (fun h=>h2 (Z47 hb h))),Zaj h1 h2]
theorem Z7S {pick:List Int} {m:Nat} (ht:∀ z∈pick,0≤z∧z≤2):Za pick m≤2:=by
 unfold Za
 split
 ·omega
 ·rename_i h0
  have hm:m % pick.length < pick.length:=Nat.mod_lt _ (by omega)
  have:=ht (pick.getD (m % pick.length) 0) (by rw [List.getD_eq_getElem?_getD,List.getElem?_eq_getElem hm];exact List.getElem_mem hm)
  omega
def txT (k:Int) (P:List Kd):List UInt8:=Zk ((P.flatMap (Kd.tm Z2 (k==7))).map (itS (k=7)))
def shT (k:Int) (P:List Kd):List UInt8:=Zk ((P.flatMap (Kd.sh (k==7))).map (itS (k=7)))
def bhT (k:Int) (P:List Kd):List UInt8:=Zk ((P.flatMap (Kd.bh (k==7))).map (itS (k=7)))
def sdT (k:Int) (P:List Kd):List UInt8:=Zk ((P.flatMap (Kd.sd Z2 (k==7))).map (itS ((6:Int)=7)))
structure KN (K:Kd):Prop where
 t:Fo 1 K.h.T
 s:Fo 1 K.h.S
 tn:sp K.h.T≠[]
 sn:sp K.h.S≠[]
theorem Z6g {k:Int} {g:Kd→List (List Nd)} {P:List Kd} (h:∀ K∈P,∀ z∈g K,sp z≠[]):∀ y∈(P.flatMap g).map (itS (k=7)),y≠[]:=fun y hy e=>by
 obtain ⟨z,hz,rfl⟩:=List.mem_map.1 hy
 obtain ⟨K,hK,hz⟩:=List.mem_flatMap.1 hz
 exact h K hK z hz (List.append_eq_nil_iff.1 e).2
theorem ZdZ (s:List UInt8):sp (dotV s)≠[]:=by
 unfold dotV rowN
 rw [Z1b (n:=⟨7,[],[],false,0,_⟩) (xs:=[Z6 (strV s) ZJ]) rfl (fun y hy=>by obtain rfl:=List.mem_singleton.1 hy;exact (Z4h s).named _) (.inr rfl)]
 exact List.cons_ne_nil _ _
theorem Zcz {o:Bool} {K:Kd} (h:KN K):∀ z∈K.tm Z2 o,sp z≠[]:=fun z hz=>by
 unfold Kd.tm at hz
 split at hz
 ·rw [List.mem_singleton.1 hz,Z0d h.t]
  exact h.tn
 ·cases o with
  | true=>cases hz
  | false=>rw [List.mem_singleton.1 hz];exact ZdZ _
theorem ZcK {o:Bool} {K:Kd} (h:KN K):∀ z∈K.sh o,sp z≠[]:=fun z hz=>by
 unfold Kd.sh at hz
 split at hz
 ·rw [List.mem_singleton.1 hz,Z0d h.s]
  exact h.sn
 ·split at hz
  ·rw [List.mem_singleton.1 hz];exact h.sn
  ·cases hz
theorem Ze4 {o:Bool} {K:Kd} (h:KN K):∀ z∈K.bh o,sp z≠[]:=fun z hz=>by
 unfold Kd.bh at hz
 split at hz
 ·rw [List.mem_singleton.1 hz,Z0d h.s]
  exact h.sn
 ·cases hz
theorem ZdG {o:Bool} {K:Kd}:∀ z∈K.sd Z2 o,sp z≠[]:=fun z hz=>by
 unfold Kd.sd at hz
 split at hz
 ·rw [List.mem_singleton.1 hz,Z13]
  exact List.cons_ne_nil _ _
 ·cases hz
theorem Zdx {k:Int} {g:Kd→List (List Nd)} {P:List Kd} {K:Kd} (h:∀ K'∈P++[K],∀ z∈g K',sp z≠[]):Zk (((P++[K]).flatMap g).map (itS (k=7)))=Z05 (Zk ((P.flatMap g).map (itS (k=7)))) (Zk ((g K).map (itS (k=7)))):=by
 rw [Z46 (Z6g fun K' hK'=>h K' (List.mem_append_left _ hK')) (fun y hy e=>by
  obtain ⟨z,hz,rfl⟩:=List.mem_map.1 hy
  exact h K (List.mem_append_right _ (List.mem_singleton_self _)) z hz (List.append_eq_nil_iff.1 e).2),←List.map_append,List.flatMap_append,List.flatMap_cons,List.flatMap_nil,List.append_nil]
theorem ZM (a b:List UInt8):(Z05 a b).length≤a.length+b.length+1:=by
 unfold Z05
 split
 ·rw [List.length_append];omega
 ·simp only [List.length_append,List.length_cons,List.length_nil];omega
theorem ZdU {o:Bool} {P:List Kd} (h:∀ K∈P,KN K):∀ y∈P.flatMap (Kd.sh o),Fo 1 y:=fun y hy=>by
 obtain ⟨K,hK,hy⟩:=List.mem_flatMap.1 hy
 unfold Kd.sh at hy
 split at hy
 ·rw [List.mem_singleton.1 hy];exact (h K hK).s.named _
 ·split at hy
  ·rw [List.mem_singleton.1 hy];exact (h K hK).s
  ·cases hy
theorem Zed {o:Bool} {P:List Kd} (h:∀ K∈P,KN K):∀ y∈P.flatMap (Kd.bh o),Fo 1 y:=fun y hy=>by
 obtain ⟨K,hK,hy⟩:=List.mem_flatMap.1 hy
 unfold Kd.bh at hy
 split at hy
 ·rw [List.mem_singleton.1 hy];exact (h K hK).s.named _
 ·cases hy
theorem ZdC {P:List Kd} {m:Nat} (h:∀ K∈P,KN K):sp (ZI Z2 7 (P,m)).S=123::(Z05 (shT 7 P) (bhT 7 P)++[125]):=by
 show sp (rowN 7 [] (P.flatMap (Kd.sh true)++P.flatMap (Kd.bh true)))=_
 unfold rowN
 rw [Z1b (n:=⟨7,[],[],false,0,_⟩) rfl (fun y hy=>(List.mem_append.1 hy).elim (ZdU h y) (Zed h y)) (.inr rfl),List.map_append]
 show 123::(Zk (_++_)++[125])=_
 rw [←Z46 (Z6g fun K hK=>ZcK (h K hK)) (Z6g fun K hK=>Ze4 (h K hK))]
 rfl
theorem ZdB {P:List Kd} {m:Nat} (h:∀ K∈P,KN K):sp (ZI Z2 7 (P,m)).T=123::((if sdT 7 P=[] then txT 7 P else Z05 (([34,95,115,100,34,58,91]++sdT 7 P)++[93]) (txT 7 P))++[125]):=by
 have hne:=Z6g (k:=7) fun K (hK:K∈P)=>Zcz (o:=true) (h K hK)
 have hsd:sdT 7 P=[]↔P.flatMap (Kd.sd Z2 true)=[]:=⟨fun e=>List.map_eq_nil_iff.1 (Z47 (Z6g (k:=6) fun K (_:K∈P)=>ZdG (o:=true)) e),fun e=>by
  show Zk ((P.flatMap (Kd.sd Z2 true)).map _)=_
  rw [e]
  rfl⟩
 have e1:sp (ZI Z2 7 (P,m)).T=123::(Zk ((Z02 (P.flatMap (Kd.sd Z2 true))++P.flatMap (Kd.tm Z2 true)).map (itS ((7:Int)=7)))++[125]):=by
  show sp (rowN 7 [] (Z02 (P.flatMap (Kd.sd Z2 true))++P.flatMap (Kd.tm Z2 true)))=_
  unfold rowN
  rw [Z1b (n:=⟨7,[],[],false,0,_⟩) rfl (fun y hy=>(List.mem_append.1 hy).elim (Z5x Z8U y) (ZbJ (fun K hK=>(h K hK).t) y)) (.inr rfl)]
  rfl
 rw [e1]
 by_cases hs:sdT 7 P=[]
 ·rw [if_pos hs,hsd.1 hs]
  rfl
 ·have hs2:¬P.flatMap (Kd.sd Z2 true)=[]:=fun e=>hs (hsd.2 e)
  have e2:itS ((7:Int)=7) (rowN 6 sdN (P.flatMap (Kd.sd Z2 true)))=([34,95,115,100,34,58,91]++sdT 7 P)++[93]:=by
   unfold itS
   rw [if_pos rfl]
   have:sp (rowN 6 sdN (P.flatMap (Kd.sd Z2 true)))=91::(sdT 7 P++[93]):=by
    unfold rowN
    rw [Z1b (n:=⟨6,sdN,[],false,0,_⟩) rfl Z8U (.inl rfl)]
    rfl
   rw [this]
   show quoS sdN++[58]++_=_
   have:quoS sdN=[34,95,115,100,34]:=by decide
   rw [this]
   simp
  rw [if_neg hs,show Z02 (P.flatMap (Kd.sd Z2 true))=[rowN 6 sdN (P.flatMap (Kd.sd Z2 true))] from if_neg hs2,List.map_append,List.map_singleton,e2,
   ←Z46 (a:=[([34,95,115,100,34,58,91]++sdT 7 P)++[93]]) (fun y hy e=>by rw [List.mem_singleton.1 hy] at e;cases e) hne]
  simp [Zk,txT]
theorem Zai (a:List UInt8):Z05 a []=a:=by
 unfold Z05
 rw [if_pos (.inr rfl),List.append_nil]
theorem Z1I {k:Int} {g:Kd→List (List Nd)} {P:List Kd} {K:Kd} (h:g K=[]):Zk (((P++[K]).flatMap g).map (itS (k=7)))=Zk ((P.flatMap g).map (itS (k=7))):=by
 rw [List.flatMap_append,List.flatMap_cons,h]
 simp
theorem Zx {k:Int} {g:Kd→List (List Nd)} {P:List Kd} {K:Kd} {z:List Nd} {w:List UInt8} (h:∀ K'∈P++[K],∀ z∈g K',sp z≠[]) (hz:g K=[z]) (hw:itS (k=7) z=w):Z05 (Zk ((P.flatMap g).map (itS (k=7)))) w=Zk (((P++[K]).flatMap g).map (itS (k=7))):=by
 rw [Zdx h,hz,←hw]
 simp [Zk]
section
variable {F:World} {H:List Res} {v:List Nd} {va pa:Option Addr} {vc pc:Nat} {pick:List Int}
structure Z4E (v:List Nd) (q n f:Nat):Prop where
 at_:IsAt v q
 len:(Z8 v q).length≤f
 ok:∃ d nm,d≤32∧VOk d nm (Z8 v q)
 bare:Bare (Z8 v q)
 cnt:n+(Z8 v q).length≤100000
theorem ZbF {q n f:Nat} (hT:Tabs F []) (hS:ShP F []) (hI:ItP F) [hRv:Rd F [] H va (v.flatMap ndV)] [hRp:Rd F [] H pa (pick.map iVz)] (ht:∀ z∈pick,0≤z∧z≤2) (hpl:pick.length≤141000000000000) (hv:v.length≤vc) (hvl:v.length≤8192) (hsum:sumT v≤8192)
  (ihk:∀ {X:List Res} [Rd F [] X va (v.flatMap ndV)] [Rd F [] X pa (pick.map iVz)] {p m:Nat},Z4E v p m f→Meets Tryz.prog 17 [.slice va v.length vc,.int .i64 p,.slice pa pick.length pc,.int .i64 m] F [] X (HidR (Z7 Z2 (Za pick) f (Z8 v p) m) X))
  (ha:Z4E v q n (f+1)) (hr:(Zz v q).kind=7) :
  Meets Tryz.prog 17 [.slice va v.length vc,.int .i64 q,.slice pa pick.length pc,.int .i64 n] F [] H (HidR (Z7 Z2 (Za pick) (f+1) (Z8 v q) n) H):=by
 obtain ⟨hat,hlen,⟨d,nm,hd,hok⟩,hbare,hcnt⟩:=ha
 have hlt:=hat.lt
 have hnd:Zz v q=v.getD q default:=Zc hlt
 have hh:Z7 Z2 (Za pick) (f+1) (Z8 v q) n=ZI Z2 (Zz v q).kind (ZW (Za pick) (Z7 Z2 (Za pick) f) (kidsOf v q) n):=by
  rw [Z7,if_pos (show ZF (Z3 (Z8 v q)) from .inr hr),Zh hat]
  rfl
 rw [hh]
 refine Meets.enter Tryz.func17 rfl rfl ?_
 have hk7:(v.getD q default).kind=7:=by rw [←hnd];exact hr
 have hnk:Zz v q=v.getD q default:=hnd
 rw [hr]
 repeat' (first|(apply T.neq;(iterate 3 apply rfl);rw [decide_eq_false (by omega)])|(apply T.eql;(iterate 3 apply rfl);rw [decide_eq_true (by omega)])|(apply T.alloc;apply rfl;intro nb)|refine Sg.Y1 ?_|fail)
 rename_i nbr
 rename Nat=>bo
 refine T.call rfl rfl (Z0G (v:=v) rfl (by omega) hat) ?_
 rintro _ _ ⟨ka,kc,rfl,rfl⟩
 repeat' (first|refine Sg.Y1 ?_|fail)
 refine S.nilrow 9 1 (S.nilrow 9 1 ?_)
 refine S.front bo ?_
 have hxs:∀ y∈kidsOf v q,y.length≤f∧Fo 1 y:=fun y hy=>by
  have h1:=Z0T hat
  have h2:=(Zj h1).2.1
  have h3:=(Zj h1).1
  rw [Zh hat] at h2 h3
  have:=ZR hy
  exact ⟨by omega,h2 y hy⟩
 obtain ⟨g1,-,-,-,-,-,-,g4⟩:=hok.open_
 rw [Zh hat] at g1 g4
 have hkid:∀ y∈kidsOf v q,(∃ nm',VOk (d - 1) nm' y)∧Bare y:=fun y hy=>by
  obtain ⟨nm',v1,-⟩:=Z0f g4 y hy
  refine ⟨⟨nm',v1⟩,Z0C (Z0T hat) hbare (by rw [Zh hat];exact hy)⟩
 refine S.loopE 3 [0,2,8,12,13,17] (fun R b' μ H' e=>∃ (i m:Nat) (P:List Kd) (la aa:Option Addr) (lc ac:Nat),H'=.blk bo [sV (txT 7 P),sV [],.slice la (P.flatMap (Kd.l true)).length lc,.slice aa (P.flatMap (Kd.a true)).length ac,.int .i64 m] 43::txR la lc (P.flatMap (Kd.l true))::txR aa ac (P.flatMap (Kd.a true))::R∧e=(14,sV (shT 7 P))::(15,sV (bhT 7 P))::(16,sV (sdT 7 P))::(18,.int .i64 i)::b' ∧
  (i≤(kidsOf v q).length∧ZW (Za pick) (Z7 Z2 (Za pick) f) ((kidsOf v q).take i) n=(P,m)∧(txT 7 P).length≤100000000*i∧(shT 7 P).length≤100000000*i∧(bhT 7 P).length≤100000000*i∧(sdT 7 P).length≤100000000*i)∧μ=(kidsOf v q).length - i) rfl rfl ?_ _ _ ⟨0,n,[],none,none,0,0,rfl,rfl,⟨Nat.zero_le _,rfl,Nat.zero_le _,Nat.zero_le _,Nat.zero_le _,Nat.zero_le _⟩,rfl⟩ (by repeat' first|exact trivial|refine And.intro rfl ?_)
 rintro _ _ _ ⟨i,m,P,la,aa,lc,ac,rfl,rfl,⟨h1,h2,b1,b2,b3,b4⟩,rfl⟩ ih
 have hP0:∀ K'∈P,KN K':=fun K' hK'=>by
  obtain ⟨y1,m',e,-⟩:=ZN (pk:=Za pick) (rec_:=Z7 Z2 (Za pick) f) (xs:=(kidsOf v q).take i) (n:=n) (K:=K') (by rw [h2];exact hK')
  have y2:=List.mem_of_mem_take y1
  obtain ⟨⟨nm2,w1⟩,w2⟩:=hkid _ y2
  obtain ⟨w3,w4⟩:=Z0i (dg:=Z2) ZU (Za pick) f (n:=m'+1) w1 w2 (hxs _ y2).1
  rw [←e] at w3 w4
  exact ⟨w3.fo,w4.fo,Z5R w3,Z5R w4⟩
 by_cases h3:i < (kidsOf v q).length
 ·have hp:=Z19 hat h3
  have hpi:=Z52 hat h3
  have hplt:=hpi.lt
  generalize hpp:(offs (q+1) (kidsOf v q)).getD i 0=p at *
  have hpn:Zz v p=v.getD p default:=Zc hplt
  obtain ⟨⟨nm',v1⟩,v2⟩:=hkid _ (List.getElem_mem h3)
  rw [←hp] at v1 v2
  have hkk:Z3 (Z8 v p)=v.getD p default:=hpn
  obtain ⟨r,hdr⟩:=Z1a hpi
  have hsk:=Z6L hdr
  have hky:(v.getD p default).key.length≤8192:=by
   have:(Z3 (Z8 v p)).text.length+(Z3 (Z8 v p)).key.length+sumT (kidsOf v p).flatten≤sumT v:=hsk
   rw [hkk] at this
   omega
  have hkv:Lib.validD (v.getD p default).key=true:=by rw [←hkk];exact v1.open_.2.2.1
  have hm:m≤n+(kidsOf v q).flatten.length:=by
   have:=(Z2u (pk:=Za pick) (rec_:=Z7 Z2 (Za pick) f) (xs:=(kidsOf v q).take i) (n:=n) fun y hy m=>Z2p f (hxs y (List.mem_of_mem_take hy)).2 (hxs y (List.mem_of_mem_take hy)).1).1
   rw [h2] at this
   have h5:((kidsOf v q).take i).flatten.length≤(kidsOf v q).flatten.length:=by
    conv=>rhs;rw [←List.take_append_drop i (kidsOf v q),List.flatten_append,List.length_append]
    omega
   exact Nat.le_trans this (by omega)
  have hfl:=congrArg List.length g1
  rw [List.length_cons] at hfl
  have hol:=Z1s (q+1) (kidsOf v q)
  have hkl:=(hat.kids_len).2
  have e1:(m:Int)+1=((m+1:Nat):Int):=by omega
  repeat' (first|(apply T.loadNat;apply rfl;infer_instance;omega;apply rfl;rw [hpp])|refine Sg.Y3 ?_|(apply S.condQ;apply rfl;all_goals intro _)|fail)
  refine T.call rfl rfl (Z5l hT hkv (by omega)) ?_
  rintro _ _ ⟨rfl,hH⟩
  subst hH
  repeat' (first|refine Sg.Y1 ?_|fail)
  refine T.call rfl rfl (Z4u (n:=m) inferInstance ht (by omega) hpl) ?_
  rintro _ _ ⟨rfl,hH⟩
  subst hH
  repeat' (first|(apply T.addI;apply rfl;apply rfl;omega;apply rfl;rw [e1])|refine Sg.Y1 ?_|fail)
  have hat2:Z4E v p (m+1) f:=⟨hpi,by rw [hp];exact (hxs _ (List.getElem_mem h3)).1,⟨d - 1,nm',by omega,v1⟩,v2,by
   have h5:((kidsOf v q).take i).flatten.length+(Z8 v p).length≤(kidsOf v q).flatten.length:=by
    conv=>rhs;rw [←List.take_append_drop i (kidsOf v q),List.flatten_append,List.length_append,List.drop_eq_getElem_cons h3,List.flatten_cons,List.length_append,←hp]
    omega
   have:=(Z2u (pk:=Za pick) (rec_:=Z7 Z2 (Za pick) f) (xs:=(kidsOf v q).take i) (n:=n) fun y hy m=>Z2p f (hxs y (List.mem_of_mem_take hy)).2 (hxs y (List.mem_of_mem_take hy)).1).1
   rw [h2] at this
   have this:m≤_:=this
   omega⟩
  have n1:∀ {X:List Res} [Rd F [] X va (v.flatMap ndV)] [Rd F [] X pa (pick.map iVz)],Meets Tryz.prog 17 [.slice va v.length vc,.int .i64 p,.slice pa pick.length pc,.int .i64 ((m+1:Nat):Int)] F [] X (HidR (Z7 Z2 (Za pick) f (Z8 v p) (m+1)) X):=fun {X} _ _=>ihk (X:=X) hat2
  generalize hh2:Z7 Z2 (Za pick) f (Z8 v p) (m+1)=h at n1
  generalize hkey:(v.getD p default).key=key at *
  dsimp only [List.set_cons_zero,List.set_cons_succ]
  refine S.cut (fun H' e'=>∃ (xo:Nat) (lb ab:Option Addr) (ld ad:Nat),H'=.blk xo [sV (sp h.T),sV (sp h.S),.slice lb h.L.length ld,.slice ab h.A.length ad,.int .i64 h.n] 43::txR lb ld h.L::txR ab ad h.A::.blk bo [sV (txT 7 P),sV [],.slice la (P.flatMap (Kd.l true)).length lc,.slice aa (P.flatMap (Kd.a true)).length ac,.int .i64 ((m+1:Nat):Int)] 43::txR la lc (P.flatMap (Kd.l true))::txR aa ac (P.flatMap (Kd.a true))::.row ka kc 3 1 (kidsOf v q).length ((offs (q+1) (kidsOf v q)).map nV)::.blk nbr [.string ByteArray.empty,.string ByteArray.empty,.slice none 0 0,.slice none 0 0,.int .i64 0] 43::H ∧
   e'=[(21,.pointer (some ⟨xo,0,none⟩)),(19,sV (quoS key)),(20,.int .i64 (Za pick m)),(14,sV (shT 7 P)),(15,sV (bhT 7 P)),(16,sV (sdT 7 P)),(18,.int .i64 i),(0,.slice va v.length vc),(2,.slice pa pick.length pc),(8,.pointer (some ⟨nbr,0,none⟩)),(12,.pointer (some ⟨bo,0,none⟩)),(13,.bool true),(17,.slice ka (kidsOf v q).length kc)]) ?_ ?_
  ·intro k' hk'
   (apply S.draw;(case Hs=>exact .blk bo [sV (txT 7 P),sV [],.slice la (P.flatMap (Kd.l true)).length lc,.slice aa (P.flatMap (Kd.a true)).length ac,.int .i64 ((m+1:Nat):Int)] 43::txR la lc (P.flatMap (Kd.l true))::txR aa ac (P.flatMap (Kd.a true))::.row ka kc 3 1 (kidsOf v q).length ((offs (q+1) (kidsOf v q)).map nV)::.blk nbr [.string ByteArray.empty,.string ByteArray.empty,.slice none 0 0,.slice none 0 0,.int .i64 0] 43::H);(case es=>exact  [8,9,10]);(case n=>exact  11);(case hn=>rfl))
   repeat' (first|(apply T.loadNat;apply rfl;infer_instance;omega;apply rfl;rw [hpp])|(apply Sr.same;refine T.call rfl rfl n1 ?_;rintro _ _ ⟨lb,ab,ld,ad,rfl,rfl⟩)|(apply T.alloc;apply rfl;intro nb)|(apply SA.qz;(iterate 4 apply rfl);kernel_rfl)|(apply SA.qsn;(iterate 3 apply rfl);kernel_rfl;(first|exact fun _ h=>h|exact fun _ h=>St.psub h (by ((repeat (first|dsimp only [List.set_cons_zero]|dsimp only [List.set_cons_succ]));repeat' first|exact PSub.refl _|exact PSub.nil|(with_reducible apply PSub.app)|(apply PSub.take;(repeat' first|(with_reducible exact Z0)|(with_reducible apply Z1)))|(with_reducible apply PSub.drop)|((apply PSub.take);(repeat' first|exact Z0|(apply Z1)))))))|(apply SA.e2;(iterate 3 apply rfl);kernel_rfl)|(apply SA.done;apply rfl;kernel_rfl)|(apply SK.intro;(first|exact fun _ h=>h|exact fun _ h=>St.psub h (by ((repeat (first|dsimp only [List.set_cons_zero]|dsimp only [List.set_cons_succ]));repeat' first|exact PSub.refl _|exact PSub.nil|(with_reducible apply PSub.app)|(apply PSub.take;(repeat' first|(with_reducible exact Z0)|(with_reducible apply Z1)))|(with_reducible apply PSub.drop)|((apply PSub.take);(repeat' first|exact Z0|(apply Z1)))))))|refine Sg.Y2 ?_|fail)
   all_goals first
    | exact hk' _ _ _ ⟨_,lb,ab,ld,ad,rfl,rfl⟩ (by repeat' first|exact trivial|refine And.intro rfl ?_)
    | (refine S.front nb ?_;exact hk' _ _ _ ⟨_,lb,ab,ld,ad,rfl,rfl⟩ (by repeat' first|exact trivial|refine And.intro rfl ?_))
  rintro _ _ ⟨xo,lb,ab,ld,ad,rfl,rfl⟩
  obtain ⟨c1,c2⟩:=Z2M (dg:=Z2) (pk:=Za pick) ZU Z4t f (n:=m+1) v1 v2 hat2.len (by have:=hat2.cnt;omega)
  have o2:=(Z0i (dg:=Z2) ZU (Za pick) f (n:=m+1) v1 v2 hat2.len).2
  have o1:=(Z0i (dg:=Z2) ZU (Za pick) f (n:=m+1) v1 v2 hat2.len).1
  have c3:=Z2a (dg:=Z2) (pk:=Za pick) f (x:=Z8 v p) (n:=m+1)
  have c4:=Z2p (dg:=Z2) (pk:=Za pick) f (n:=m+1) (Z0T hpi) hat2.len
  have c5:=(Z0X (dg:=Z2) (Za pick) f (Z8 v p) (m+1)).length_le
  have c6:=hat2.cnt
  have c7:=Z5K hpi
  rw [hh2] at c1 c2 c3 c4 c5 o1 o2
  rw [ZaT] at c1
  rw [Z9f (Z8 v p)] at c2
  have c8:=Z0q _ _ o2.fo (Nat.le_refl _)
  have hTn:(sp h.T).length≤2000000:=by omega
  have hSn:(sp h.S).length≤300000:=by unfold sp;omega
  clear c1 c2 c8
  have hqk:=Z07 key
  have hit:(Lib.itoa (h.n:Int)).length≤21:=Lib.itoa_length_le _ (by omega) (by omega)
  repeat' (first|refine Sg.Y1 ?_|fail)
  refine T.call rfl rfl (Z6h (n:=h.n) hI (by omega)) ?_
  rintro _ _ ⟨rfl,hH⟩
  have hH2:=hH.symm
  subst hH2
  repeat' (first|(apply T.convSB;apply rfl;apply rfl;intro sb sc r0 hR0 hc0)|refine Sg.Y1 ?_|fail)
  obtain ⟨D,hD⟩:∃ D,(Kd.mk (Z8 v p) (Za pick m) h).dT true=D:=⟨_,rfl⟩
  have hKk:(Kd.mk (Z8 v p) (Za pick m) h).key=key:=by rw [←hkey,←hkk];rfl
  have hDl:=ZaH (obj:=true) (K:=Kd.mk (Z8 v p) (Za pick m) h) o1.fo (by show h.n≤_;omega)
  rw [hD,hKk] at hDl
  have hDl2:D.length≤100000000:=by
   have:3*D.length≤4*(sp h.T).length+24*key.length+180:=hDl
   omega
  refine T.call rfl rfl (Z1t hR0 hc0 (by simp only [List.length_append,List.length_cons,List.length_nil];omega)) ?_
  rintro _ _ ⟨rfl,r1,rfl⟩
  rw [show enc urlS ([91]++([34,115,97,108,116,32]++Lib.itoa (h.n:Int)++[34,44]++quoS key++[44])++sp h.T++[93])=D by
   rw [←hD,Ze0 (K:=Kd.mk (Z8 v p) (Za pick m) h) o1.fo,hKk]]
  have hpk:Za pick m≤2:=Z7S ht
  have hdl:=Z0Z D
  have hKe:ZW (Za pick) (Z7 Z2 (Za pick) f) ((kidsOf v q).take (i+1)) n=(P++[⟨Z8 v p,Za pick m,h⟩],h.n):=by
   rw [List.take_succ_eq_append_getElem h3,Z38,h2,←hp,hh2]
  obtain ⟨K,hK⟩:∃ K,Kd.mk (Z8 v p) (Za pick m) h=K:=⟨_,rfl⟩
  rw [hK] at hKe hD hKk
  repeat' (first|refine Sg.Y1 ?_|fail)
  refine T.call rfl rfl (Z0Q (bs:=D) hS (by omega)) ?_
  rintro _ _ ⟨rfl,hH⟩
  have hH2:=hH.symm
  subst hH2
  repeat' (first|(with_reducible apply T.ofRet)|fail)
  refine T.call rfl rfl (Z5l hT (ZU D) (by omega)) ?_
  rintro _ _ ⟨rfl,hH⟩
  subst hH
  have hcA:=Z2N (dg:=Z2) (pk:=Za pick) (f:=f) (Z2a f) (o:=true) (xs:=(kidsOf v q).take i) (n:=n)
  have hcL:=(Z3w (l:=P) (g:=Kd.l true) (k:=Kd.a true) fun K' hK'=>ZbC (by
   have:=ZN (pk:=Za pick) (rec_:=Z7 Z2 (Za pick) f) (xs:=(kidsOf v q).take i) (n:=n) (K:=K') (by rw [h2];exact hK')
   obtain ⟨-,m',e,-⟩:=this
   rw [e]
   exact Z0X _ _ _ _)).length_le
  rw [h2] at hcA
  have hcA:(P.flatMap (Kd.a true)).length+n≤m:=hcA
  have hPK:∀ K'∈P++[K],KN K':=fun K' hK'=>by
   rcases List.mem_append.1 hK' with hK' | hK'
   ·exact hP0 K' hK'
   ·rw [List.mem_singleton.1 hK',←hK]
    exact ⟨o1.fo,o2.fo,Z5R o1,Z5R o2⟩
  have zT:∀ K'∈P++[K],∀ z∈K'.tm Z2 true,sp z≠[]:=fun K' hK'=>Zcz (hPK K' hK')
  have zS:∀ K'∈P++[K],∀ z∈K'.sh true,sp z≠[]:=fun K' hK'=>ZcK (hPK K' hK')
  have zB:∀ K'∈P++[K],∀ z∈K'.bh true,sp z≠[]:=fun K' hK'=>Ze4 (hPK K' hK')
  have zD:∀ K'∈P++[K],∀ z∈K'.sd Z2 true,sp z≠[]:=fun K' hK'=>ZdG
  have hKh:K.h=h:=by rw [←hK]
  have itT:itS ((7:Int)=7) (Z6 K.h.T K.key)=quoS key++[58]++sp h.T:=by
   unfold itS
   rw [if_pos rfl,Z0h (by rw [hKh];exact o1.fo),Z0d (by rw [hKh];exact o1.fo),hKh,hKk]
  have itSh:itS ((7:Int)=7) (Z6 K.h.S K.key)=quoS key++[58]++sp h.S:=by
   unfold itS
   rw [if_pos rfl,Z0h (by rw [hKh];exact o2.fo),Z0d (by rw [hKh];exact o2.fo),hKh,hKk]
  by_cases k0:Za pick m=0
  ·have hKw:K.how=0:=by rw [←hK];exact k0
   repeat' (first|(apply Sr.same;refine T.appendAll (g:=sV) (xs:=P.flatMap (Kd.a true)) (us:=h.A) rfl rfl inferInstance inferInstance rfl (fun _=>rfl) rfl (by constructor<;>omega) rfl ?_;intro wa wc)|(apply Sr.same;refine T.appendAll (g:=sV) (xs:=P.flatMap (Kd.l true)) (us:=h.L) rfl rfl inferInstance inferInstance rfl (fun _=>rfl) rfl (by constructor<;>omega) rfl ?_;intro wl wd)|refine Sg.Y3 ?_|(apply S.condQ;apply rfl;all_goals intro _)|(apply T.gcase;apply rfl;apply rfl;all_goals intro _)|fail)
   refine T.call rfl rfl (Zn (a:=txT 7 P) (b:=quoS key++[58]++sp h.T) (by simp only [List.length_append,List.length_cons,List.length_nil];omega)) ?_
   rintro _ _ ⟨rfl,hH⟩
   subst hH
   rw [show Z05 (txT 7 P) (quoS key++[58]++sp h.T)=txT 7 (P++[K]) from Zx zT (if_pos hKw) itT]
   repeat' (first|refine Sg.Y2 ?_|fail)
   refine T.call rfl rfl (Zn (a:=shT 7 P) (b:=quoS key++[58]++sp h.S) (by simp only [List.length_append,List.length_cons,List.length_nil];omega)) ?_
   rintro _ _ ⟨rfl,hH⟩
   subst hH
   rw [show Z05 (shT 7 P) (quoS key++[58]++sp h.S)=shT 7 (P++[K]) from Zx zS (if_pos hKw) itSh]
   repeat' (first|refine Sg.Y3 ?_|(apply S.condQ;apply rfl;all_goals intro _)|fail)
   have el:(P++[K]).flatMap (Kd.l true)=P.flatMap (Kd.l true)++h.L:=by simp [Kd.l,hKw,hKh]
   have ea:(P++[K]).flatMap (Kd.a true)=P.flatMap (Kd.a true)++h.A:=by simp [Kd.a,hKw,hKh]
   have eb:bhT 7 (P++[K])=bhT 7 P:=Z1I (by unfold Kd.bh;rw [if_neg (by omega)])
   have es:sdT 7 (P++[K])=sdT 7 P:=Z1I (k:=6) (by unfold Kd.sd;rw [if_neg (by omega)])
   have n1:(txT 7 (P++[K])).length≤100000000*(i+1):=by
    rw [←show Z05 (txT 7 P) (quoS key++[58]++sp h.T)=txT 7 (P++[K]) from Zx zT (if_pos hKw) itT]
    have:=ZM (txT 7 P) (quoS key++[58]++sp h.T)
    simp only [List.length_append,List.length_cons,List.length_nil] at this
    omega
   have n2:(shT 7 (P++[K])).length≤100000000*(i+1):=by
    rw [←show Z05 (shT 7 P) (quoS key++[58]++sp h.S)=shT 7 (P++[K]) from Zx zS (if_pos hKw) itSh]
    have:=ZM (shT 7 P) (quoS key++[58]++sp h.S)
    simp only [List.length_append,List.length_cons,List.length_nil] at this
    omega
   dsimp only [List.set_cons_zero,List.set_cons_succ]
   refine S.sublist (H':=.blk bo [sV (txT 7 (P++[K])),sV [],.slice wl ((P++[K]).flatMap (Kd.l true)).length wd,.slice wa ((P++[K]).flatMap (Kd.a true)).length wc,.int .i64 h.n] 43::txR wl wd ((P++[K]).flatMap (Kd.l true))::txR wa wc ((P++[K]).flatMap (Kd.a true))::.row ka kc 3 1 (kidsOf v q).length ((offs (q+1) (kidsOf v q)).map nV)::.blk nbr [.string ByteArray.empty,.string ByteArray.empty,.slice none 0 0,.slice none 0 0,.int .i64 0] 43::H) ?_ (by
    simp only [txR,el,ea,List.length_append]
    exact PSub.drop (PSub.drop (PSub.drop (PSub.drop (PSub.drop (PSub.refl _))))))
   exact ih _ _ _ _ ⟨i+1,h.n,P++[K],wl,wa,wd,wc,rfl,rfl,⟨h3,hKe,n1,n2,by rw [eb];omega,by rw [es];omega⟩,rfl⟩ (by omega) (by
    rw [eb,es]
    repeat' first|exact trivial|refine And.intro rfl ?_)
  have hdq:=Z4t D
  have itD:itS ((6:Int)=7) (strV (Z2 (K.dT true)))=quoS (Z2 D):=by
   unfold itS
   rw [if_neg (by decide),Z13,hD]
   rfl
  by_cases k1:Za pick m=1
  ·have hKw:K.how=1:=by rw [←hK];exact k1
   repeat' (first|(apply Sr.same;refine T.appendAll (g:=sV) (xs:=P.flatMap (Kd.a true)) (us:=h.A) rfl rfl inferInstance inferInstance rfl (fun _=>rfl) rfl (by constructor<;>omega) rfl ?_;intro wa wc)|(apply Sr.same;refine T.appendAll (g:=sV) (xs:=P.flatMap (Kd.l true)) (us:=h.L) rfl rfl inferInstance inferInstance rfl (fun _=>rfl) rfl (by constructor<;>omega) rfl ?_;intro wl wd)|(apply T.bs;(iterate 6 apply rfl);intro nb)|(apply T.append;apply rfl;apply rfl;infer_instance;(first|rfl|(simp;done));(first|rfl|(simp;done));apply rfl;apply rfl;(constructor<;>omega);apply rfl;intro na nc)|refine Sg.Y3 ?_|(apply S.condQ;apply rfl;all_goals intro _)|(apply T.gcase;apply rfl;apply rfl;all_goals intro _)|fail)
   generalize na=wx
   generalize nc=wy
   refine T.call rfl rfl (Zn (a:=sdT 7 P) (b:=quoS (Z2 D)) (by omega)) ?_
   rintro _ _ ⟨rfl,hH⟩
   subst hH
   rw [show Z05 (sdT 7 P) (quoS (Z2 D))=sdT 7 (P++[K]) from Zx (k:=6) zD (if_pos ⟨rfl,by omega⟩) itD]
   repeat' (first|(apply T.bs;(iterate 6 apply rfl);intro nb)|(apply T.append;apply rfl;apply rfl;infer_instance;(first|rfl|(simp;done));(first|rfl|(simp;done));apply rfl;apply rfl;(constructor<;>omega);apply rfl;intro na nc)|refine Sg.Y3 ?_|(apply S.condQ;apply rfl;all_goals intro _)|fail)
   refine T.call rfl rfl (Zn (a:=bhT 7 P) (b:=quoS key++[58]++sp h.S) (by simp only [List.length_append,List.length_cons,List.length_nil];omega)) ?_
   rintro _ _ ⟨rfl,hH⟩
   subst hH
   rw [show Z05 (bhT 7 P) (quoS key++[58]++sp h.S)=bhT 7 (P++[K]) from Zx zB (if_pos ⟨hKw,rfl⟩) itSh]
   repeat' (first|refine Sg.Y2 ?_|fail)
   have el:(P++[K]).flatMap (Kd.l true)=P.flatMap (Kd.l true)++(h.L++[D]):=by simp [Kd.l,hKw,hKh,hD]
   have ea:(P++[K]).flatMap (Kd.a true)=P.flatMap (Kd.a true)++(h.A++[D]):=by simp [Kd.a,hKw,hKh,hD]
   have n3:(sdT 7 (P++[K])).length≤100000000*(i+1):=by
    rw [←show Z05 (sdT 7 P) (quoS (Z2 D))=sdT 7 (P++[K]) from Zx (k:=6) zD (if_pos ⟨rfl,by omega⟩) itD]
    have:=ZM (sdT 7 P) (quoS (Z2 D))
    omega
   have et:txT 7 (P++[K])=txT 7 P:=Z1I (by unfold Kd.tm;rw [if_neg (by omega)];exact if_pos rfl)
   have eh:shT 7 (P++[K])=shT 7 P:=Z1I (by unfold Kd.sh;rw [if_neg (by omega),if_neg (by simp)])
   have n4:(bhT 7 (P++[K])).length≤100000000*(i+1):=by
    rw [←show Z05 (bhT 7 P) (quoS key++[58]++sp h.S)=bhT 7 (P++[K]) from Zx zB (if_pos ⟨hKw,rfl⟩) itSh]
    have:=ZM (bhT 7 P) (quoS key++[58]++sp h.S)
    simp only [List.length_append,List.length_cons,List.length_nil] at this
    omega
   dsimp only [List.set_cons_zero,List.set_cons_succ]
   refine S.sublist (H':=.blk bo [sV (txT 7 (P++[K])),sV [],.slice na ((P++[K]).flatMap (Kd.l true)).length nc,.slice wx ((P++[K]).flatMap (Kd.a true)).length wy,.int .i64 h.n] 43::txR na nc ((P++[K]).flatMap (Kd.l true))::txR wx wy ((P++[K]).flatMap (Kd.a true))::.row ka kc 3 1 (kidsOf v q).length ((offs (q+1) (kidsOf v q)).map nV)::.blk nbr [.string ByteArray.empty,.string ByteArray.empty,.slice none 0 0,.slice none 0 0,.int .i64 0] 43::H) ?_ (by
    simp only [txR,el,ea,et,List.length_append,List.map_append,List.map_cons,List.map_nil,List.length_cons,List.length_nil,Nat.add_assoc,List.append_assoc]
    exact PSub.drop (PSub.drop (PSub.drop (PSub.drop (PSub.drop (PSub.refl _))))))
   exact ih _ _ _ _ ⟨i+1,h.n,P++[K],na,wx,nc,wy,rfl,rfl,⟨h3,hKe,by rw [et];omega,by rw [eh];omega,n4,n3⟩,rfl⟩ (by omega) (by
    rw [eh]
    repeat' first|exact trivial|refine And.intro rfl ?_)
  ·have hKw:K.how=2:=by rw [←hK];show Za pick m=2;omega
   repeat' (first|(apply Sr.same;refine T.appendAll (g:=sV) (xs:=P.flatMap (Kd.a true)) (us:=h.A) rfl rfl inferInstance inferInstance rfl (fun _=>rfl) rfl (by constructor<;>omega) rfl ?_;intro wa wc)|(apply T.bs;(iterate 6 apply rfl);intro nb)|(apply T.append;apply rfl;apply rfl;infer_instance;(first|rfl|(simp;done));(first|rfl|(simp;done));apply rfl;apply rfl;(constructor<;>omega);apply rfl;intro na nc)|refine Sg.Y3 ?_|(apply S.condQ;apply rfl;all_goals intro _)|(apply T.gcase;apply rfl;apply rfl;all_goals intro _)|fail)
   refine T.call rfl rfl (Zn (a:=sdT 7 P) (b:=quoS (Z2 D)) (by omega)) ?_
   rintro _ _ ⟨rfl,hH⟩
   subst hH
   rw [show Z05 (sdT 7 P) (quoS (Z2 D))=sdT 7 (P++[K]) from Zx (k:=6) zD (if_pos ⟨rfl,by omega⟩) itD]
   repeat' (first|refine Sg.Y3 ?_|(apply S.condQ;apply rfl;all_goals intro _)|fail)
   have el:(P++[K]).flatMap (Kd.l true)=P.flatMap (Kd.l true):=by simp [Kd.l,hKw]
   have ea:(P++[K]).flatMap (Kd.a true)=P.flatMap (Kd.a true)++(h.A++[D]):=by simp [Kd.a,hKw,hKh,hD]
   have n3:(sdT 7 (P++[K])).length≤100000000*(i+1):=by
    rw [←show Z05 (sdT 7 P) (quoS (Z2 D))=sdT 7 (P++[K]) from Zx (k:=6) zD (if_pos ⟨rfl,by omega⟩) itD]
    have:=ZM (sdT 7 P) (quoS (Z2 D))
    omega
   have et:txT 7 (P++[K])=txT 7 P:=Z1I (by unfold Kd.tm;rw [if_neg (by omega)];exact if_pos rfl)
   have eh:shT 7 (P++[K])=shT 7 P:=Z1I (by unfold Kd.sh;rw [if_neg (by omega),if_neg (by simp)])
   have eb:bhT 7 (P++[K])=bhT 7 P:=Z1I (by unfold Kd.bh;rw [if_neg (by omega)])
   dsimp only [List.set_cons_zero,List.set_cons_succ]
   refine S.sublist (H':=.blk bo [sV (txT 7 (P++[K])),sV [],.slice la ((P++[K]).flatMap (Kd.l true)).length lc,.slice na ((P++[K]).flatMap (Kd.a true)).length nc,.int .i64 h.n] 43::txR la lc ((P++[K]).flatMap (Kd.l true))::txR na nc ((P++[K]).flatMap (Kd.a true))::.row ka kc 3 1 (kidsOf v q).length ((offs (q+1) (kidsOf v q)).map nV)::.blk nbr [.string ByteArray.empty,.string ByteArray.empty,.slice none 0 0,.slice none 0 0,.int .i64 0] 43::H) ?_ (by
    simp only [txR,el,ea,et,List.length_append,List.map_append,List.map_cons,List.map_nil,List.length_cons,List.length_nil,Nat.add_assoc,List.append_assoc]
    exact PSub.drop (PSub.drop (PSub.drop (PSub.drop (PSub.drop (PSub.refl _))))))
   exact ih _ _ _ _ ⟨i+1,h.n,P++[K],la,na,lc,nc,rfl,rfl,⟨h3,hKe,by rw [et];omega,by rw [eh];omega,by rw [eb];omega,n3⟩,rfl⟩ (by omega) (by
    rw [eh,eb]
    repeat' first|exact trivial|refine And.intro rfl ?_)
 ·obtain rfl:i=(kidsOf v q).length:=by omega
  rw [List.take_length] at h2
  have hil:=(hat.kids_len).2
  by_cases hs:sdT 7 P=[]
  ·repeat' (first|refine Sg.Y3 ?_|(apply S.condQ;apply rfl;all_goals intro _)|fail)
   refine T.call rfl rfl (Zn (a:=shT 7 P) (b:=bhT 7 P) (by omega)) ?_
   rintro _ _ ⟨rfl,hH⟩
   subst hH
   have jl:=ZM (shT 7 P) (bhT 7 P)
   repeat' (first|refine Sg.Y1 ?_|fail)
   refine T.call rfl rfl (Z17 (obj:=true) (by omega)) ?_
   rintro _ _ ⟨rfl,hH⟩
   subst hH
   repeat' (first|refine Sg.Y2 ?_|fail)
   refine ⟨_,PSub.drop (PSub.take Z0 (PSub.take Z0 (PSub.drop (PSub.drop (PSub.refl _))))),la,aa,lc,ac,?_,by rw [h2];rfl⟩
   unfold hidV
   rw [h2,ZdC hP0,ZdB hP0,if_pos hs]
   rfl
  ·have j0:=ZM (([34,95,115,100,34,58,91]++sdT 7 P)++[93]) (txT 7 P)
   simp only [List.length_append,List.length_cons,List.length_nil] at j0
   repeat' (first|refine Sg.Y3 ?_|(apply S.condQ;apply rfl;all_goals intro _)|fail)
   refine T.call rfl rfl (Zn (a:=([34,95,115,100,34,58,91]++sdT 7 P)++[93]) (b:=txT 7 P) (by simp only [List.length_append,List.length_cons,List.length_nil];omega)) ?_
   rintro _ _ ⟨rfl,hH⟩
   subst hH
   repeat' (first|refine Sg.Y1 ?_|fail)
   refine T.call rfl rfl (Zn (a:=shT 7 P) (b:=bhT 7 P) (by omega)) ?_
   rintro _ _ ⟨rfl,hH⟩
   subst hH
   have jl:=ZM (shT 7 P) (bhT 7 P)
   repeat' (first|refine Sg.Y1 ?_|fail)
   refine T.call rfl rfl (Z17 (obj:=true) (by omega)) ?_
   rintro _ _ ⟨rfl,hH⟩
   subst hH
   repeat' (first|refine Sg.Y2 ?_|fail)
   refine ⟨_,PSub.drop (PSub.take Z0 (PSub.take Z0 (PSub.drop (PSub.drop (PSub.refl _))))),la,aa,lc,ac,?_,by rw [h2];rfl⟩
   unfold hidV
   rw [h2,ZdC hP0,ZdB hP0,if_neg hs]
   rfl
end
end Go.Proofs.YtophlopiigpbgaaGreatDoor
/- The law of SdBack: hiding a list, walked. -/
namespace Sg
open Go.Lib
theorem Zdh {K:Kd} (hT:Fo 1 K.h.T):K.dT false=enc urlS ([91]++([34,115,97,108,116,32]++itoa (K.h.n:Int)++[34,44])++sp K.h.T++[93]):=by
 have hi:∀ x,itS ((6:Int)=7) x=sp x:=fun x=>by unfold itS;rw [if_neg (by decide)];rfl
 have hf:∀ y∈[strV (Z1d K.h.n),K.h.T],Fo 1 y:=fun y hy=>by
  rcases List.mem_cons.1 hy with rfl|hy
  ·exact Z4h _
  ·obtain rfl:=List.mem_singleton.1 hy
   exact hT
 unfold Kd.dT
 congr 1
 show sp (rowN 6 [] [strV (Z1d K.h.n),K.h.T])=_
 unfold rowN
 rw [Z1b (n:=⟨6,[],[],false,0,_⟩) rfl hf (.inl rfl)]
 show 91::(Zk ([strV (Z1d K.h.n),K.h.T].map (itS ((6:Int)=7)))++[93])=_
 have hq:=(Z1c K.h.n).1
 simp only [List.map_cons,List.map_nil,hi,Z13,hq,Zk,List.flatMap_cons,List.flatMap_nil]
 unfold Z1d
 simp
theorem ZdA (s:List UInt8):sp (dotV s)=[123,34,46,46,46,34,58]++quoS s++[125]:=by
 unfold dotV rowN
 rw [Z1b (n:=⟨7,[],[],false,0,_⟩) (xs:=[Z6 (strV s) ZJ]) rfl (fun y hy=>by obtain rfl:=List.mem_singleton.1 hy;exact (Z4h s).named _) (.inr rfl)]
 show 123::(Zk [itS ((7:Int)=7) (Z6 (strV s) ZJ)]++[125])=_
 have:itS ((7:Int)=7) (Z6 (strV s) ZJ)=[34,46,46,46,34,58]++quoS s:=by
  unfold itS
  rw [if_pos rfl,Z0d (Z4h s),Z13]
  have:quoS ZJ=[34,46,46,46,34]:=by decide
  show quoS ZJ++[58]++_=_
  rw [this]
  simp
 rw [this]
 simp [Zk]
end Sg
namespace Go.Proofs.YtophlopiigpbgaaGreatDoor
open Sg Go Go.RowKit Go.IntWalk
set_option maxRecDepth 100000
set_option maxHeartbeats 4000000
theorem Zec {P:List Kd} {m:Nat} (h:∀ K∈P,KN K):sp (ZI Z2 6 (P,m)).S=91::(shT 6 P++[93]):=by
 have hb:P.flatMap (Kd.bh false)=[]:=by
  rw [List.flatMap_eq_nil_iff]
  intro K _
  simp [Kd.bh]
 show sp (rowN 6 [] (P.flatMap (Kd.sh false)++P.flatMap (Kd.bh false)))=_
 rw [hb,List.append_nil]
 unfold rowN
 rw [Z1b (n:=⟨6,[],[],false,0,_⟩) rfl (ZdU h) (.inl rfl)]
 rfl
theorem Zeb {P:List Kd} {m:Nat} (h:∀ K∈P,KN K):sp (ZI Z2 6 (P,m)).T=91::(txT 6 P++[93]):=by
 have hb:P.flatMap (Kd.sd Z2 false)=[]:=by
  rw [List.flatMap_eq_nil_iff]
  intro K _
  simp [Kd.sd]
 show sp (rowN 6 [] (Z02 (P.flatMap (Kd.sd Z2 false))++P.flatMap (Kd.tm Z2 false)))=_
 rw [hb,show Z02 []=[] from rfl,List.nil_append]
 unfold rowN
 rw [Z1b (n:=⟨6,[],[],false,0,_⟩) rfl (ZbJ fun K hK=>(h K hK).t) (.inl rfl)]
 rfl
section
variable {F:World} {H:List Res} {v:List Nd} {va pa:Option Addr} {vc pc:Nat} {pick:List Int}
theorem Zao {q n f:Nat} (hT:Tabs F []) (hS:ShP F []) (hI:ItP F) [hRv:Rd F [] H va (v.flatMap ndV)] [hRp:Rd F [] H pa (pick.map iVz)] (ht:∀ z∈pick,0≤z∧z≤2) (hpl:pick.length≤141000000000000) (hv:v.length≤vc) (hvl:v.length≤8192) (hsum:sumT v≤8192)
  (ihk:∀ {X:List Res} [Rd F [] X va (v.flatMap ndV)] [Rd F [] X pa (pick.map iVz)] {p m:Nat},Z4E v p m f→Meets Tryz.prog 17 [.slice va v.length vc,.int .i64 p,.slice pa pick.length pc,.int .i64 m] F [] X (HidR (Z7 Z2 (Za pick) f (Z8 v p) m) X))
  (ha:Z4E v q n (f+1)) (hr:(Zz v q).kind=6) :
  Meets Tryz.prog 17 [.slice va v.length vc,.int .i64 q,.slice pa pick.length pc,.int .i64 n] F [] H (HidR (Z7 Z2 (Za pick) (f+1) (Z8 v q) n) H):=by
 obtain ⟨hat,hlen,⟨d,nm,hd,hok⟩,hbare,hcnt⟩:=ha
 have hlt:=hat.lt
 have hnd:Zz v q=v.getD q default:=Zc hlt
 have hh:Z7 Z2 (Za pick) (f+1) (Z8 v q) n=ZI Z2 (Zz v q).kind (ZW (Za pick) (Z7 Z2 (Za pick) f) (kidsOf v q) n):=by
  rw [Z7,if_pos (show ZF (Z3 (Z8 v q)) from .inl hr),Zh hat]
  rfl
 rw [hh]
 refine Meets.enter Tryz.func17 rfl rfl ?_
 have hk6:(v.getD q default).kind=6:=by rw [←hnd];exact hr
 have hnk:Zz v q=v.getD q default:=hnd
 rw [hr]
 have hk7:¬(v.getD q default).kind=7:=by omega
 repeat' (first|(apply T.eql;(iterate 3 apply rfl);rw [decide_eq_false (by omega)])|(apply T.alloc;apply rfl;intro nb)|refine Sg.Y3 ?_|(apply S.condQ;apply rfl;all_goals intro _)|(apply T.gcase;apply rfl;apply rfl;all_goals intro _)|fail)
 rename_i nbr
 rename Nat=>bo
 refine T.call rfl rfl (Z0G (v:=v) rfl (by omega) hat) ?_
 rintro _ _ ⟨ka,kc,rfl,rfl⟩
 repeat' (first|refine Sg.Y1 ?_|fail)
 refine S.nilrow 9 1 (S.nilrow 9 1 ?_)
 refine S.front bo ?_
 have hxs:∀ y∈kidsOf v q,y.length≤f∧Fo 1 y:=fun y hy=>by
  have h1:=Z0T hat
  have h2:=(Zj h1).2.1
  have h3:=(Zj h1).1
  rw [Zh hat] at h2 h3
  have:=ZR hy
  exact ⟨by omega,h2 y hy⟩
 obtain ⟨g1,-,-,-,-,-,-,g4⟩:=hok.open_
 rw [Zh hat] at g1 g4
 have hkid:∀ y∈kidsOf v q,(∃ nm',VOk (d - 1) nm' y)∧Bare y:=fun y hy=>by
  obtain ⟨nm',v1,-⟩:=Z0f g4 y hy
  refine ⟨⟨nm',v1⟩,Z0C (Z0T hat) hbare (by rw [Zh hat];exact hy)⟩
 refine S.loopE 3 [0,2,8,12,13,17] (fun R b' μ H' e=>∃ (i m:Nat) (P:List Kd) (la aa:Option Addr) (lc ac:Nat),H'=.blk bo [sV (txT 6 P),sV [],.slice la (P.flatMap (Kd.l false)).length lc,.slice aa (P.flatMap (Kd.a false)).length ac,.int .i64 m] 43::txR la lc (P.flatMap (Kd.l false))::txR aa ac (P.flatMap (Kd.a false))::R∧e=(14,sV (shT 6 P))::(15,sV [])::(16,sV [])::(18,.int .i64 i)::b' ∧
  (i≤(kidsOf v q).length∧ZW (Za pick) (Z7 Z2 (Za pick) f) ((kidsOf v q).take i) n=(P,m)∧(txT 6 P).length≤100000000*i∧(shT 6 P).length≤100000000*i)∧μ=(kidsOf v q).length - i) rfl rfl ?_ _ _ ⟨0,n,[],none,none,0,0,rfl,rfl,⟨Nat.zero_le _,rfl,Nat.zero_le _,Nat.zero_le _⟩,rfl⟩ (by repeat' first|exact trivial|refine And.intro rfl ?_)
 rintro _ _ _ ⟨i,m,P,la,aa,lc,ac,rfl,rfl,⟨h1,h2,b1,b2⟩,rfl⟩ ih
 have hP0:∀ K'∈P,KN K':=fun K' hK'=>by
  obtain ⟨y1,m',e,-⟩:=ZN (pk:=Za pick) (rec_:=Z7 Z2 (Za pick) f) (xs:=(kidsOf v q).take i) (n:=n) (K:=K') (by rw [h2];exact hK')
  have y2:=List.mem_of_mem_take y1
  obtain ⟨⟨nm2,w1⟩,w2⟩:=hkid _ y2
  obtain ⟨w3,w4⟩:=Z0i (dg:=Z2) ZU (Za pick) f (n:=m'+1) w1 w2 (hxs _ y2).1
  rw [←e] at w3 w4
  exact ⟨w3.fo,w4.fo,Z5R w3,Z5R w4⟩
 by_cases h3:i < (kidsOf v q).length
 ·have hp:=Z19 hat h3
  have hpi:=Z52 hat h3
  have hplt:=hpi.lt
  generalize hpp:(offs (q+1) (kidsOf v q)).getD i 0=p at *
  have hpn:Zz v p=v.getD p default:=Zc hplt
  obtain ⟨⟨nm',v1⟩,v2⟩:=hkid _ (List.getElem_mem h3)
  rw [←hp] at v1 v2
  have hkk:Z3 (Z8 v p)=v.getD p default:=hpn
  obtain ⟨r,hdr⟩:=Z1a hpi
  have hsk:=Z6L hdr
  have hky:(v.getD p default).key.length≤8192:=by
   have:(Z3 (Z8 v p)).text.length+(Z3 (Z8 v p)).key.length+sumT (kidsOf v p).flatten≤sumT v:=hsk
   rw [hkk] at this
   omega
  have hkv:Lib.validD (v.getD p default).key=true:=by rw [←hkk];exact v1.open_.2.2.1
  have hm:m≤n+(kidsOf v q).flatten.length:=by
   have:=(Z2u (pk:=Za pick) (rec_:=Z7 Z2 (Za pick) f) (xs:=(kidsOf v q).take i) (n:=n) fun y hy m=>Z2p f (hxs y (List.mem_of_mem_take hy)).2 (hxs y (List.mem_of_mem_take hy)).1).1
   rw [h2] at this
   have h5:((kidsOf v q).take i).flatten.length≤(kidsOf v q).flatten.length:=by
    conv=>rhs;rw [←List.take_append_drop i (kidsOf v q),List.flatten_append,List.length_append]
    omega
   exact Nat.le_trans this (by omega)
  have hfl:=congrArg List.length g1
  rw [List.length_cons] at hfl
  have hol:=Z1s (q+1) (kidsOf v q)
  have hkl:=(hat.kids_len).2
  have e1:(m:Int)+1=((m+1:Nat):Int):=by omega
  repeat' (first|refine Sg.Y3 ?_|(apply S.condQ;apply rfl;all_goals intro _)|fail)
  refine T.call rfl rfl (Z4u (n:=m) inferInstance ht (by omega) hpl) ?_
  rintro _ _ ⟨rfl,hH⟩
  subst hH
  repeat' (first|(apply T.addI;apply rfl;apply rfl;omega;apply rfl;rw [e1])|refine Sg.Y1 ?_|fail)
  have hat2:Z4E v p (m+1) f:=⟨hpi,by rw [hp];exact (hxs _ (List.getElem_mem h3)).1,⟨d - 1,nm',by omega,v1⟩,v2,by
   have h5:((kidsOf v q).take i).flatten.length+(Z8 v p).length≤(kidsOf v q).flatten.length:=by
    conv=>rhs;rw [←List.take_append_drop i (kidsOf v q),List.flatten_append,List.length_append,List.drop_eq_getElem_cons h3,List.flatten_cons,List.length_append,←hp]
    omega
   have:=(Z2u (pk:=Za pick) (rec_:=Z7 Z2 (Za pick) f) (xs:=(kidsOf v q).take i) (n:=n) fun y hy m=>Z2p f (hxs y (List.mem_of_mem_take hy)).2 (hxs y (List.mem_of_mem_take hy)).1).1
   rw [h2] at this
   have this:m≤_:=this
   omega⟩
  have n1:∀ {X:List Res} [Rd F [] X va (v.flatMap ndV)] [Rd F [] X pa (pick.map iVz)],Meets Tryz.prog 17 [.slice va v.length vc,.int .i64 p,.slice pa pick.length pc,.int .i64 ((m+1:Nat):Int)] F [] X (HidR (Z7 Z2 (Za pick) f (Z8 v p) (m+1)) X):=fun {X} _ _=>ihk (X:=X) hat2
  generalize hh2:Z7 Z2 (Za pick) f (Z8 v p) (m+1)=h at n1
  generalize hkey:(v.getD p default).key=key at *
  dsimp only [List.set_cons_zero,List.set_cons_succ]
  refine S.cut (fun H' e'=>∃ (xo:Nat) (lb ab:Option Addr) (ld ad:Nat),H'=.blk xo [sV (sp h.T),sV (sp h.S),.slice lb h.L.length ld,.slice ab h.A.length ad,.int .i64 h.n] 43::txR lb ld h.L::txR ab ad h.A::.blk bo [sV (txT 6 P),sV [],.slice la (P.flatMap (Kd.l false)).length lc,.slice aa (P.flatMap (Kd.a false)).length ac,.int .i64 ((m+1:Nat):Int)] 43::txR la lc (P.flatMap (Kd.l false))::txR aa ac (P.flatMap (Kd.a false))::.row ka kc 3 1 (kidsOf v q).length ((offs (q+1) (kidsOf v q)).map nV)::.blk nbr [.string ByteArray.empty,.string ByteArray.empty,.slice none 0 0,.slice none 0 0,.int .i64 0] 43::H ∧
   e'=[(21,.pointer (some ⟨xo,0,none⟩)),(19,sV []),(20,.int .i64 (Za pick m)),(14,sV (shT 6 P)),(15,sV []),(16,sV []),(18,.int .i64 i),(0,.slice va v.length vc),(2,.slice pa pick.length pc),(8,.pointer (some ⟨nbr,0,none⟩)),(12,.pointer (some ⟨bo,0,none⟩)),(13,.bool false),(17,.slice ka (kidsOf v q).length kc)]) ?_ ?_
  ·intro k' hk'
   (apply S.draw;(case Hs=>exact .blk bo [sV (txT 6 P),sV [],.slice la (P.flatMap (Kd.l false)).length lc,.slice aa (P.flatMap (Kd.a false)).length ac,.int .i64 ((m+1:Nat):Int)] 43::txR la lc (P.flatMap (Kd.l false))::txR aa ac (P.flatMap (Kd.a false))::.row ka kc 3 1 (kidsOf v q).length ((offs (q+1) (kidsOf v q)).map nV)::.blk nbr [.string ByteArray.empty,.string ByteArray.empty,.slice none 0 0,.slice none 0 0,.int .i64 0] 43::H);(case es=>exact  [8,9,10]);(case n=>exact  11);(case hn=>rfl))
   repeat' (first|(apply T.loadNat;apply rfl;infer_instance;omega;apply rfl;rw [hpp])|(apply Sr.same;refine T.call rfl rfl n1 ?_;rintro _ _ ⟨lb,ab,ld,ad,rfl,rfl⟩)|(apply T.alloc;apply rfl;intro nb)|(apply SA.qz;(iterate 4 apply rfl);kernel_rfl)|(apply SA.qsn;(iterate 3 apply rfl);kernel_rfl;(first|exact fun _ h=>h|exact fun _ h=>St.psub h (by ((repeat (first|dsimp only [List.set_cons_zero]|dsimp only [List.set_cons_succ]));repeat' first|exact PSub.refl _|exact PSub.nil|(with_reducible apply PSub.app)|(apply PSub.take;(repeat' first|(with_reducible exact Z0)|(with_reducible apply Z1)))|(with_reducible apply PSub.drop)|((apply PSub.take);(repeat' first|exact Z0|(apply Z1)))))))|(apply SA.e2;(iterate 3 apply rfl);kernel_rfl)|(apply SA.done;apply rfl;kernel_rfl)|(apply SK.intro;(first|exact fun _ h=>h|exact fun _ h=>St.psub h (by ((repeat (first|dsimp only [List.set_cons_zero]|dsimp only [List.set_cons_succ]));repeat' first|exact PSub.refl _|exact PSub.nil|(with_reducible apply PSub.app)|(apply PSub.take;(repeat' first|(with_reducible exact Z0)|(with_reducible apply Z1)))|(with_reducible apply PSub.drop)|((apply PSub.take);(repeat' first|exact Z0|(apply Z1)))))))|refine Sg.Y2 ?_|fail)
   all_goals first
    | exact hk' _ _ _ ⟨_,lb,ab,ld,ad,rfl,rfl⟩ (by repeat' first|exact trivial|refine And.intro rfl ?_)
    | (refine S.front nb ?_;exact hk' _ _ _ ⟨_,lb,ab,ld,ad,rfl,rfl⟩ (by repeat' first|exact trivial|refine And.intro rfl ?_))
  rintro _ _ ⟨xo,lb,ab,ld,ad,rfl,rfl⟩
  obtain ⟨c1,c2⟩:=Z2M (dg:=Z2) (pk:=Za pick) ZU Z4t f (n:=m+1) v1 v2 hat2.len (by have:=hat2.cnt;omega)
  have o2:=(Z0i (dg:=Z2) ZU (Za pick) f (n:=m+1) v1 v2 hat2.len).2
  have o1:=(Z0i (dg:=Z2) ZU (Za pick) f (n:=m+1) v1 v2 hat2.len).1
  have c3:=Z2a (dg:=Z2) (pk:=Za pick) f (x:=Z8 v p) (n:=m+1)
  have c4:=Z2p (dg:=Z2) (pk:=Za pick) f (n:=m+1) (Z0T hpi) hat2.len
  have c5:=(Z0X (dg:=Z2) (Za pick) f (Z8 v p) (m+1)).length_le
  have c6:=hat2.cnt
  have c7:=Z5K hpi
  rw [hh2] at c1 c2 c3 c4 c5 o1 o2
  rw [ZaT] at c1
  rw [Z9f (Z8 v p)] at c2
  have c8:=Z0q _ _ o2.fo (Nat.le_refl _)
  have hTn:(sp h.T).length≤2000000:=by omega
  have hSn:(sp h.S).length≤300000:=by unfold sp;omega
  clear c1 c2 c8
  have hqk:=Z07 key
  have hit:(Lib.itoa (h.n:Int)).length≤21:=Lib.itoa_length_le _ (by omega) (by omega)
  repeat' (first|refine Sg.Y1 ?_|fail)
  refine T.call rfl rfl (Z6h (n:=h.n) hI (by omega)) ?_
  rintro _ _ ⟨rfl,hH⟩
  have hH2:=hH.symm
  subst hH2
  repeat' (first|(apply T.convSB;apply rfl;apply rfl;intro sb sc r0 hR0 hc0)|refine Sg.Y1 ?_|fail)
  obtain ⟨D,hD⟩:∃ D,(Kd.mk (Z8 v p) (Za pick m) h).dT false=D:=⟨_,rfl⟩
  have hKk:(Kd.mk (Z8 v p) (Za pick m) h).key=key:=by rw [←hkey,←hkk];rfl
  have hDl:=ZaH (obj:=false) (K:=Kd.mk (Z8 v p) (Za pick m) h) o1.fo (by show h.n≤_;omega)
  rw [hD,hKk] at hDl
  have hDl2:D.length≤100000000:=by
   have:3*D.length≤4*(sp h.T).length+24*key.length+180:=hDl
   omega
  refine T.call rfl rfl (Z1t hR0 hc0 (by simp only [List.length_append,List.length_cons,List.length_nil];omega)) ?_
  rintro _ _ ⟨rfl,r1,rfl⟩
  rw [show enc urlS ([91]++([34,115,97,108,116,32]++Lib.itoa (h.n:Int)++[34,44])++sp h.T++[93])=D by
   rw [←hD,Zdh (K:=Kd.mk (Z8 v p) (Za pick m) h) o1.fo]]
  have hpk:Za pick m≤2:=Z7S ht
  have hdl:=Z0Z D
  have hKe:ZW (Za pick) (Z7 Z2 (Za pick) f) ((kidsOf v q).take (i+1)) n=(P++[⟨Z8 v p,Za pick m,h⟩],h.n):=by
   rw [List.take_succ_eq_append_getElem h3,Z38,h2,←hp,hh2]
  obtain ⟨K,hK⟩:∃ K,Kd.mk (Z8 v p) (Za pick m) h=K:=⟨_,rfl⟩
  rw [hK] at hKe hD hKk
  repeat' (first|refine Sg.Y1 ?_|fail)
  refine T.call rfl rfl (Z0Q (bs:=D) hS (by omega)) ?_
  rintro _ _ ⟨rfl,hH⟩
  have hH2:=hH.symm
  subst hH2
  repeat' (first|(with_reducible apply T.ofRet)|fail)
  refine T.call rfl rfl (Z5l hT (ZU D) (by omega)) ?_
  rintro _ _ ⟨rfl,hH⟩
  subst hH
  have hcA:=Z2N (dg:=Z2) (pk:=Za pick) (f:=f) (Z2a f) (o:=false) (xs:=(kidsOf v q).take i) (n:=n)
  have hcL:=(Z3w (l:=P) (g:=Kd.l false) (k:=Kd.a false) fun K' hK'=>ZbC (by
   have:=ZN (pk:=Za pick) (rec_:=Z7 Z2 (Za pick) f) (xs:=(kidsOf v q).take i) (n:=n) (K:=K') (by rw [h2];exact hK')
   obtain ⟨-,m',e,-⟩:=this
   rw [e]
   exact Z0X _ _ _ _)).length_le
  rw [h2] at hcA
  have hcA:(P.flatMap (Kd.a false)).length+n≤m:=hcA
  have hPK:∀ K'∈P++[K],KN K':=fun K' hK'=>by
   rcases List.mem_append.1 hK' with hK' | hK'
   ·exact hP0 K' hK'
   ·rw [List.mem_singleton.1 hK',←hK]
    exact ⟨o1.fo,o2.fo,Z5R o1,Z5R o2⟩
  have zT:∀ K'∈P++[K],∀ z∈K'.tm Z2 false,sp z≠[]:=fun K' hK'=>Zcz (hPK K' hK')
  have zS:∀ K'∈P++[K],∀ z∈K'.sh false,sp z≠[]:=fun K' hK'=>ZcK (hPK K' hK')
  have hKh:K.h=h:=by rw [←hK]
  have itT:itS ((6:Int)=7) (Z6 K.h.T K.key)=[]++sp h.T:=by
   unfold itS
   rw [if_neg (by decide),Z0d (by rw [hKh];exact o1.fo),hKh]
  have itSh:itS ((6:Int)=7) (Z6 K.h.S K.key)=[]++sp h.S:=by
   unfold itS
   rw [if_neg (by decide),Z0d (by rw [hKh];exact o2.fo),hKh]
  have itX:itS ((6:Int)=7) K.h.S=sp h.S:=by
   unfold itS
   rw [if_neg (by decide),hKh]
   rfl
  have hdq:=Z4t D
  have itD:itS ((6:Int)=7) (dotV (Z2 (K.dT false)))=[123,34,46,46,46,34,58]++quoS (Z2 D)++[125]:=by
   unfold itS
   rw [if_neg (by decide),ZdA,hD]
   rfl
  by_cases k0:Za pick m=0
  ·have hKw:K.how=0:=by rw [←hK];exact k0
   repeat' (first|(apply Sr.same;refine T.appendAll (g:=sV) (xs:=P.flatMap (Kd.a false)) (us:=h.A) rfl rfl inferInstance inferInstance rfl (fun _=>rfl) rfl (by constructor<;>omega) rfl ?_;intro wa wc)|(apply Sr.same;refine T.appendAll (g:=sV) (xs:=P.flatMap (Kd.l false)) (us:=h.L) rfl rfl inferInstance inferInstance rfl (fun _=>rfl) rfl (by constructor<;>omega) rfl ?_;intro wl wd)|refine Sg.Y3 ?_|(apply S.condQ;apply rfl;all_goals intro _)|(apply T.gcase;apply rfl;apply rfl;all_goals intro _)|fail)
   refine T.call rfl rfl (Zn (a:=txT 6 P) (b:=[]++sp h.T) (by simp only [List.length_append,List.length_cons,List.length_nil];omega)) ?_
   rintro _ _ ⟨rfl,hH⟩
   subst hH
   rw [show Z05 (txT 6 P) ([]++sp h.T)=txT 6 (P++[K]) from Zx zT (if_pos hKw) itT]
   repeat' (first|refine Sg.Y2 ?_|fail)
   refine T.call rfl rfl (Zn (a:=shT 6 P) (b:=[]++sp h.S) (by simp only [List.length_append,List.length_cons,List.length_nil];omega)) ?_
   rintro _ _ ⟨rfl,hH⟩
   subst hH
   rw [show Z05 (shT 6 P) ([]++sp h.S)=shT 6 (P++[K]) from Zx zS (if_pos hKw) itSh]
   repeat' (first|refine Sg.Y3 ?_|(apply S.condQ;apply rfl;all_goals intro _)|fail)
   have el:(P++[K]).flatMap (Kd.l false)=P.flatMap (Kd.l false)++h.L:=by simp [Kd.l,hKw,hKh]
   have ea:(P++[K]).flatMap (Kd.a false)=P.flatMap (Kd.a false)++h.A:=by simp [Kd.a,hKw,hKh]
   have n1:(txT 6 (P++[K])).length≤100000000*(i+1):=by
    rw [←show Z05 (txT 6 P) ([]++sp h.T)=txT 6 (P++[K]) from Zx zT (if_pos hKw) itT]
    have:=ZM (txT 6 P) ([]++sp h.T)
    simp only [List.length_append,List.length_cons,List.length_nil] at this
    omega
   have n2:(shT 6 (P++[K])).length≤100000000*(i+1):=by
    rw [←show Z05 (shT 6 P) ([]++sp h.S)=shT 6 (P++[K]) from Zx zS (if_pos hKw) itSh]
    have:=ZM (shT 6 P) ([]++sp h.S)
    simp only [List.length_append,List.length_cons,List.length_nil] at this
    omega
   dsimp only [List.set_cons_zero,List.set_cons_succ]
   refine S.sublist (H':=.blk bo [sV (txT 6 (P++[K])),sV [],.slice wl ((P++[K]).flatMap (Kd.l false)).length wd,.slice wa ((P++[K]).flatMap (Kd.a false)).length wc,.int .i64 h.n] 43::txR wl wd ((P++[K]).flatMap (Kd.l false))::txR wa wc ((P++[K]).flatMap (Kd.a false))::.row ka kc 3 1 (kidsOf v q).length ((offs (q+1) (kidsOf v q)).map nV)::.blk nbr [.string ByteArray.empty,.string ByteArray.empty,.slice none 0 0,.slice none 0 0,.int .i64 0] 43::H) ?_ (by
    simp only [txR,el,ea,List.length_append,List.map_append,List.map_cons,List.map_nil,List.length_cons,List.length_nil,Nat.add_assoc,List.append_assoc]
    exact PSub.drop (PSub.drop (PSub.drop (PSub.drop (PSub.drop (PSub.refl _))))))
   exact ih _ _ _ _ ⟨i+1,h.n,P++[K],wl,wa,wd,wc,rfl,rfl,⟨h3,hKe,n1,n2⟩,rfl⟩ (by omega) (by
    repeat' first|exact trivial|refine And.intro rfl ?_)
  by_cases k1:Za pick m=1
  ·have hKw:K.how=1:=by rw [←hK];exact k1
   repeat' (first|(apply Sr.same;refine T.appendAll (g:=sV) (xs:=P.flatMap (Kd.a false)) (us:=h.A) rfl rfl inferInstance inferInstance rfl (fun _=>rfl) rfl (by constructor<;>omega) rfl ?_;intro wa wc)|(apply Sr.same;refine T.appendAll (g:=sV) (xs:=P.flatMap (Kd.l false)) (us:=h.L) rfl rfl inferInstance inferInstance rfl (fun _=>rfl) rfl (by constructor<;>omega) rfl ?_;intro wl wd)|(apply T.bs;(iterate 6 apply rfl);intro nb)|(apply T.append;apply rfl;apply rfl;infer_instance;(first|rfl|(simp;done));(first|rfl|(simp;done));apply rfl;apply rfl;(constructor<;>omega);apply rfl;intro na nc)|refine Sg.Y3 ?_|(apply S.condQ;apply rfl;all_goals intro _)|(apply T.gcase;apply rfl;apply rfl;all_goals intro _)|fail)
   generalize na=wx
   generalize nc=wy
   refine T.call rfl rfl (Zn (a:=txT 6 P) (b:=[123,34,46,46,46,34,58]++quoS (Z2 D)++[125]) (by simp only [List.length_append,List.length_cons,List.length_nil];omega)) ?_
   rintro _ _ ⟨rfl,hH⟩
   subst hH
   rw [show Z05 (txT 6 P) ([123,34,46,46,46,34,58]++quoS (Z2 D)++[125])=txT 6 (P++[K]) from Zx zT (show K.tm Z2 false=[dotV (Z2 (K.dT false))] by unfold Kd.tm;rw [if_neg (by omega)];exact if_neg (by simp)) itD]
   repeat' (first|(apply T.bs;(iterate 6 apply rfl);intro nb)|(apply T.append;apply rfl;apply rfl;infer_instance;(first|rfl|(simp;done));(first|rfl|(simp;done));apply rfl;apply rfl;(constructor<;>omega);apply rfl;intro na nc)|refine Sg.Y3 ?_|(apply S.condQ;apply rfl;all_goals intro _)|fail)
   refine T.call rfl rfl (Zn (a:=shT 6 P) (b:=sp h.S) (by omega)) ?_
   rintro _ _ ⟨rfl,hH⟩
   subst hH
   rw [show Z05 (shT 6 P) (sp h.S)=shT 6 (P++[K]) from Zx zS (show K.sh false=[K.h.S] by unfold Kd.sh;rw [if_neg (by omega),if_pos ⟨hKw,rfl⟩]) itX]
   repeat' (first|refine Sg.Y2 ?_|fail)
   have el:(P++[K]).flatMap (Kd.l false)=P.flatMap (Kd.l false)++(h.L++[D]):=by simp [Kd.l,hKw,hKh,hD]
   have ea:(P++[K]).flatMap (Kd.a false)=P.flatMap (Kd.a false)++(h.A++[D]):=by simp [Kd.a,hKw,hKh,hD]
   have n1:(txT 6 (P++[K])).length≤100000000*(i+1):=by
    rw [←show Z05 (txT 6 P) ([123,34,46,46,46,34,58]++quoS (Z2 D)++[125])=txT 6 (P++[K]) from Zx zT (show K.tm Z2 false=[dotV (Z2 (K.dT false))] by unfold Kd.tm;rw [if_neg (by omega)];exact if_neg (by simp)) itD]
    have:=ZM (txT 6 P) ([123,34,46,46,46,34,58]++quoS (Z2 D)++[125])
    simp only [List.length_append,List.length_cons,List.length_nil] at this
    omega
   have n2:(shT 6 (P++[K])).length≤100000000*(i+1):=by
    rw [←show Z05 (shT 6 P) (sp h.S)=shT 6 (P++[K]) from Zx zS (show K.sh false=[K.h.S] by unfold Kd.sh;rw [if_neg (by omega),if_pos ⟨hKw,rfl⟩]) itX]
    have:=ZM (shT 6 P) (sp h.S)
    omega
   dsimp only [List.set_cons_zero,List.set_cons_succ]
   refine S.sublist (H':=.blk bo [sV (txT 6 (P++[K])),sV [],.slice na ((P++[K]).flatMap (Kd.l false)).length nc,.slice wx ((P++[K]).flatMap (Kd.a false)).length wy,.int .i64 h.n] 43::txR na nc ((P++[K]).flatMap (Kd.l false))::txR wx wy ((P++[K]).flatMap (Kd.a false))::.row ka kc 3 1 (kidsOf v q).length ((offs (q+1) (kidsOf v q)).map nV)::.blk nbr [.string ByteArray.empty,.string ByteArray.empty,.slice none 0 0,.slice none 0 0,.int .i64 0] 43::H) ?_ (by
    simp only [txR,el,ea,List.length_append,List.map_append,List.map_cons,List.map_nil,List.length_cons,List.length_nil,Nat.add_assoc,List.append_assoc]
    exact PSub.drop (PSub.drop (PSub.drop (PSub.drop (PSub.drop (PSub.refl _))))))
   exact ih _ _ _ _ ⟨i+1,h.n,P++[K],na,wx,nc,wy,rfl,rfl,⟨h3,hKe,n1,n2⟩,rfl⟩ (by omega) (by
    repeat' first|exact trivial|refine And.intro rfl ?_)
  ·have hKw:K.how=2:=by rw [←hK];show Za pick m=2;omega
   repeat' (first|(apply Sr.same;refine T.appendAll (g:=sV) (xs:=P.flatMap (Kd.a false)) (us:=h.A) rfl rfl inferInstance inferInstance rfl (fun _=>rfl) rfl (by constructor<;>omega) rfl ?_;intro wa wc)|(apply T.bs;(iterate 6 apply rfl);intro nb)|(apply T.append;apply rfl;apply rfl;infer_instance;(first|rfl|(simp;done));(first|rfl|(simp;done));apply rfl;apply rfl;(constructor<;>omega);apply rfl;intro na nc)|refine Sg.Y3 ?_|(apply S.condQ;apply rfl;all_goals intro _)|(apply T.gcase;apply rfl;apply rfl;all_goals intro _)|fail)
   refine T.call rfl rfl (Zn (a:=txT 6 P) (b:=[123,34,46,46,46,34,58]++quoS (Z2 D)++[125]) (by simp only [List.length_append,List.length_cons,List.length_nil];omega)) ?_
   rintro _ _ ⟨rfl,hH⟩
   subst hH
   rw [show Z05 (txT 6 P) ([123,34,46,46,46,34,58]++quoS (Z2 D)++[125])=txT 6 (P++[K]) from Zx zT (show K.tm Z2 false=[dotV (Z2 (K.dT false))] by unfold Kd.tm;rw [if_neg (by omega)];exact if_neg (by simp)) itD]
   repeat' (first|refine Sg.Y3 ?_|(apply S.condQ;apply rfl;all_goals intro _)|fail)
   have el:(P++[K]).flatMap (Kd.l false)=P.flatMap (Kd.l false):=by simp [Kd.l,hKw]
   have ea:(P++[K]).flatMap (Kd.a false)=P.flatMap (Kd.a false)++(h.A++[D]):=by simp [Kd.a,hKw,hKh,hD]
   have eh:shT 6 (P++[K])=shT 6 P:=Z1I (by unfold Kd.sh;rw [if_neg (by omega),if_neg (by omega)])
   have n1:(txT 6 (P++[K])).length≤100000000*(i+1):=by
    rw [←show Z05 (txT 6 P) ([123,34,46,46,46,34,58]++quoS (Z2 D)++[125])=txT 6 (P++[K]) from Zx zT (show K.tm Z2 false=[dotV (Z2 (K.dT false))] by unfold Kd.tm;rw [if_neg (by omega)];exact if_neg (by simp)) itD]
    have:=ZM (txT 6 P) ([123,34,46,46,46,34,58]++quoS (Z2 D)++[125])
    simp only [List.length_append,List.length_cons,List.length_nil] at this
    omega
   dsimp only [List.set_cons_zero,List.set_cons_succ]
   refine S.sublist (H':=.blk bo [sV (txT 6 (P++[K])),sV [],.slice la ((P++[K]).flatMap (Kd.l false)).length lc,.slice na ((P++[K]).flatMap (Kd.a false)).length nc,.int .i64 h.n] 43::txR la lc ((P++[K]).flatMap (Kd.l false))::txR na nc ((P++[K]).flatMap (Kd.a false))::.row ka kc 3 1 (kidsOf v q).length ((offs (q+1) (kidsOf v q)).map nV)::.blk nbr [.string ByteArray.empty,.string ByteArray.empty,.slice none 0 0,.slice none 0 0,.int .i64 0] 43::H) ?_ (by
    simp only [txR,el,ea,List.length_append,List.map_append,List.map_cons,List.map_nil,List.length_cons,List.length_nil,Nat.add_assoc,List.append_assoc]
    exact PSub.drop (PSub.drop (PSub.drop (PSub.drop (PSub.drop (PSub.refl _))))))
   exact ih _ _ _ _ ⟨i+1,h.n,P++[K],la,na,lc,nc,rfl,rfl,⟨h3,hKe,n1,by rw [eh];omega⟩,rfl⟩ (by omega) (by
    rw [eh]
    repeat' first|exact trivial|refine And.intro rfl ?_)
 ·obtain rfl:i=(kidsOf v q).length:=by omega
  rw [List.take_length] at h2
  have hil:=(hat.kids_len).2
  repeat' (first|refine Sg.Y3 ?_|(apply S.condQ;apply rfl;all_goals intro _)|fail)
  refine T.call rfl rfl (Zn (a:=shT 6 P) (b:=[]) (by simp only [List.length_nil];omega)) ?_
  rintro _ _ ⟨rfl,hH⟩
  subst hH
  rw [Zai]
  repeat' (first|refine Sg.Y1 ?_|fail)
  refine T.call rfl rfl (Z17 (obj:=false) (by omega)) ?_
  rintro _ _ ⟨rfl,hH⟩
  subst hH
  repeat' (first|refine Sg.Y2 ?_|fail)
  refine ⟨_,PSub.drop (PSub.take Z0 (PSub.take Z0 (PSub.drop (PSub.drop (PSub.refl _))))),la,aa,lc,ac,?_,by rw [h2];rfl⟩
  unfold hidV
  rw [h2,Zec hP0,Zeb hP0]
  rfl
end
end Go.Proofs.YtophlopiigpbgaaGreatDoor
/- The law of SdBack: hiding, whole; the law, walked. -/
namespace Go.Proofs.YtophlopiigpbgaaGreatDoor
open Sg Go Go.RowKit Go.IntWalk
set_option maxRecDepth 100000
set_option maxHeartbeats 4000000
section
variable {q:Sg.Mode} {c:Ctx} {ds:List Deferred} {H:List Res} {ops:Array Oper} {l:List Oper} {κ:List Res→Env→Prop} {e:Env} {ty:TypeId} {pos:String} {aft:Array Edge}
theorem T.remZ {x y:Operand} {d:Tmp} {t u:TypeId} {m:Int} {n:Nat} (hx:ev e x=some (.int .i64 m)) (hy:ev e y=some (.int .i64 (n:Int))) (hn:0 < n∧n < 4611686018427387904) (hlt:Nat.blt d c.fn.ntmps=true) (hk:Sr q c ds H ops l κ ((d,.int .i64 (m.tmod n))::e)) :
  Sr q c ds H ops (⟨some d,.binOp .rem t x y u,ty,pos,aft,none⟩::l) κ e:=Sr.p (Pu.rem hx hy (by omega) (by
   rfl)) rfl hlt rfl hk
end
section
variable {F:World} {v:List Nd} {va pa:Option Addr} {vc pc:Nat} {pick:List Int}
theorem Z4c (hT:Tabs F []) (hS:ShP F []) (hI:ItP F) (ht:∀ z∈pick,0≤z∧z≤2) (hpl:pick.length≤141000000000000) (hv:v.length≤vc) (hvl:v.length≤8192) (hsum:sumT v≤8192):∀ (f:Nat) {q n:Nat} {H:List Res} [Rd F [] H va (v.flatMap ndV)] [Rd F [] H pa (pick.map iVz)],Z4E v q n f →
  Meets Tryz.prog 17 [.slice va v.length vc,.int .i64 q,.slice pa pick.length pc,.int .i64 n] F [] H (HidR (Z7 Z2 (Za pick) f (Z8 v q) n) H)
 | 0,q,n,H,_,_,ha=>by
  have:=(Z0T ha.at_).pos
  have:=ha.len
  omega
 | f+1,q,n,H,i1,i2,ha=>by
  by_cases h7:(Zz v q).kind=7
  ·exact ZbF hT hS hI ht hpl hv hvl hsum (fun {X} _ _ {p m} h=>Z4c hT hS hI ht hpl hv hvl hsum f h) ha h7
  by_cases h6:(Zz v q).kind=6
  ·exact Zao hT hS hI ht hpl hv hvl hsum (fun {X} _ _ {p m} h=>Z4c hT hS hI ht hpl hv hvl hsum f h) ha h6
  obtain ⟨d,nm,hd,hok⟩:=ha.ok
  obtain ⟨r,hdr⟩:=Z1a ha.at_
  have hsk:=Z6L hdr
  refine Zap hT hv (by omega) ha.at_ hok (fun h=>h.elim h6 h7) hd ?_
  have:(Zz v q).text.length+(Zz v q).key.length+sumT (kidsOf v q).flatten≤sumT v:=hsk
  omega
theorem Zbj:Reads Z2 Z2G:=fun {D v s} hv h=>by
 unfold Z2G decO at h
 rw [ZaF,if_pos rfl] at h
 unfold Z4z at h
 simp only at h
 rcases Z25 hv with ⟨-,e⟩|e|⟨-,a,e⟩
 ·rw [e] at h;cases h
 ·rw [e] at h;exact h
 ·rw [e] at h;cases h
end
end Go.Proofs.YtophlopiigpbgaaGreatDoor
