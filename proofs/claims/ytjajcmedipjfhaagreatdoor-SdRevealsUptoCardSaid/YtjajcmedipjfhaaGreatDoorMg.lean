/- Texts put together by a program: JsnY RowN NodA NodB NodC RevA RevQ ShpP ShlV. -/
import Derived.Test.YtjajcmedipjfhaaGreatDoorMf
import Derived.Test.YtjajcmedipjfhaaGreatDoorMe
import Derived.Test.YtjajcmedipjfhaaGreatDoorMa
import Derived.Test.YtjajcmedipjfhaaGreatDoorMb
import Derived.Test.YtjajcmedipjfhaaGreatDoorMc
import Derived.Test.YtjajcmedipjfhaaGreatDoorMd
import Derived.Lib.ValidU
import Derived.Shelf.Unicode.ValidAny
import Derived.Test.YtjajcmedipjfhaaGreatDoorProg
/- The walks of the program's reader of JSON: it says what going down says. -/
namespace Go.Proofs.YtjajcmedipjfhaaGreatDoor
open Sg Go.IntWalk
set_option maxRecDepth 100000
set_option maxHeartbeats 4000000
section
variable {F:World} {M:List Nat} {H:List Res} {p:Nat} {t:List UInt8} {C:Jc} {c:Cf}
def ParP (H:List Res):Gt (List Nd)→Ending→List Res→Prop
 | .ok _ l=>fun e H'=>∃ oa oc,e=.returned (.tuple ⟨[.slice oa l.length oc,.int .i64 0,.int .i64 0]⟩)∧H'=ouR oa oc l::H
 | .bad c a=>fun e H'=>e=.returned (.tuple ⟨[.slice none 0 0,.int .i64 c,.int .i64 a]⟩)∧H'=H
theorem ZbT (hr:Rel C c) (hi:Inv t C):Rel { C with a:=Z3 t C.a } { c with p:=Z3 t c.p }∧Inv t { C with a:=Z3 t C.a }:=by
 have h1:=Zp t C.a
 have h2:=Zh (t:=t) hi.at_
 refine ⟨⟨?_,hr.s,hr.out,hr.key,hr.stk⟩,⟨h2,?_,hi.kids,hi.idx,hi.kind,fun z hz y hy=>?_,hi.dep⟩⟩
 ·show Z3 t C.a=Z3 t c.p
  rw [hr.p]
 ·have:=hi.outl
  show C.out.length≤Z3 t C.a
  omega
 ·have:=hi.maps z hz y hy
  show y.2.length≤Z3 t C.a
  omega
theorem Z9b (h:GoodC c) (q:Nat):GoodC { c with p:=q }:=⟨h.one,h.top,h.le⟩
theorem Zbn (C:Jc) (p:Nat) (t:List UInt8) (H:List Res):PSub (ouR C.oa C.oc C.out::H) (C.res p t H) :=
 PSub.drop (PSub.take Z0 (PSub.drop (PSub.drop (Z0h H C.st))))
theorem Z8V (hT:Tabs F M) (h63:t.length≤maxLen):Meets Tryz.prog 21 [sV t] F M H (ParP H (Z05 Z6 t)):=by
 refine Meets.enter Tryz.func21 rfl rfl ?_
 by_cases hl:262144 < t.length
 ·have hp:Z05 Z6 t=.bad 10 0:=by unfold Z05;rw [if_pos hl]
  rw [hp]
  repeat' (first|refine Sg.Y3 ?_|(apply S.condQ;apply rfl;all_goals intro _)|fail)
  exact ⟨_,PSub.refl _,rfl,rfl⟩
 ·have hl':t.length≤262144:=by omega
  rw [←Z96 hl']
  refine S.nilrow 55 1 ?_
  refine S.nilrow 3 1 ?_
  refine S.nilrow 34 6 ?_
  repeat' (first|(apply T.box;apply rfl;apply rfl;intro nb)|refine Sg.Y3 ?_|(apply S.condQ;apply rfl;all_goals intro _)|fail)
  refine T.call rfl rfl (Z4b (t:=t) (o:=.slice none 0 0) (n:=.slice none 0 0) (m:=.slice none 0 0) (a:=0) (s:=0) (k:=[]) (c:=0) (b:=0) (Nat.zero_le _) (by omega)) ?_
  rintro _ _ ⟨rfl,rfl⟩
  have h0:mach Z6 t (t.length+1) ⟨Z3 t 0,0,[],[],[]⟩=mach Z6 t (t.length+1) ⟨0,0,[],[],[]⟩:=Z6p (c:=⟨0,0,[],[],[]⟩)
  have hsl:=Zh (t:=t) (p:=0) (Nat.zero_le _)
  rw [←h0]
  generalize hQ:mach Z6 t (t.length+1) ⟨Z3 t 0,0,[],[],[]⟩=Q
  repeat' (first|refine Sg.Y1 ?_|fail)
  refine S.loopE 4 [0,5] (fun R b' μ H' e=>∃ (C:Jc) (c:Cf) (f:Nat),H'=C.res nb t R∧e=b'∧(Rel C c∧Inv t C∧GoodC c∧Z3 t c.p=c.p∧t.length < c.p+f∧mach Z6 t f c=Q)∧μ=t.length - C.a) rfl rfl ?_ _ _ ⟨⟨none,0,none,0,none,0,[],[],Z3 t 0,0,[]⟩,⟨Z3 t 0,0,[],[],[]⟩,t.length+1,rfl,rfl,⟨⟨rfl,rfl,rfl,rfl,trivial⟩,⟨hsl,Nat.zero_le _,fun x hx=>by (exact absurd hx List.not_mem_nil),fun x hx=>by (exact absurd hx List.not_mem_nil),fun x hx=>by (exact absurd hx List.not_mem_nil),fun x hx=>by (exact absurd hx List.not_mem_nil),Nat.zero_le _⟩,⟨fun h=>by simp only at h;omega,fun h=>by simp only at h;omega,(by decide:0≤6)⟩,Zq _ _,(show t.length < Z3 t 0+(t.length+1) by omega),hQ⟩,rfl⟩ (by repeat' first|exact trivial|refine And.intro rfl ?_)
  rintro _ _ _ ⟨C,c,f,rfl,rfl,⟨hr,hi,hg,hsk,hf,hm⟩,rfl⟩ ih
  clear hQ h0
  have hpa:=hr.p
  have hat:=hi.at_
  obtain ⟨f,rfl⟩:∃ g,f=g+1:=⟨f - 1,by omega⟩
  by_cases ha:C.a < t.length
  ·have hch:t[c.p]?=some (t.getD c.p 0):=by rw [←hpa];simp [List.getD,ha]
   have hst:=Z9I (F:=F) (M:=M) (p:=nb) (H:=H) hT ha hr hi hg hl' hch
   have hm2:mach Z6 t (f+1) c=match Z2l Z6 t c (t.getD c.p 0) with
    | .go c'=>mach Z6 t f c'
    | .stop e a=>.bad e a:=by
    simp only [mach,hsk,hch]
    rfl
   unfold Jc.res Jc.cells at hst ⊢
   repeat' (first|refine Sg.Y3 ?_|(apply S.condQ;apply rfl;all_goals intro _)|fail)
   refine T.call rfl rfl hst ?_
   clear hst
   cases hsc:Z2l Z6 t c (t.getD c.p 0) with
   | stop e1 a1 =>
    rw [hsc] at hm2
    rintro _ _ ⟨o,n,m,a,s,k,rfl,rfl⟩
    rw [←hm,hm2]
    repeat' (first|refine Sg.Y1 ?_|fail)
    exact ⟨_,PSub.drop (PSub.refl _),rfl,rfl⟩
   | go c' =>
    rw [hsc] at hm2
    obtain ⟨g1,g2⟩:=Zbd (by rw [←hpa];exact ha) hsc
    rintro _ _ ⟨C',rfl,rfl,hr',hi'⟩
    have hpa':=hr'.p
    unfold Jc.res Jc.cells
    repeat' (first|refine Sg.Y2 ?_|fail)
    refine T.call rfl rfl (Z4b hi'.at_ (by omega)) ?_
    rintro _ _ ⟨rfl,rfl⟩
    repeat' (first|with_reducible refine Sr.nil ?_|(with_reducible apply T.ofRet)|fail)
    have hbl:=ZbT hr' hi'
    have hge:=Zp t C'.a
    exact ih _ _ _ _ ⟨{ C' with a:=Z3 t C'.a },{ c' with p:=Z3 t c'.p },f,rfl,rfl,⟨hbl.1,hbl.2,Z9b g1 _,Zq _ _,(show t.length < Z3 t c'.p+f by rw [←hpa'] at g2 ⊢;omega),by rw [Z6p];exact hm2.symm.trans hm⟩,rfl⟩ (show t.length - Z3 t C'.a < t.length - C.a by omega) (by repeat' first|exact trivial|refine And.intro rfl ?_)
  ·have hae:C.a=t.length:=by omega
   have hch:t[c.p]?=none:=by rw [←hpa];exact List.getElem?_eq_none (by omega)
   have hm2:mach Z6 t (f+1) c=if c.s=6 then .ok (Z3 t c.p) c.out else .bad 31 t.length:=by
    simp only [mach,hsk,hch]
   have hss:=hr.s
   have hoo:=hr.out
   have hsub:=Zbn C nb t H
   unfold Jc.res Jc.cells at hsub ⊢
   rw [←hm,hm2]
   by_cases h6:C.s=6
   ·rw [if_pos (by rw [←hss];exact h6)]
    repeat' (first|refine Sg.Y3 ?_|(apply S.condQ;apply rfl;all_goals intro _)|fail)
    rw [←hoo]
    exact ⟨_,hsub,C.oa,C.oc,rfl,rfl⟩
   ·rw [if_neg (by rw [←hss];exact h6)]
    repeat' (first|refine Sg.Y3 ?_|(apply S.condQ;apply rfl;all_goals intro _)|fail)
    exact ⟨_,PSub.drop (PSub.drop (PSub.drop (PSub.drop (Z0h H C.st)))),rfl,rfl⟩
end
end Go.Proofs.YtjajcmedipjfhaaGreatDoor
/- A literal of records is a growable row. -/
namespace Sg
open Go Go.RowKit
theorem St.blkRowN {F:World} {M:List Nat} {w:World} {H:List Res} {b n sz:Nat} {vs:List Value} {E:TypeId} (h:St F M w (.blk b vs E::H)) (hn:vs.length=n*sz) (hm:n≤maxLen):St F M w (.row (some ⟨b,0,none⟩) n E sz n vs::H):=by
 refine h.weakB (fun _ h=>h) h.nd (fun r hr=>?_)
 rcases List.mem_cons.1 hr with rfl|hr
 ·have hb:w.heap[b]?=some (.cells ⟨vs⟩ E (0,0)):=h.res _ (List.mem_cons_self ..)
  exact ⟨hn,.inr ⟨b,n,⟨vs⟩,rfl,Nat.zero_le _,hb,Nat.le_refl _,hm,by simp [hn],by simp only [Nat.zero_mul,List.drop_zero,Nat.zero_add];rw [←hn];exact List.take_length⟩⟩
 ·exact h.res r (List.mem_cons_of_mem _ hr)
section
variable {c:Ctx} {dr:Bool} {ds:List Deferred} {H:List Res} {e:Env} {ops:Array Oper} {l:List Oper} {κ:List Res→Env→Prop}
theorem Sr.rowOfN {b n sz:Nat} {vs:List Value} {E:TypeId} (hn:vs.length=n*sz) (hm:n≤maxLen) (h:Sr (.eff dr) c ds (.row (some ⟨b,0,none⟩) n E sz n vs::H) ops l κ e):Sr (.eff dr) c ds (.blk b vs E::H) ops l κ e:=h.weaken fun _ hw=>hw.blkRowN hn hm
theorem S.rowOfN {k:List Item} {b n sz:Nat} {vs:List Value} {E:TypeId} (hn:vs.length=n*sz) (hm:n≤maxLen) (h:S c ds (.row (some ⟨b,0,none⟩) n E sz n vs::H) k e):S c ds (.blk b vs E::H) k e:=h.weaken fun _ hw=>hw.blkRowN hn hm
end
end Sg
/- The walks of the program's looks at nodes: what stands behind a value, what stands in it, its members. -/
namespace Go.Proofs.YtjajcmedipjfhaaGreatDoor
open Sg Go.IntWalk
set_option maxRecDepth 100000
set_option maxHeartbeats 4000000
section
variable {F:World} {M:List Nat} {H:List Res} {v:List Nd} {p:Nat} {oa:Option Addr} {oc n:Nat}
theorem Z38 {x r:List Nd} [Rd F M H oa (v.flatMap ndV)] (hn:v.length=n) (hl:n≤2200000) (hx:Fo 1 x) (hd:v.drop p=x++r) :
  Meets Tryz.prog 45 [.slice oa n oc,.int .i64 p] F M H (fun e H'=>e=.returned (.int .i64 (p+x.length:Nat))∧H'=H):=by
 subst hn
 refine Meets.enter Tryz.func45 rfl rfl ?_
 have h0:=Z2W hd hx.pos
 have h1:=hx.pos
 repeat' (first|refine Sg.Y3 ?_|(apply S.condQ;apply rfl;all_goals intro _)|(apply T.gcase;apply rfl;apply rfl;all_goals intro _)|fail)
 refine S.loopE 0 [0] (fun R b' μ H' e=>∃ (q k:Nat) (y:List Nd) (z:Int),H'=R∧e=(1,.int .i64 q)::(5,.int .i64 z)::b'∧(Fo k y∧v.drop q=y++r∧q+y.length=p+x.length∧z=(k:Int))∧μ=v.length - q) rfl rfl ?_ _ _ ⟨p,1,x,1,rfl,rfl,⟨hx,hd,rfl,rfl⟩,rfl⟩ (by repeat' first|exact trivial|refine And.intro rfl ?_)
 rintro _ _ _ ⟨q,k,y,z,rfl,rfl,⟨h2,h3,h4,h5⟩,rfl⟩ ih
 cases h2 with
 | nil =>
  subst h5
  have h6:q=p+x.length:=h4
  repeat' (first|refine Sg.Y1 ?_|fail)
  exact ⟨_,PSub.refl _,by rw [h6],rfl⟩
 | @node nn m k' a b hk ha hb =>
  obtain ⟨h6,h7⟩:=Z0e (b:=a++b++r) (by simpa using h3)
  have h8:(v.getD q default).kids=(m:Int):=by rw [h6,hk]
  have h9:=ha.le
  have h10:=hb.le
  have h11:v.drop (q+1)=(a++b)++r:=by
   rw [←List.drop_drop,h3]
   rfl
  simp only [List.length_cons,List.length_append] at h4
  repeat' (first|refine Sg.Y3 ?_|(apply S.condQ;apply rfl;all_goals intro _)|(apply T.gcase;apply rfl;apply rfl;all_goals intro _)|fail)
  exact ih _ _ _ _ ⟨q+1,m+k',a++b,z+((v.getD q default).kids - 1),rfl,rfl,⟨ha.app hb,h11,by rw [List.length_append];omega,by omega⟩,rfl⟩ (by omega) (by repeat' first|exact trivial|refine And.intro rfl ?_)
theorem Zaw {nn:Nd} {xs:List (List Nd)} {r:List Nd} [Rd F M H oa (v.flatMap ndV)] (hn:v.length=n) (hl:n≤2200000) (ha:At v p nn xs r) :
  Meets Tryz.prog 46 [.slice oa n oc,.int .i64 p] F M H (fun e H'=>∃ ka kc,e=.returned (.slice ka xs.length kc)∧H'=.row ka kc 3 1 xs.length ((offs (p+1) xs).map nV)::H):=by
 subst hn
 refine Meets.enter Tryz.func46 rfl rfl ?_
 obtain ⟨g1,g2⟩:=Z0e ha.drop
 have g3:(v.getD p default).kids=(xs.length:Int):=by rw [g1,ha.kids]
 have g4:xs.length < v.length:=by
  have h1:=(Fo.of ha.fo).le
  have h2:=congrArg List.length ha.drop
  simp only [List.length_drop,List.length_cons,List.length_append] at h2
  omega
 refine S.nilrow 3 1 ?_
 repeat' (first|refine Sg.Y3 ?_|(apply S.condQ;apply rfl;all_goals intro _)|(apply T.gcase;apply rfl;apply rfl;all_goals intro _)|fail)
 refine S.frontR none ?_
 refine S.loopE 1 [0,1] (fun R b' μ H' e=>∃ (i:Nat) (ka:Option Addr) (kc m:Nat) (q:Nat),H'=.row ka kc 3 1 m ((offs (p+1) (xs.take i)).map nV)::R∧e=(5,.slice ka m kc)::(6,.int .i64 q)::(7,.int .i64 i)::b'∧(i≤xs.length∧m=i∧q=p+1+(xs.take i).flatten.length)∧μ=xs.length - i) rfl rfl ?_ _ _ ⟨0,none,0,0,p+1,rfl,rfl,⟨Nat.zero_le _,rfl,rfl⟩,rfl⟩ (by repeat' first|exact trivial|refine And.intro rfl ?_)
 rintro _ _ _ ⟨i,ka,kc,m,q,rfl,rfl,⟨h1,h2,h3⟩,rfl⟩ ih
 by_cases h4:i < xs.length
 ·have hk:=ha.kid h4
  rw [←h3] at hk
  have hx:=ha.fo _ (List.getElem_mem h4)
  have hq:=Z2W hk hx.pos
  have hxp:=hx.pos
  have hs:=Z3N (p+1) (xs.take i) xs[i]
  rw [←List.take_succ_eq_append_getElem h4,←h3] at hs
  have ht:=Z09 h4
  subst h2
  repeat' (first|(apply T.bs;(iterate 6 apply rfl);intro nb)|(apply T.appendN;apply rfl;apply rfl;infer_instance;apply rfl;(constructor<;>omega);apply rfl;intro na nc)|refine Sg.Y3 ?_|(apply S.condQ;apply rfl;all_goals intro _)|(apply T.gcase;apply rfl;apply rfl;all_goals intro _)|fail)
  refine T.call rfl rfl (Z38 rfl (by omega) hx hk) ?_
  rintro _ _ ⟨rfl,rfl⟩
  have hmap:(offs (p+1) (xs.take m)).map nV++[nV q]=(offs (p+1) (xs.take (m+1))).map nV:=by rw [hs];simp
  repeat' (first|refine Sg.Y2 ?_|fail)
  exact ih _ _ _ _ ⟨m+1,na,nc,m+1,q+xs[m].length,by rw [hs],rfl,⟨h4,rfl,by omega⟩,rfl⟩ (by omega) (by repeat' first|exact trivial|refine And.intro rfl ?_)
 ·obtain rfl:i=xs.length:=by omega
  rw [List.take_length]
  subst h2
  repeat' (first|refine Sg.Y3 ?_|(apply T.gcase;apply rfl;apply rfl;all_goals intro _)|fail)
  all_goals exact ⟨_,PSub.refl _,_,_,rfl,rfl⟩
def memP (p:Nat) (n:Nd) (xs:List (List Nd)) (key:List UInt8):Int:=if n.kind=7 then Z3P (p+1) xs key else -1
theorem Z7o {nn:Nd} {xs:List (List Nd)} {r:List Nd} {key:List UInt8} [Rd F M H oa (v.flatMap ndV)] (hn:v.length=n) (hl:n≤2200000) (ha:At v p nn xs r) :
  Meets Tryz.prog 22 [.slice oa n oc,.int .i64 p,sV key] F M H (fun e H'=>e=.returned (.int .i64 (memP p nn xs key))∧H'=H):=by
 subst hn
 refine Meets.enter Tryz.func22 rfl rfl ?_
 obtain ⟨g1,g2⟩:=Z0e ha.drop
 have g3:(v.getD p default).kids=(xs.length:Int):=by rw [g1,ha.kids]
 have g4:xs.length < v.length:=by
  have h1:=(Fo.of ha.fo).le
  have h2:=congrArg List.length ha.drop
  simp only [List.length_drop,List.length_cons,List.length_append] at h2
  omega
 unfold memP
 rw [←g1]
 by_cases hk7:(v.getD p default).kind=7
 ·rw [if_pos hk7]
  repeat' (first|refine Sg.Y3 ?_|(apply S.condQ;apply rfl;all_goals intro _)|(apply T.gcase;apply rfl;apply rfl;all_goals intro _)|fail)
  generalize hQ:Z3P (p+1) xs key=Q
  refine S.loopE 0 [0,1,2] (fun R b' μ H' e=>∃ (i q:Nat),H'=R∧e=(7,.int .i64 q)::(8,.int .i64 i)::b'∧(i≤xs.length∧q=p+1+(xs.take i).flatten.length∧Z3P q (xs.drop i) key=Q)∧μ=xs.length - i) rfl rfl ?_ _ _ ⟨0,p+1,rfl,rfl,⟨Nat.zero_le _,rfl,hQ⟩,rfl⟩ (by repeat' first|exact trivial|refine And.intro rfl ?_)
  rintro _ _ _ ⟨i,q,rfl,rfl,⟨h1,h3,h5⟩,rfl⟩ ih
  by_cases h4:i < xs.length
  ·have hk:=ha.kid h4
   rw [←h3] at hk
   have hx:=ha.fo _ (List.getElem_mem h4)
   have hq:=Z2W hk hx.pos
   have hxp:=hx.pos
   have ht:=Z09 h4
   rw [List.drop_eq_getElem_cons h4,Z2Q] at h5
   have hhd:v.getD q default=Z2 xs[i]:=by
    obtain ⟨n2,xs2,e2,-⟩:=At.of_fo hk hx
    rw [e2] at hk ⊢
    exact (Z0e hk).1
   rw [←hhd] at h5
   by_cases h6:(v.getD q default).key=key
   ·rw [if_pos h6] at h5
    repeat' (first|refine Sg.Y3 ?_|(apply S.condQ;apply rfl;all_goals intro _)|(apply T.gcase;apply rfl;apply rfl;all_goals intro _)|fail)
    exact ⟨_,PSub.refl _,by rw [h5],rfl⟩
   ·rw [if_neg h6] at h5
    repeat' (first|refine Sg.Y3 ?_|(apply S.condQ;apply rfl;all_goals intro _)|(apply T.gcase;apply rfl;apply rfl;all_goals intro _)|fail)
    refine T.call rfl rfl (Z38 rfl (by omega) hx hk) ?_
    rintro _ _ ⟨rfl,rfl⟩
    repeat' (first|refine Sg.Y2 ?_|fail)
    exact ih _ _ _ _ ⟨i+1,q+xs[i].length,rfl,rfl,⟨h4,by omega,h5⟩,rfl⟩ (by omega) (by repeat' first|exact trivial|refine And.intro rfl ?_)
  ·obtain rfl:i=xs.length:=by omega
   rw [List.drop_length] at h5
   rw [←h5]
   repeat' (first|refine Sg.Y3 ?_|(apply T.gcase;apply rfl;apply rfl;all_goals intro _)|fail)
   all_goals exact ⟨_,PSub.refl _,rfl,rfl⟩
 ·rw [if_neg hk7]
  repeat' (first|refine Sg.Y3 ?_|(apply S.condQ;apply rfl;all_goals intro _)|(apply T.gcase;apply rfl;apply rfl;all_goals intro _)|fail)
  exact ⟨_,PSub.refl _,rfl,rfl⟩
end
end Go.Proofs.YtjajcmedipjfhaaGreatDoor
/- The walks of the document's looks at nodes. -/
namespace Go.Proofs.YtjajcmedipjfhaaGreatDoor
open Sg Go.IntWalk
set_option maxRecDepth 100000
set_option maxHeartbeats 4000000
section
variable {F:World} {M:List Nat} {H:List Res} {v:List Nd} {p:Nat} {oa:Option Addr} {oc n:Nat}
theorem Z2g:∀ (L:Nat) {x r:List Nd} {p:Nat} {H:List Res} [Rd F M H oa (v.flatMap ndV)],x.length≤L→v.length=n→n≤2200000→Fo 1 x→v.drop p=x++r →
  Meets Tryz.prog 87 [.slice oa n oc,.int .i64 p] F M H (fun e H'=>e=.returned (.int .i64 (p+x.length:Nat))∧H'=H):=by
 intro L
 induction L with
 | zero =>
  intro x r p H _ hL hn hl hx hd
  have:=hx.pos
  omega
 | succ L IH =>
  intro x r p H _ hL hn hl hx hd
  subst hn
  refine Meets.enter Tryz.func87 rfl rfl ?_
  obtain ⟨nn,xs,rfl,ha⟩:=At.of_fo hd hx
  obtain ⟨g1,g2⟩:=Z0e ha.drop
  have g3:(v.getD p default).kids=(xs.length:Int):=by rw [g1,ha.kids]
  have h0:=Z2W hd hx.pos
  have hxl:(nn::xs.flatten).length=xs.flatten.length+1:=rfl
  have hxs:=(Fo.of ha.fo).le
  have hxb:xs.length≤2200000:=by rw [hxl] at h0;omega
  rw [hxl] at hL h0 ⊢
  repeat' (first|refine Sg.Y3 ?_|(apply S.condQ;apply rfl;all_goals intro _)|(apply T.gcase;apply rfl;apply rfl;all_goals intro _)|fail)
  refine S.loopE 0 [0,1] (fun R b' μ H' e=>∃ (i q:Nat),H'=R∧e=(5,.int .i64 q)::(6,.int .i64 i)::b'∧(i≤xs.length∧q=p+1+(xs.take i).flatten.length)∧μ=xs.length - i) rfl rfl ?_ _ _ ⟨0,p+1,rfl,rfl,⟨Nat.zero_le _,rfl⟩,rfl⟩ (by repeat' first|exact trivial|refine And.intro rfl ?_)
  rintro _ _ _ ⟨i,q,rfl,rfl,⟨h1,h3⟩,rfl⟩ ih
  by_cases h4:i < xs.length
  ·have hk:=ha.kid h4
   rw [←h3] at hk
   have hx2:=ha.fo _ (List.getElem_mem h4)
   have ht:=Z09 h4
   have hle:xs[i].length≤xs.flatten.length:=by
    have h5:xs.flatten=(xs.take i).flatten++(xs.drop i).flatten:=by rw [←List.flatten_append,List.take_append_drop]
    rw [h5,List.drop_eq_getElem_cons h4,List.flatten_cons,List.length_append,List.length_append]
    omega
   repeat' (first|refine Sg.Y3 ?_|(apply S.condQ;apply rfl;all_goals intro _)|(apply T.gcase;apply rfl;apply rfl;all_goals intro _)|fail)
   refine T.call rfl rfl (IH (by omega) rfl hl hx2 hk) ?_
   rintro _ _ ⟨rfl,hH⟩
   have hH2:=hH.symm
   subst hH2
   repeat' (first|refine Sg.Y2 ?_|fail)
   exact ih _ _ _ _ ⟨i+1,q+xs[i].length,rfl,rfl,⟨h4,by omega⟩,rfl⟩ (by omega) (by repeat' first|exact trivial|refine And.intro rfl ?_)
  ·obtain rfl:i=xs.length:=by omega
   rw [List.take_length] at h3
   repeat' (first|refine Sg.Y3 ?_|(apply T.gcase;apply rfl;apply rfl;all_goals intro _)|fail)
   all_goals exact ⟨_,PSub.refl _,by rw [h3];congr 3;omega,rfl⟩
theorem Z34 {nn:Nd} {xs:List (List Nd)} {r:List Nd} [Rd F M H oa (v.flatMap ndV)] (hn:v.length=n) (hl:n≤2200000) (ha:At v p nn xs r) :
  Meets Tryz.prog 56 [.slice oa n oc,.int .i64 p] F M H (fun e H'=>∃ ka kc,e=.returned (.slice ka xs.length kc)∧H'=.row ka kc 3 1 xs.length ((offs (p+1) xs).map nV)::H):=by
 subst hn
 refine Meets.enter Tryz.func56 rfl rfl ?_
 obtain ⟨g1,g2⟩:=Z0e ha.drop
 have g3:(v.getD p default).kids=(xs.length:Int):=by rw [g1,ha.kids]
 have g4:xs.length < v.length:=by
  have h1:=(Fo.of ha.fo).le
  have h2:=congrArg List.length ha.drop
  simp only [List.length_drop,List.length_cons,List.length_append] at h2
  omega
 refine S.nilrow 3 1 ?_
 repeat' (first|refine Sg.Y3 ?_|(apply S.condQ;apply rfl;all_goals intro _)|(apply T.gcase;apply rfl;apply rfl;all_goals intro _)|fail)
 refine S.frontR none ?_
 refine S.loopE 1 [0,1] (fun R b' μ H' e=>∃ (i:Nat) (ka:Option Addr) (kc m:Nat) (q:Nat),H'=.row ka kc 3 1 m ((offs (p+1) (xs.take i)).map nV)::R∧e=(5,.slice ka m kc)::(6,.int .i64 q)::(7,.int .i64 i)::b'∧(i≤xs.length∧m=i∧q=p+1+(xs.take i).flatten.length)∧μ=xs.length - i) rfl rfl ?_ _ _ ⟨0,none,0,0,p+1,rfl,rfl,⟨Nat.zero_le _,rfl,rfl⟩,rfl⟩ (by repeat' first|exact trivial|refine And.intro rfl ?_)
 rintro _ _ _ ⟨i,ka,kc,m,q,rfl,rfl,⟨h1,h2,h3⟩,rfl⟩ ih
 by_cases h4:i < xs.length
 ·have hk:=ha.kid h4
  rw [←h3] at hk
  have hx:=ha.fo _ (List.getElem_mem h4)
  have hq:=Z2W hk hx.pos
  have hxp:=hx.pos
  have hs:=Z3N (p+1) (xs.take i) xs[i]
  rw [←List.take_succ_eq_append_getElem h4,←h3] at hs
  have ht:=Z09 h4
  subst h2
  repeat' (first|(apply T.bs;(iterate 6 apply rfl);intro nb)|(apply T.appendN;apply rfl;apply rfl;infer_instance;apply rfl;(constructor<;>omega);apply rfl;intro na nc)|refine Sg.Y3 ?_|(apply S.condQ;apply rfl;all_goals intro _)|(apply T.gcase;apply rfl;apply rfl;all_goals intro _)|fail)
  refine T.call rfl rfl (Z2g _ (Nat.le_refl _) rfl (by omega) hx hk) ?_
  rintro _ _ ⟨rfl,rfl⟩
  have hmap:(offs (p+1) (xs.take m)).map nV++[nV q]=(offs (p+1) (xs.take (m+1))).map nV:=by rw [hs];simp
  repeat' (first|refine Sg.Y2 ?_|fail)
  exact ih _ _ _ _ ⟨m+1,na,nc,m+1,q+xs[m].length,by rw [hs],rfl,⟨h4,rfl,by omega⟩,rfl⟩ (by omega) (by repeat' first|exact trivial|refine And.intro rfl ?_)
 ·obtain rfl:i=xs.length:=by omega
  rw [List.take_length]
  subst h2
  repeat' (first|refine Sg.Y3 ?_|(apply T.gcase;apply rfl;apply rfl;all_goals intro _)|fail)
  all_goals exact ⟨_,PSub.refl _,_,_,rfl,rfl⟩
theorem Z4h {nn:Nd} {xs:List (List Nd)} {r:List Nd} {key:List UInt8} [Rd F M H oa (v.flatMap ndV)] (hn:v.length=n) (hl:n≤2200000) (ha:At v p nn xs r) :
  Meets Tryz.prog 31 [.slice oa n oc,.int .i64 p,sV key] F M H (fun e H'=>e=.returned (.int .i64 (memP p nn xs key))∧H'=H):=by
 subst hn
 refine Meets.enter Tryz.func31 rfl rfl ?_
 obtain ⟨g1,g2⟩:=Z0e ha.drop
 have g4:xs.length < v.length:=by
  have h1:=(Fo.of ha.fo).le
  have h2:=congrArg List.length ha.drop
  simp only [List.length_drop,List.length_cons,List.length_append] at h2
  omega
 unfold memP
 rw [←g1]
 by_cases hk7:(v.getD p default).kind=7
 ·rw [if_pos hk7]
  repeat' (first|refine Sg.Y3 ?_|(apply S.condQ;apply rfl;all_goals intro _)|(apply T.gcase;apply rfl;apply rfl;all_goals intro _)|fail)
  refine T.call rfl rfl (Z34 rfl hl ha) ?_
  rintro _ _ ⟨ka,kc,rfl,rfl⟩
  repeat' (first|refine Sg.Y1 ?_|fail)
  generalize hQ:Z3P (p+1) xs key=Q
  have hlen:=Z0g (p+1) xs
  refine S.loopE 0 [0,2,7] (fun R b' μ H' e=>∃ (i:Nat),H'=R∧e=(8,.int .i64 i)::b'∧(i≤xs.length∧Z3P (p+1+(xs.take i).flatten.length) (xs.drop i) key=Q)∧μ=xs.length - i) rfl rfl ?_ _ _ ⟨0,rfl,rfl,⟨Nat.zero_le _,hQ⟩,rfl⟩ (by repeat' first|exact trivial|refine And.intro rfl ?_)
  rintro _ _ _ ⟨i,rfl,rfl,⟨h1,h5⟩,rfl⟩ ih
  by_cases h4:i < xs.length
  ·have hk:=ha.kid h4
   have hx:=ha.fo _ (List.getElem_mem h4)
   have hq:=Z2W hk hx.pos
   have hxp:=hx.pos
   have ht:=Z09 h4
   have ho:=Z1Z (p:=p+1) h4
   rw [List.drop_eq_getElem_cons h4,Z2Q,show p+1+(xs.take i).flatten.length+xs[i].length=p+1+(xs.take (i+1)).flatten.length by omega] at h5
   generalize hqq:p+1+(xs.take i).flatten.length=q at *
   have hhd:v.getD q default=Z2 xs[i]:=by
    obtain ⟨n2,xs2,e2,-⟩:=At.of_fo hk hx
    rw [e2] at hk ⊢
    exact (Z0e hk).1
   rw [←hhd] at h5
   by_cases h6:(v.getD q default).key=key
   ·rw [if_pos h6] at h5
    repeat' (first|(apply T.loadNat;apply rfl;infer_instance;omega;apply rfl;rw [ho])|refine Sg.Y3 ?_|(apply S.condQ;apply rfl;all_goals intro _)|fail)
    exact ⟨_,PSub.drop (PSub.refl _),by rw [h5],rfl⟩
   ·rw [if_neg h6] at h5
    repeat' (first|(apply T.loadNat;apply rfl;infer_instance;omega;apply rfl;rw [ho])|refine Sg.Y3 ?_|(apply S.condQ;apply rfl;all_goals intro _)|fail)
    exact ih _ _ _ _ ⟨i+1,rfl,rfl,⟨h4,h5⟩,rfl⟩ (by omega) (by repeat' first|exact trivial|refine And.intro rfl ?_)
  ·obtain rfl:i=xs.length:=by omega
   rw [List.drop_length] at h5
   rw [←h5]
   repeat' (first|refine Sg.Y3 ?_|(apply S.condQ;apply rfl;all_goals intro _)|fail)
   exact ⟨_,PSub.drop (PSub.refl _),rfl,rfl⟩
 ·rw [if_neg hk7]
  repeat' (first|refine Sg.Y3 ?_|(apply S.condQ;apply rfl;all_goals intro _)|(apply T.gcase;apply rfl;apply rfl;all_goals intro _)|fail)
  exact ⟨_,PSub.refl _,rfl,rfl⟩
end
end Go.Proofs.YtjajcmedipjfhaaGreatDoor
/- Looks at nodes by place alone, the program's and the document's. -/
namespace Go.Proofs.YtjajcmedipjfhaaGreatDoor
open Sg Go.IntWalk
section
variable {F:World} {M:List Nat} {H:List Res} {v:List Nd} {p:Nat} {oa:Option Addr} {oc n:Nat}
theorem Z1I {key:List UInt8} [Rd F M H oa (v.flatMap ndV)] (hn:v.length=n) (hl:n≤2200000) (ha:IsAt v p) :
  Meets Tryz.prog 22 [.slice oa n oc,.int .i64 p,sV key] F M H (fun e H'=>e=.returned (.int .i64 (memI v p key))∧H'=H):=by
 obtain ⟨r,ha⟩:=ha
 exact Z7o hn hl ha
theorem ZU {key:List UInt8} [Rd F M H oa (v.flatMap ndV)] (hn:v.length=n) (hl:n≤2200000) (ha:IsAt v p) :
  Meets Tryz.prog 31 [.slice oa n oc,.int .i64 p,sV key] F M H (fun e H'=>e=.returned (.int .i64 (memI v p key))∧H'=H):=by
 obtain ⟨r,ha⟩:=ha
 exact Z4h hn hl ha
theorem Z22 [Rd F M H oa (v.flatMap ndV)] (hn:v.length=n) (hl:n≤2200000) (ha:IsAt v p) :
  Meets Tryz.prog 46 [.slice oa n oc,.int .i64 p] F M H (fun e H'=>∃ ka kc,e=.returned (.slice ka (kidsOf v p).length kc)∧H'=.row ka kc 3 1 (kidsOf v p).length ((offs (p+1) (kidsOf v p)).map nV)::H):=by
 obtain ⟨r,ha⟩:=ha
 exact Zaw hn hl ha
theorem Z02 [Rd F M H oa (v.flatMap ndV)] (hn:v.length=n) (hl:n≤2200000) (ha:IsAt v p) :
  Meets Tryz.prog 56 [.slice oa n oc,.int .i64 p] F M H (fun e H'=>∃ ka kc,e=.returned (.slice ka (kidsOf v p).length kc)∧H'=.row ka kc 3 1 (kidsOf v p).length ((offs (p+1) (kidsOf v p)).map nV)::H):=by
 obtain ⟨r,ha⟩:=ha
 exact Z34 hn hl ha
end
end Go.Proofs.YtjajcmedipjfhaaGreatDoor
/- The walks of the revealing: its memory; giving up; a digest met. -/
namespace Sg
open Go
structure Dc where
 b:Nat
 s:Said
 va:Option Addr
 vc:Nat
def dupB (met:List Dg):Bool:=!decide met.Nodup
theorem Z6L (met:List Dg) (d:Dg):dupB (met++[d])=(dupB met || decide (d∈met)):=by
 unfold dupB
 by_cases h1:met.Nodup
 ·by_cases h2:d∈met
  ·have:¬(met++[d]).Nodup:=fun h=>by
    rw [List.nodup_append] at h
    exact h.2.2 d h2 d (List.mem_singleton.2 rfl) rfl
   simp [h1,h2,this]
  ·have:(met++[d]).Nodup:=by
    rw [List.nodup_append]
    refine ⟨h1,by simp,fun a ha b hb e=>?_⟩
    obtain rfl:=List.mem_singleton.1 hb
    subst e
    exact h2 ha
   simp [h1,h2,this]
 ·have:¬(met++[d]).Nodup:=fun h=>h1 (List.nodup_append.1 h).1
  simp [h1,this]
def Z1M (ds:List Dc) (d:Dg):Option Dc:=ds.find? fun x=>x.s.dig==d
theorem Z1g {ds:List Dc} {d:Dg} {x:Dc} (h:Z1M ds d=some x):x∈ds∧x.s.dig=d:=by
 refine ⟨List.mem_of_find?_eq_some h,?_⟩
 have:=List.find?_some h
 simpa using this
theorem Z6G (ds:List Dc) (d:Dg):Zi (ds.map (·.s)) d=(Z1M ds d).map (·.s):=by
 unfold Zi Z1M
 rw [List.find?_map]
 rfl
structure Bk2 (B E:Ents) (ds:List Dc) (met:List Dg):Prop where
 by_:∀ d,(eget B d).getD (-1)=match Z1M ds d with
  | some x=>(x.b:Int)
  | none => -1
 seen:∀ d,(eget E d).getD 0=(met.count d:Int)
 len:E.length≤met.length
 one:(ds.map (·.s.dig)).Nodup
end Sg
namespace Go.Proofs.YtjajcmedipjfhaaGreatDoor
open Sg Go.IntWalk
set_option maxRecDepth 100000
set_option maxHeartbeats 4000000
abbrev Z3D:PanicEntry:=⟨.iface 62 (.agg ⟨[.int .i64 200]⟩),false,false⟩
abbrev dcV (met:List Dg) (x:Dc):List Value:=[sV x.s.name,.bool x.s.member,.slice x.va x.s.value.length x.vc,.bool (decide (x.s.dig∈met))]
def dcR (met:List Dg):List Dc→List Res→List Res
 | [],H=>H
 | x::r,H=>.blk x.b (dcV met x) 66::dcR met r H
abbrev wkV (bb sb:Nat) (tw:Bool) (oa:Option Addr) (n oc:Nat):List Value:=[.map (some bb),.map (some sb),.bool tw,.slice oa n oc]
abbrev wkR (p bb sb:Nat) (B E:Ents) (met:List Dg) (oa:Option Addr) (oc:Nat) (o:List Nd) (ds:List Dc) (H:List Res):List Res :=
 .blk p (wkV bb sb (dupB met) oa o.length oc) 57::.ex bb (ptrQ Tryz.prog 9 B.length (mapD B))::.ex sb (mapQ Tryz.prog 9 3 E.length (mapD E))::.row oa oc 34 6 o.length (o.flatMap ndV)::dcR met ds H
section
variable {F:World} {M:List Nat} {H:List Res} {p bb sb:Nat} {B E:Ents} {met:List Dg} {oa:Option Addr} {oc:Nat} {o:List Nd} {ds:List Dc} {d:Dg}
theorem Z9u {z:Int} (h : -9223372036854775808≤z∧z≤9223372036854775807):(Lit.int .i64 z).wf=true:=by
 simp only [Lit.wf,IntKind.min,IntKind.max,IntKind.bits,IntKind.signed]
 simp
 omega
theorem Z0D:Meets Tryz.prog 81 [.bool true] F M H (fun e H'=>e=.returned (.tuple ⟨[]⟩)∧H'=H):=by
 refine Meets.enter Tryz.func81 rfl rfl ?_
 repeat' (first|refine Sg.Y1 ?_|fail)
 exact ⟨_,PSub.refl _,rfl,rfl⟩
theorem Z0k:Meets Tryz.prog 81 [.bool false] F M H (fun e H'=>e=.panicked [Z3D]∧H'=H):=by
 refine Meets.enter Tryz.func81 rfl rfl ?_
 repeat' (first|refine Sg.Y1 ?_|fail)
 refine T.panic rfl ?_
 repeat' (first|(with_reducible apply T.diesW)|fail)
 exact ⟨_,PSub.refl _,rfl,rfl⟩
theorem Z5O (l r:List Dc) (x:Dc) (H:List Res):(dcR met (l++x::r) H).Perm (.blk x.b (dcV met x) 66::dcR met (l++r) H):=by
 induction l with
 | nil=>exact List.Perm.refl _
 | cons y l ih=>exact (ih.cons _).trans (List.Perm.swap _ _ _)
theorem Z8w {ds:List Dc} (h:∀ x∈ds,x.s.dig≠d) (H:List Res):dcR (met++[d]) ds H=dcR met ds H:=by
 induction ds with
 | nil=>rfl
 | cons y r ih =>
  have h1:decide (y.s.dig∈met++[d])=decide (y.s.dig∈met):=by
   rw [decide_eq_decide,List.mem_append,List.mem_singleton]
   exact ⟨fun h2=>h2.elim id (fun e=>absurd e (h y (List.mem_cons_self ..))),.inl⟩
  rw [dcR,dcR,ih fun x hx=>h x (List.mem_cons_of_mem _ hx),dcV,dcV,h1]
theorem Z6m {x:Dc}:∀ {ds:List Dc} {H:List Res},x∈ds→.blk x.b (dcV met x) 66∈dcR met ds H
 | _::_,_,.head _=>List.mem_cons_self ..
 | _::_,_,.tail _ h=>List.mem_cons_of_mem _ (Z6m h)
theorem Z0p (met:List Dg):∀ (ds:List Dc) (H:List Res),PSub H (dcR met ds H)
 | [],_=>PSub.refl _
 | _::r,H=>PSub.drop (Z0p met r H)
abbrev dcP:Option Dc→Value
 | some x=>.pointer (some ⟨x.b,0,none⟩)
 | none=>.pointer none
theorem ZdF (hB:Bk2 B E ds met) (d:Dg):pV ((eget B d).getD (-1))=dcP (Z1M ds d):=by
 rw [hB.by_]
 cases Z1M ds d with
 | none=>rfl
 | some x=>exact Z4Q _
theorem Zde (hB:Bk2 B E ds met) (d:Dg):Bk2 B (eput E d ((met.count d:Int)+1)) ds (met++[d]):=by
 refine ⟨hB.by_,fun n=>?_,?_,hB.one⟩
 ·rw [Z1t]
  by_cases h:d=n
  ·subst h
   rw [if_pos rfl,Option.getD_some,List.count_append]
   simp
  ·rw [if_neg h,hB.seen,List.count_append]
   have:List.count n [d]=0:=by simp [List.count_singleton,h]
   omega
 ·have:=Z0R E d ((met.count d:Int)+1)
  have:=hB.len
  rw [List.length_append,List.length_singleton]
  omega
theorem Z6o (hB:Bk2 B E ds met) (hd:d.length≤maxLen) (hm:met.length≤1000000000):Meets Tryz.prog 83 [.pointer (some ⟨p,0,none⟩),sV d] F M (wkR p bb sb B E met oa oc o ds H)
  (fun e H'=>∃ E',Bk2 B E' ds (met++[d])∧e=.returned (.tuple ⟨[dcP (Z1M ds d),.bool (decide (d∉met))]⟩)∧H'=wkR p bb sb B E' (met++[d]) oa oc o ds H):=by
 refine Meets.enter Tryz.func83 rfl rfl ?_
 have hs:=hB.seen d
 have hcl:met.count d≤met.length:=List.count_le_length
 have hp:=Zde hB d
 have hps:=hp.seen d
 have hbp:=ZdF hB d
 have hel:=hB.len
 have hdup:=Z6L met d
 have hcc:met.count d+1=(met++[d]).count d:=by rw [List.count_append];simp
 obtain ⟨tw,htw⟩:∃ tw,dupB met=tw:=⟨_,rfl⟩
 obtain ⟨fr,hfr⟩:∃ fr,decide (d∉met)=fr:=⟨_,rfl⟩
 have hfr2:decide (d∈met)=!fr:=by rw [←hfr];by_cases h:d∈met<;>simp [h]
 unfold wkR
 rw [hdup,htw,hfr,hfr2]
 repeat' (first|refine Sg.Y1 ?_|fail)
 rw [hs]
 refine Sr.front sb ?_
 refine T.mapPutT (z:=(met.count d:Int)+1) rfl rfl rfl hd (by simp only [maxLen];omega) (Z9u (by constructor<;>omega)) ?_
 dsimp only
 generalize eput E d ((met.count d:Int)+1)=E' at hp hps ⊢
 have hz:decide ((eget E' d).getD 0=1)=fr:=by
  rw [hps,←hcc,←hfr,decide_eq_decide,←List.count_eq_zero]
  omega
 have hz2:decide (¬(eget E' d).getD 0=1)=!fr:=by
  rw [←hz]
  by_cases h:(eget E' d).getD 0=1<;>simp [h]
 have hnd:=hB.one
 cases hf:Z1M ds d with
 | none =>
  rw [hf] at hbp
  have hsame:dcR (met++[d]) ds H=dcR met ds H:=Z8w (fun x hx e=>by
   have:=List.find?_eq_none.1 hf x hx
   exact this (by simpa using e)) H
  rw [hsame]
  cases tw<;>cases fr
  all_goals
   repeat' (first|refine Sg.Y1 ?_|fail)
   try rw [hz]
   skip
   rw [hbp]
   repeat' (first|refine Sg.Y1 ?_|fail)
   try rw [hz2]
   exact ⟨_,PSub.take (Z1 Z0) (PSub.take (Z1 Z0) (PSub.take Z0 (PSub.refl _))),E',hp,rfl,rfl⟩
 | some x =>
  rw [hf] at hbp
  obtain ⟨hx1,hx2⟩:=Z1g hf
  obtain ⟨l,r,hlr⟩:=List.append_of_mem hx1
  subst hlr
  have hoth:∀ y∈l++r,y.s.dig≠d:=fun y hy e=>by
   rw [List.map_append,List.map_cons,List.nodup_append,List.nodup_cons] at hnd
   obtain ⟨n1,⟨n2,n3⟩,n4⟩:=hnd
   rcases List.mem_append.1 hy with hy|hy
   ·exact n4 _ (List.mem_map_of_mem hy) _ (List.mem_cons_self ..) (by rw [e,hx2])
   ·exact n2 (by rw [hx2,←e];exact List.mem_map_of_mem hy)
  have hsame:dcR (met++[d]) (l++r) H=dcR met (l++r) H:=Z8w hoth H
  have p1:=Z5O (met:=met) l r x H
  have p2:=Z5O (met:=met++[d]) l r x H
  rw [hsame] at p2
  have hu:decide (x.s.dig∈met++[d])=true:=by simp [hx2]
  unfold dcV at p2
  rw [hu] at p2
  cases tw<;>cases fr
  all_goals
   repeat' (first|refine Sg.Y1 ?_|fail)
   try rw [hz]
   skip
   rw [hbp]
   repeat' (first|refine Sg.Y2 ?_|fail)
   try rw [hz2]
   refine Sr.perm ?_ ((((p1.cons _).cons _).cons _).cons _)
   repeat' (first|refine Sg.Y1 ?_|fail)
   exact ⟨_,PSub.take (Z1 Z0) (PSub.take (Z1 Z0) (PSub.take Z0 (PSub.take Z0 ⟨[],by rw [List.append_nil];exact p2.symm⟩))),E',hp,rfl,rfl⟩
end
end Go.Proofs.YtjajcmedipjfhaaGreatDoor
/- The value at a place of a row of nodes, by itself. -/
namespace Sg
def Za (v:List Nd) (q:Nat):List Nd:=Z0C v q::(kidsOf v q).flatten
theorem At.val {v r:List Nd} {p:Nat} {n:Nd} {xs:List (List Nd)} (h:At v p n xs r):Za v p=n::xs.flatten:=by rw [Za,h.node,h.kidsOf]
theorem Z7Q {v x r:List Nd} {p:Nat} (h:v.drop p=x++r) (hx:Fo 1 x):Za v p=x:=by
 obtain ⟨n,xs,rfl,h2⟩:=At.of_fo h hx
 exact h2.val
theorem Z2L {v:List Nd} {q:Nat} (h:IsAt v q):∃ r,v.drop q=Za v q++r:=by
 obtain ⟨r,h⟩:=h
 exact ⟨r,by rw [h.drop,Za,List.cons_append]⟩
theorem Z3e {v:List Nd} {q:Nat} (h:IsAt v q):Fo 1 (Za v q):=by
 obtain ⟨r,h⟩:=h
 exact Fo.one (m:=(kidsOf v q).length) h.kids (Fo.of h.fo)
theorem ZA (v:List Nd) (q:Nat):Z2 (Za v q)=Z0C v q:=rfl
theorem Z3V {x:List Nd} {n:Nd} {xs:List (List Nd)} (hx:x=n::xs.flatten) (hk:n.kids=(xs.length:Int)) (hf:∀ y∈xs,Fo 1 y):kidsOf x 0=xs:=by
 have h:At x 0 n xs []:=⟨by rw [List.drop_zero,hx];simp,hk,hf⟩
 exact h.kidsOf
theorem Zv {v:List Nd} {q:Nat} (h:IsAt v q):kidsOf (Za v q) 0=kidsOf v q:=by
 obtain ⟨r,h⟩:=h
 exact Z3V rfl h.kids h.fo
theorem Z0A {v:List Nd} {q i:Nat} (h:IsAt v q) (hi:i < (kidsOf v q).length):Za v ((offs (q+1) (kidsOf v q)).getD i 0)=(kidsOf v q)[i]:=by
 obtain ⟨r,h⟩:=h
 have h1:=h.kid hi
 rw [Z1Z hi]
 exact Z7Q h1 (h.fo _ (List.getElem_mem hi))
theorem Zj {v:List Nd} (h:Fo 1 v):Za v 0=v:=Z7Q (r:=[]) (by simp) h
theorem Z9D {v:List Nd} {q:Nat} (h:IsAt v q):∀ n∈Za v q,n∈v:=by
 obtain ⟨r,h⟩:=Z2L h
 exact fun n hn=>List.mem_of_mem_drop (i:=q) (by rw [h];exact List.mem_append_left _ hn)
theorem Z5R {v:List Nd} {q:Nat} (h:IsAt v q):(Za v q).length≤v.length:=by
 obtain ⟨r,h⟩:=Z2L h
 have:=congrArg List.length h
 rw [List.length_drop,List.length_append] at this
 omega
theorem Z4U (key:List UInt8):∀ (p:Nat) (xs:List (List Nd)),(Z3P p xs key = -1∧xs.find? (fun y=>(Z2 y).key==key)=none)∨∃ i,∃ h:i < xs.length,Z3P p xs key=(((offs p xs).getD i 0:Nat):Int)∧xs.find? (fun y=>(Z2 y).key==key)=some xs[i]
 | _,[]=>.inl ⟨rfl,rfl⟩
 | p,x::r=>by
  rw [Z2Q]
  by_cases h:(Z2 x).key=key
  ·rw [if_pos h]
   exact .inr ⟨0,by simp,by simp [offs],by simp [List.find?_cons,h]⟩
  ·rw [if_neg h]
   have hf:(x::r).find? (fun y=>(Z2 y).key==key)=r.find? (fun y=>(Z2 y).key==key):=by
    rw [List.find?_cons_of_neg]
    simpa using h
   rw [hf]
   rcases Z4U key (p+x.length) r with ⟨h1,h2⟩|⟨i,hi,h1,h2⟩
   ·exact .inl ⟨h1,h2⟩
   ·exact .inr ⟨i+1,by simpa using hi,by rw [h1,Zaa,List.getD_cons_succ],by simpa using h2⟩
theorem Z0l {v:List Nd} {q:Nat} (h:IsAt v q) (key:List UInt8):(memI v q key = -1∧memV (Za v q) key=none)∨∃ q':Nat,memI v q key=(q':Int)∧IsAt v q'∧memV (Za v q) key=some (Za v q'):=by
 unfold memI memV
 rw [ZA,Zv h]
 by_cases hk:(Z0C v q).kind=7
 ·rw [if_pos hk,if_pos hk]
  rcases Z4U key (q+1) (kidsOf v q) with ⟨h1,h2⟩|⟨i,hi,h1,h2⟩
  ·exact .inl ⟨h1,h2⟩
  ·refine .inr ⟨_,h1,?_,?_⟩
   ·obtain ⟨r,h⟩:=h
    rw [Z1Z hi]
    exact h.kidIs hi
   ·rw [h2,Z0A h hi]
 ·rw [if_neg hk,if_neg hk]
  exact .inl ⟨rfl,rfl⟩
section
variable {val:RevV} {L:List Said} {met:List Dg} {ys r:List (List Nd)} {x k:List Nd} {n1 n2:Nd}
theorem Z4X (h1:Z2 x=n1) (hm:memV x Z0o=some k) (h2:Z2 k=n2) (h:¬(n1.kids=1∧n2.kind=5)):Zg val L met ys (x::r)=none:=by
 subst h1 h2
 rw [Zg,hm]
 simp only
 rw [if_neg h]
theorem Z7r (h1:Z2 x=n1) (hm:memV x Z0o=some k) (h2:Z2 k=n2) (h:n1.kids=1∧n2.kind=5) (hs:Zi L n2.text=none):Zg val L met ys (x::r)=Zg val L (met++[n2.text]) ys r:=by
 subst h1 h2
 rw [Zg,hm]
 simp only
 rw [if_pos h,hs]
theorem Z5H {s:Said} (h1:Z2 x=n1) (hm:memV x Z0o=some k) (h2:Z2 k=n2) (h:n1.kids=1∧n2.kind=5) (hs:Zi L n2.text=some s) (hb:s.member=true):Zg val L met ys (x::r)=none:=by
 subst h1 h2
 rw [Zg,hm]
 simp only
 rw [if_pos h,hs]
 simp only
 rw [if_pos hb]
theorem Z6y {s:Said} (h1:Z2 x=n1) (hm:memV x Z0o=some k) (h2:Z2 k=n2) (h:n1.kids=1∧n2.kind=5) (hs:Zi L n2.text=some s) (hb:s.member=false) (hd:n2.text∈met):Zg val L met ys (x::r)=Zg val L (met++[n2.text]) ys r:=by
 subst h1 h2
 rw [Zg,hm]
 simp only
 rw [if_pos h,hs]
 simp only
 rw [if_neg (by rw [hb];simp),if_pos hd]
theorem Z7q {s:Said} (h1:Z2 x=n1) (hm:memV x Z0o=some k) (h2:Z2 k=n2) (h:n1.kids=1∧n2.kind=5) (hs:Zi L n2.text=some s) (hb:s.member=false) (hd:n2.text∉met):Zg val L met ys (x::r)=match val (met++[n2.text]) s.value [] with
  | none=>none
  | some (m,y)=>Zg val L m (ys++[y]) r:=by
 subst h1 h2
 rw [Zg,hm]
 simp only
 rw [if_pos h,hs]
 simp only
 rw [if_neg (by rw [hb];simp),if_neg hd]
 rfl
end
section
variable {val:RevV} {L:List Said} {met:List Dg} {ns:List (List UInt8)} {ys r:List (List Nd)} {x:List Nd} {n:Nd}
theorem Z9i (h1:Z2 x=n) (h:n.kind≠5):Zf val L met ns ys (x::r)=none:=by
 subst h1
 rw [Zf,if_neg h]
theorem Z7C (h1:Z2 x=n) (h:n.kind=5) (hs:Zi L n.text=none):Zf val L met ns ys (x::r)=Zf val L (met++[n.text]) ns ys r:=by
 subst h1
 rw [Zf,if_pos h,hs]
theorem Z6M {s:Said} (h1:Z2 x=n) (h:n.kind=5) (hs:Zi L n.text=some s) (hb:¬(s.member=true∧s.name∉ns)):Zf val L met ns ys (x::r)=none:=by
 subst h1
 rw [Zf,if_pos h,hs]
 simp only
 rw [if_neg hb]
theorem Z6N {s:Said} (h1:Z2 x=n) (h:n.kind=5) (hs:Zi L n.text=some s) (hb:s.member=true∧s.name∉ns) (hd:n.text∈met):Zf val L met ns ys (x::r)=Zf val L (met++[n.text]) (ns++[s.name]) ys r:=by
 subst h1
 rw [Zf,if_pos h,hs]
 simp only
 rw [if_pos hb,if_pos hd]
theorem Z7B {s:Said} (h1:Z2 x=n) (h:n.kind=5) (hs:Zi L n.text=some s) (hb:s.member=true∧s.name∉ns) (hd:n.text∉met):Zf val L met ns ys (x::r)=match val (met++[n.text]) s.value s.name with
  | none=>none
  | some (m,y)=>Zf val L m (ns++[s.name]) (ys++[y]) r:=by
 subst h1
 rw [Zf,if_pos h,hs]
 simp only
 rw [if_pos hb,if_neg hd]
 rfl
end
def rowO (key:List UInt8):Option (List Dg × List (List Nd))→Option (List Dg × List Nd)
 | none=>none
 | some (m,ys)=>some (m,rowN 6 key ys)
def addP (ys:List (List Nd)):Option (List Dg × List (List Nd))→Option (List Dg × List (List Nd))
 | some (m,us)=>some (m,ys++us)
 | none=>none
theorem ZbX (xs ys:List (List Nd)) (q:Option (List Dg × List (List Nd))):addP xs (addP ys q)=addP (xs++ys) q:=by
 cases q with
 | none=>rfl
 | some p=>simp [addP]
theorem Z1i {val:RevV} {L:List Said}:∀ (r:List (List Nd)) (met:List Dg) (ns:List (List UInt8)) (ys:List (List Nd)),Zf val L met ns ys r=addP ys (Zf val L met ns [] r)
 | [],met,ns,ys=>by simp [Zf,addP]
 | x::r,met,ns,ys=>by
  rw [Zf,Zf]
  by_cases h:(Z2 x).kind=5
  ·rw [if_pos h,if_pos h]
   cases Zi L (Z2 x).text with
   | none=>exact Z1i r _ _ ys
   | some s =>
    simp only
    by_cases h2:s.member=true∧s.name∉ns
    ·rw [if_pos h2,if_pos h2]
     by_cases h3:(Z2 x).text∈met
     ·rw [if_pos h3,if_pos h3]
      exact Z1i r _ _ ys
     ·rw [if_neg h3,if_neg h3]
      cases val (met++[(Z2 x).text]) s.value s.name with
      | none=>rfl
      | some my =>
       simp only [List.nil_append]
       rw [Z1i r my.1 _ (ys++[my.2]),Z1i r my.1 _ [my.2],ZbX]
    ·rw [if_neg h2,if_neg h2]
     rfl
  ·rw [if_neg h,if_neg h]
   rfl
theorem Z6z (xs:List (List Nd)) (x:List Nd):Z0P (xs++[x])=if (Z2 x).key=sdN then some x else Z0P xs:=by
 unfold Z0P
 rw [List.filter_append]
 by_cases h:(Z2 x).key=sdN
 ·rw [if_pos h,List.filter_cons_of_pos (by simpa using h),List.filter_nil,List.getLast?_concat]
 ·rw [if_neg h,List.filter_cons_of_neg (by simpa using h),List.filter_nil,List.append_nil]
theorem Z2m (xs:List (List Nd)) (x:List Nd):Zx (xs++[x])=if (Z2 x).key=sdN then Zx xs else Zx xs++[(Z2 x).key]:=by
 unfold Zx
 rw [List.map_append,List.filter_append]
 by_cases h:(Z2 x).key=sdN
 ·rw [if_pos h,List.map_singleton,List.filter_cons_of_neg (by simpa using h),List.filter_nil,List.append_nil]
 ·rw [if_neg h,List.map_singleton,List.filter_cons_of_pos (by simpa using h),List.filter_nil]
structure NGood (v:List Nd):Prop where
 flat:∀ n∈v,n.kind≠6→n.kind≠7→n.kids=0
 texts:∀ n∈v,n.key.length≤9223372036854775807∧n.text.length≤9223372036854775807
 len:v.length≤2200000
theorem NGood.vl {v:List Nd} {q:Nat} (h:NGood v) (ha:IsAt v q):Vl (Za v q):=⟨Z3e ha,fun n hn=>h.flat n (Z9D ha n hn)⟩
theorem Z20 {v:List Nd} {q:Nat} (h:q < v.length):Z0C v q∈v:=by
 unfold Z0C
 rw [List.getElem?_eq_getElem h]
 exact List.getElem_mem h
theorem Z1r {v:List Nd} {q i:Nat} (h:IsAt v q) (hi:i < (kidsOf v q).length):(kidsOf v q).drop i=Za v ((offs (q+1) (kidsOf v q)).getD i 0)::(kidsOf v q).drop (i+1):=by
 rw [List.drop_eq_getElem_cons hi,Z0A h hi]
theorem Z2i {v:List Nd} {q i:Nat} (h:IsAt v q) (hi:i < (kidsOf v q).length):IsAt v ((offs (q+1) (kidsOf v q)).getD i 0):=by
 obtain ⟨r,h⟩:=h
 rw [Z1Z hi]
 exact h.kidIs hi
end Sg
/- Well shaped values, in plain Lean: by going down; and by a stack, node after node; both say the same. -/
namespace Sg
def Zk (ok:List UInt8→Bool) (n:Nd):Bool :=
 if n.kind < 1∨7 < n.kind∨n.kids < 0∨(0 < n.kids∧n.kind≠6∧n.kind≠7) then false else
 if n.kind=4 then (numP n.text).isSome&&(n.whole==(Z6 n.text).2)&&decide (n.int=(Z6 n.text).1) else
 if n.whole=true∨n.int≠0 then false else
 if n.kind=5 then ok n.text else decide (n.text=[])
def Z0u (n:Nd):Prop:=n.kind=6∨n.kind=7
instance (n:Nd):Decidable (Z0u n):=inferInstanceAs (Decidable (_∨_))
def hasN (nm:Option (List (List UInt8))) (k:List UInt8):Bool:=match nm with
 | some ns=>decide (k∈ns)
 | none=>false
def Z0i (ok:List UInt8→Bool):Nat→Nat→Option (List (List UInt8))→Nat→List Nd→Option (List Nd)
 | _,_,_,0,l=>some l
 | 0,_,_,_+1,_=>none
 | f+1,d,nm,k+1,l=>match l with
  | []=>none
  | n::r =>
   if Zk ok n=false∨ok n.key=false∨(nm=none∧n.key≠[])∨(Z0u n∧d=0) then none else
   match Z0i ok f (d - 1) (if n.kind=7 then some [] else none) n.kids.toNat r with
   | none=>none
   | some r'=>if hasN nm n.key=true then none else Z0i ok f d (nm.map (n.key::·)) k r'
abbrev Lv:=Nat × Option (List (List UInt8))
def popL:List Lv→List Lv
 | []=>[]
 | (k,nm)::s=>if k=0 then popL s else (k,nm)::s
def shM (ok:List UInt8→Bool):List Nd→List Lv→Bool
 | [],st=>st.isEmpty
 | n::r,st=>match st with
  | []=>false
  | (k,nm)::s =>
   if Zk ok n=false then false else
   if (nm=none∧n.key≠[])∨hasN nm n.key=true∨ok n.key=false then false else
   if Z0u n then (if 32 < s.length+1 then false else shM ok r (popL ((n.kids.toNat,if n.kind=7 then some [] else none)::(k - 1,nm.map (n.key::·))::s)))
   else shM ok r (popL ((k - 1,nm.map (n.key::·))::s))
def ZH (ok:List UInt8→Bool) (v:List Nd):Bool:=shM ok v [(1,none)]
theorem Z6g (nm:Option (List (List UInt8))) (s:List Lv):popL ((0,nm)::s)=popL s:=rfl
theorem Z6h (k:Nat) (nm:Option (List (List UInt8))) (s:List Lv):popL ((k+1,nm)::s)=(k+1,nm)::s:=rfl
theorem Z8T {ok:List UInt8→Bool} {n:Nd} (h:Zk ok n=true) (hr:¬Z0u n):n.kids.toNat=0:=by
 unfold Zk at h
 split at h
 ·cases h
 ·rename_i h1
  have h2:¬(0 < n.kids):=fun h3=>h1 (.inr (.inr (.inr ⟨h3,fun e=>hr (.inl e),fun e=>hr (.inr e)⟩)))
  omega
theorem Z01 {ok:List UInt8→Bool} {f d:Nat} {nm:Option (List (List UInt8))} {l:List Nd}:Z0i ok f d nm 0 l=some l:=by cases f<;>rfl
theorem Z2v {ok:List UInt8→Bool}:∀ {f d:Nat} {nm:Option (List (List UInt8))} {k:Nat} {l r:List Nd},Z0i ok f d nm k l=some r→r.length≤l.length
 | f,d,nm,0,l,r,h=>by rw [Z01] at h;cases h;exact Nat.le_refl _
 | 0,d,nm,k+1,l,r,h=>by cases h
 | f+1,d,nm,k+1,[],r,h=>by cases h
 | f+1,d,nm,k+1,n::t,r,h=>by
  unfold Z0i at h
  simp only at h
  split at h
  ·cases h
  ·split at h
   ·cases h
   ·rename_i r' h1
    split at h
    ·cases h
    ·have h2:=Z2v h1
     have h3:=Z2v h
     simp only [List.length_cons]
     omega
theorem Z1D {ok:List UInt8→Bool}:∀ (f:Nat) (l:List Nd) (d k:Nat) (nm:Option (List (List UInt8))) (s:List Lv),l.length < f→s.length+d=32 →
  shM ok l (popL ((k,nm)::s))=match Z0i ok f d nm k l with
   | none=>false
   | some r=>shM ok r (popL s)
 | 0,l,d,k,nm,s,h,_=>by omega
 | f+1,l,d,0,nm,s,h,hd=>by rw [Z01,Z6g]
 | f+1,[],d,k+1,nm,s,h,hd=>rfl
 | f+1,n::t,d,k+1,nm,s,h,hd=>by
  have ht:t.length < f:=by simpa using h
  have e1:shM ok (n::t) ((k+1,nm)::s)=if Zk ok n=false then false else
    if (nm=none∧n.key≠[])∨hasN nm n.key=true∨ok n.key=false then false else
    if Z0u n then (if 32 < s.length+1 then false else shM ok t (popL ((n.kids.toNat,if n.kind=7 then some [] else none)::(k+1 - 1,nm.map (n.key::·))::s)))
    else shM ok t (popL ((k+1 - 1,nm.map (n.key::·))::s)):=rfl
  have e2:Z0i ok (f+1) d nm (k+1) (n::t)=if Zk ok n=false∨ok n.key=false∨(nm=none∧n.key≠[])∨(Z0u n∧d=0) then none else
    match Z0i ok f (d - 1) (if n.kind=7 then some [] else none) n.kids.toNat t with
    | none=>none
    | some r'=>if hasN nm n.key=true then none else Z0i ok f d (nm.map (n.key::·)) k r':=rfl
  rw [Z6h,e1,e2]
  clear e1 e2
  by_cases h1:Zk ok n=false
  ·rw [if_pos h1,if_pos (.inl h1)]
  have h1':Zk ok n=true:=by simpa using h1
  rw [if_neg h1]
  by_cases h2:ok n.key=false
  ·rw [if_pos (.inr (.inr h2)),if_pos (.inr (.inl h2))]
  by_cases h3:nm=none∧n.key≠[]
  ·rw [if_pos (.inl h3),if_pos (.inr (.inr (.inl h3)))]
  by_cases hr:Z0u n
  ·by_cases h5:d=0
   ·rw [if_pos (show Zk ok n=false∨ok n.key=false∨(nm=none∧n.key≠[])∨(Z0u n∧d=0) from .inr (.inr (.inr ⟨hr,h5⟩)))]
    simp only
    split
    ·rfl
    ·rw [if_pos (by omega)]
   ·rw [if_neg (show ¬(Zk ok n=false∨ok n.key=false∨(nm=none∧n.key≠[])∨(Z0u n∧d=0)) from fun h=>h.elim h1 (fun h=>h.elim h2 (fun h=>h.elim h3 (fun h=>h5 h.2))))]
    have ih1:=Z1D (ok:=ok) f t (d - 1) n.kids.toNat (if n.kind=7 then some [] else none) ((k+1 - 1,nm.map (n.key::·))::s) ht (by simp only [List.length_cons];omega)
    by_cases h4:hasN nm n.key=true
    ·rw [if_pos (.inr (.inl h4))]
     cases Z0i ok f (d - 1) (if n.kind=7 then some [] else none) n.kids.toNat t with
     | none=>rfl
     | some r'=>simp only;rw [if_pos h4]
    ·rw [if_neg (show ¬((nm=none∧n.key≠[])∨hasN nm n.key=true∨ok n.key=false) from fun h=>h.elim h3 (fun h=>h.elim h4 h2)),if_pos hr,if_neg (by omega),ih1]
     cases ht2:Z0i ok f (d - 1) (if n.kind=7 then some [] else none) n.kids.toNat t with
     | none=>rfl
     | some r' =>
      have hl:=Z2v ht2
      simp only
      rw [if_neg h4,show k+1 - 1=k by omega]
      exact Z1D (ok:=ok) f r' d k (nm.map (n.key::·)) s (by omega) hd
  ·rw [if_neg (show ¬(Zk ok n=false∨ok n.key=false∨(nm=none∧n.key≠[])∨(Z0u n∧d=0)) from fun h=>h.elim h1 (fun h=>h.elim h2 (fun h=>h.elim h3 (fun h=>hr h.1)))),Z8T h1' hr,Z01]
   simp only
   by_cases h4:hasN nm n.key=true
   ·rw [if_pos (.inr (.inl h4)),if_pos h4]
   ·rw [if_neg (show ¬((nm=none∧n.key≠[])∨hasN nm n.key=true∨ok n.key=false) from fun h=>h.elim h3 (fun h=>h.elim h4 h2)),if_neg hr,if_neg h4,show k+1 - 1=k by omega]
    exact Z1D (ok:=ok) f t d k (nm.map (n.key::·)) s ht hd
theorem Z32 (ok:List UInt8→Bool) (v:List Nd):ZH ok v=match Z0i ok (v.length+1) 32 none 1 v with
  | some []=>true
  | _=>false:=by
 unfold ZH
 have:=Z1D (ok:=ok) (v.length+1) v 32 1 none [] (by omega) rfl
 rw [Z6h] at this
 rw [this]
 cases Z0i ok (v.length+1) 32 none 1 v with
 | none=>rfl
 | some r=>cases r<;>rfl
end Sg
/- The library's contract of utf8.ValidString, laid at this program (printed by the kit's tools). -/
namespace Go.Proofs
open Go.Shelf
def Tryz.lays196_ren:Go.Shelf.Ren:=⟨fun|196=>39|259=>68|n=>n,fun|9=>9|4=>4|3=>3|5=>5|12=>12|119=>120|0=>0|46=>124|139=>123|138=>122|53=>154|n=>n,fun|3=>0|4=>1|n=>n⟩
theorem Tryz.lays196:Go.Proofs.Lays.n196 Tryz.prog Tryz.lays196_ren:={
 mixed:=by kernel_rfl
 f196:=Tryz.func39.trans (congrArg some (by kernel_rfl))
 f259:=Tryz.func68.trans (congrArg some (by kernel_rfl))
 t0:=Tryz.underlying0
 a0:=Tryz.isAgg0
 z0:=Tryz.sizeOf0
 v0:=Tryz.zeroValue0
 t3:=Tryz.underlying3
 a3:=Tryz.isAgg3
 z3:=Tryz.sizeOf3
 v3:=Tryz.zeroValue3
 t4:=Tryz.underlying4
 a4:=Tryz.isAgg4
 z4:=Tryz.sizeOf4
 v4:=Tryz.zeroValue4
 t5:=Tryz.underlying5
 a5:=Tryz.isAgg5
 z5:=Tryz.sizeOf5
 v5:=Tryz.zeroValue5
 t9:=Tryz.underlying9
 a9:=Tryz.isAgg9
 z9:=Tryz.sizeOf9
 v9:=Tryz.zeroValue9
 t12:=Tryz.underlying12
 a12:=Tryz.isAgg12
 z12:=Tryz.sizeOf12
 v12:=Tryz.zeroValue12
 t46:=Tryz.underlying124
 a46:=Tryz.isAgg124
 z46:=Tryz.sizeOf124
 v46:=Tryz.zeroValue124
 t53:=Tryz.underlying154
 a53:=Tryz.isAgg154
 z53:=Tryz.sizeOf154
 v53:=Tryz.zeroValue154
 t119:=Tryz.underlying120
 a119:=Tryz.isAgg120
 z119:=Tryz.sizeOf120
 t138:=Tryz.underlying122
 a138:=Tryz.isAgg122
 z138:=Tryz.sizeOf122
 v138:=Tryz.zeroValue122
 t139:=Tryz.underlying123
 a139:=Tryz.isAgg123
 z139:=Tryz.sizeOf123
 v139:=Tryz.zeroValue123
 g3:=by kernel_rfl
 g4:=by kernel_rfl }
open Go.RowKit in
theorem Tryz.utf8_ValidString (s:ByteArray) (w:World) (hs:s.size≤9223372036854775807) (hT:Lib.Utf8Tabs 0 1 w) :
  Calls Tryz.prog 39 #[.string s] w fun e w'=>e=.returned (.bool (Lib.validD s.data.toList))∧Below w.heap.size w w':=Any.utf8_ValidString Tryz.lays196 s w hs hT
end Go.Proofs
