/- Texts put together by a program: RevF SplP SerP RevG ShaA ShaB ShaC ShaD ShaE. -/
import Derived.Test.YtjajcmedipjfhaaGreatDoorMi
import Derived.Test.YtjajcmedipjfhaaGreatDoorMg
import Derived.Test.YtjajcmedipjfhaaGreatDoorMb
import Derived.Test.YtjajcmedipjfhaaGreatDoorMd
import Derived.Test.YtjajcmedipjfhaaGreatDoorFacts
import Derived.Test.YtjajcmedipjfhaaGreatDoorMa
/- The walk of the reading of a disclosure. -/
/- ptrs -/
namespace Go.Proofs.YtjajcmedipjfhaaGreatDoor
open Sg Go.IntWalk
set_option maxRecDepth 100000
set_option maxHeartbeats 4000000
section
variable {F:World} {M:List Nat} {H:List Res} {t dg:List UInt8}
def decO (t:List UInt8):Option (List UInt8):=if (decX t).2.1=0 then some (decX t).1 else none
def RdO (H:List Res):Option Said→Ending→List Res→Prop
 | none=>fun e H'=>e=.returned (.tuple ⟨[.pointer none,.bool false]⟩)∧H'=H
 | some s=>fun e H'=>∃ b va vc r,e=.returned (.tuple ⟨[.pointer (some ⟨b,0,none⟩),.bool true]⟩)∧(∀ F M X,Rd F M (r::X) va (s.value.flatMap ndV))∧NGood s.value∧Fo 1 s.value∧s.name.length≤maxLen∧H'=.blk b [sV s.name,.bool s.member,.slice va s.value.length vc,.bool false] 66::r::H
theorem Z72 (hT:Tabs F M) (hn:t.length≤140737488351232):Meets Tryz.prog 27 [sV t] F M H (RdO H (Z4m dg (decO t))):=by
 refine Meets.enter Tryz.func27 rfl rfl ?_
 generalize hQ:Z4m dg (decO t)=Q
 repeat' (first|refine Sg.Y1 ?_|fail)
 refine T.call rfl rfl (Z4q hn) ?_
 rintro _ _ ⟨ad,cp,rfl,rfl⟩
 unfold decO at hQ
 by_cases h0:(decX t).2.1=0
 ·rw [if_pos h0] at hQ
  have hdl:(decX t).1.length≤t.length:=by
   unfold decX at h0 ⊢
   split
   ·exact Nat.zero_le _
   ·split
    ·exact Nat.zero_le _
    ·split
     ·rw [Z5N];omega
     ·exact Nat.zero_le _
  generalize (decX t).1=bs at *
  generalize (decX t).2.1=ce at *
  subst h0
  repeat' (first|refine Sg.Y1 ?_|fail)
  refine T.call rfl rfl (Z8V hT (by simp only [maxLen];omega)) ?_
  unfold Z4m at hQ
  dsimp only at hQ
  cases hp:Z05 Z6 bs with
  | bad c a =>
   rw [hp] at hQ
   dsimp only at hQ
   subst hQ
   have hc:=Z4O hp
   rintro _ _ ⟨rfl,rfl⟩
   repeat' (first|refine Sg.Y3 ?_|(apply T.gcase;apply rfl;apply rfl;all_goals intro _)|fail)
   exact ⟨_,PSub.drop (PSub.refl _),rfl,rfl⟩
  | ok a v =>
   rw [hp] at hQ
   dsimp only at hQ
   rintro _ _ ⟨va,vc,rfl,rfl⟩
   have hf:=Z5z hp
   have hg:=Z3M hp
   have ha:=IsAt.of_fo hf
   have hlt:=ha.lt
   have hvl:=hg.len
   have e0:Z2 v=v.getD 0 default:=by
    rw [←Z4 hlt]
    have:=Zj hf
    rw [←ZA,this]
   by_cases k6:(v.getD 0 default).kind=6
   ·have k6':(Z2 v).kind=6:=by rw [e0];exact k6
    have ld:=fun i=>Zau (i:=i) hf
    have kn:=fun i=>Z8j (i:=i) hf
    have hkv:=Vl.kids ⟨hf,hg.flat⟩
    have hol:(offs 1 (kidsOf v 0)).length=(kidsOf v 0).length:=Z0g ..
    have s2:=Z7W (dg:=dg) (v:=v) k6'
    have s3:=Z4D (dg:=dg) (v:=v) k6'
    have s4:=Z7X (dg:=dg) (v:=v)
    rw [hQ] at s2 s3 s4
    refine Sr.capR (ad:=va) inferInstance (fun hcap=>?_)
    repeat' (first|refine Sg.Y3 ?_|(apply S.condQ;apply rfl;all_goals intro _)|fail)
    refine T.call rfl rfl (Z22 (v:=v) rfl hvl ha) ?_
    rintro _ _ ⟨ka,kc,rfl,rfl⟩
    rw [Nat.zero_add]
    generalize hks:kidsOf v 0=ks at *
    obtain ⟨q,hq⟩:∃ q,q=offs 1 ks:=⟨_,rfl⟩
    rw [←hq] at ld kn hol ⊢
    have good:∀ m,(∀ lo,v.drop lo=m→NGood m):=fun m lo h=>by
     subst h
     exact ⟨fun n hn=>hg.flat n (List.mem_of_mem_drop hn),fun n hn=>hg.texts n (List.mem_of_mem_drop hn),by rw [List.length_drop];omega⟩
    have rds:∀ m lo,v.drop lo=m→∀ F M X,Rd F M (ouR va vc v::X) (saddr va vc lo 6) (m.flatMap ndV):=fun m lo h F M X=>by
     subst h
     exact Rd.subF (g:=ndV) (sz:=6) Rd.row (fun _=>rfl) hcap
    by_cases l2:ks.length=2
    ·have s2:=s2 l2
     obtain ⟨kn1,kn2⟩:=kn 0 (by omega)
     rw [Z4 kn1] at kn2
     rw [←kn2] at s2
     have ld1:=ld 1 (by omega)
     have kn3:=(kn 1 (by omega)).1
     have hq2:q.length=2:=by omega
     have hx1:Vl (ks.getD 1 []):=hkv _ (by simp [List.getD,show 1 < ks.length by omega])
     have hl:v.length - q.getD 1 0=(ks.getD 1 []).length:=by rw [←ld1,List.length_drop]
     rw [l2]
     by_cases c5:(v.getD (q.getD 0 0) default).kind=5
     ·rw [if_pos c5] at s2
      repeat' (first|(apply T.subI;apply rfl;apply rfl;omega;apply rfl;rw [show ((2:Nat):Int) - 1=((1:Nat):Int) from rfl])|(apply T.box;apply rfl;apply rfl;intro nb)|refine Sg.Y3 ?_|(apply S.condQ;apply rfl;all_goals intro _)|fail)
      rw [hl,s2]
      exact ⟨_,PSub.take Z0 (PSub.drop (PSub.take Z0 (PSub.drop (PSub.refl _)))),nb,_,_,_,rfl,rds _ _ ld1,good _ _ ld1,hx1.1,by simp,rfl⟩
     ·rw [if_neg c5] at s2
      rw [s2]
      repeat' (first|refine Sg.Y3 ?_|(apply S.condQ;apply rfl;all_goals intro _)|fail)
      exact ⟨H,by repeat (first|exact PSub.refl _|apply PSub.drop),rfl,rfl⟩
    ·by_cases l3:ks.length=3
     ·have s3:=s3 l3
      obtain ⟨kn1,kn2⟩:=kn 0 (by omega)
      rw [Z4 kn1] at kn2
      rw [←kn2] at s3
      obtain ⟨kn4,kn5⟩:=kn 1 (by omega)
      rw [Z4 kn4] at kn5
      rw [←kn5] at s3
      have ld1:=ld 2 (by omega)
      have kn3:=(kn 2 (by omega)).1
      have hq2:q.length=3:=by omega
      have hx1:Vl (ks.getD 2 []):=hkv _ (by simp [List.getD,show 2 < ks.length by omega])
      have hl:v.length - q.getD 2 0=(ks.getD 2 []).length:=by rw [←ld1,List.length_drop]
      have htx:=(hg.texts _ (Z20 kn4)).2
      rw [Z4 kn4] at htx
      rw [l3]
      by_cases c5:(v.getD (q.getD 0 0) default).kind=5
      ·by_cases c6:(v.getD (q.getD 1 0) default).kind=5
       ·by_cases c7:(v.getD (q.getD 1 0) default).text=[95,115,100]
        ·rw [if_neg (fun h=>h.2.2.1 c7)] at s3
         rw [s3]
         repeat' (first|(apply T.subI;apply rfl;apply rfl;omega;apply rfl;rw [show ((3:Nat):Int) - 1=((2:Nat):Int) from rfl])|(apply T.alloc;apply rfl;intro nb)|(apply T.box;apply rfl;apply rfl;intro nb)|refine Sg.Y3 ?_|(apply S.condQ;apply rfl;all_goals intro _)|(apply T.gcase;apply rfl;apply rfl;all_goals intro _)|fail)
         exact ⟨H,by repeat (first|exact PSub.refl _|apply PSub.drop),rfl,rfl⟩
        ·by_cases c8:(v.getD (q.getD 1 0) default).text=[46,46,46]
         ·rw [if_neg (fun h=>h.2.2.2 c8)] at s3
          rw [s3]
          repeat' (first|(apply T.subI;apply rfl;apply rfl;omega;apply rfl;rw [show ((3:Nat):Int) - 1=((2:Nat):Int) from rfl])|(apply T.alloc;apply rfl;intro nb)|(apply T.box;apply rfl;apply rfl;intro nb)|refine Sg.Y3 ?_|(apply S.condQ;apply rfl;all_goals intro _)|(apply T.gcase;apply rfl;apply rfl;all_goals intro _)|fail)
          exact ⟨H,by repeat (first|exact PSub.refl _|apply PSub.drop),rfl,rfl⟩
         ·rw [if_pos ⟨c5,c6,c7,c8⟩] at s3
          rw [s3]
          repeat' (first|(apply T.subI;apply rfl;apply rfl;omega;apply rfl;rw [show ((3:Nat):Int) - 1=((2:Nat):Int) from rfl])|(apply T.alloc;apply rfl;intro nb)|(apply T.box;apply rfl;apply rfl;intro nb)|refine Sg.Y3 ?_|(apply S.condQ;apply rfl;all_goals intro _)|(apply T.gcase;apply rfl;apply rfl;all_goals intro _)|fail)
          rw [hl]
          exact ⟨_,PSub.drop (PSub.take Z0 (PSub.drop (PSub.take Z0 (PSub.drop (PSub.refl _))))),_,_,_,_,rfl,rds _ _ ld1,good _ _ ld1,hx1.1,htx,rfl⟩
       ·rw [if_neg (fun h=>c6 h.2.1)] at s3
        rw [s3]
        repeat' (first|(apply T.subI;apply rfl;apply rfl;omega;apply rfl;rw [show ((3:Nat):Int) - 1=((2:Nat):Int) from rfl])|(apply T.alloc;apply rfl;intro nb)|(apply T.box;apply rfl;apply rfl;intro nb)|refine Sg.Y3 ?_|(apply S.condQ;apply rfl;all_goals intro _)|(apply T.gcase;apply rfl;apply rfl;all_goals intro _)|fail)
        exact ⟨H,by repeat (first|exact PSub.refl _|apply PSub.drop),rfl,rfl⟩
      ·rw [if_neg (fun h=>c5 h.1)] at s3
       rw [s3]
       repeat' (first|refine Sg.Y3 ?_|(apply S.condQ;apply rfl;all_goals intro _)|fail)
       exact ⟨H,by repeat (first|exact PSub.refl _|apply PSub.drop),rfl,rfl⟩
     ·rw [s4 l2 l3]
      by_cases l1:ks.length < 2
      ·repeat' (first|refine Sg.Y3 ?_|(apply T.gcase;apply rfl;apply rfl;all_goals intro _)|fail)
       exact ⟨H,by repeat (first|exact PSub.refl _|apply PSub.drop),rfl,rfl⟩
      ·have hq0:0 < q.length:=by omega
       repeat' (first|refine Sg.Y3 ?_|(apply T.gcase;apply rfl;apply rfl;all_goals intro _)|fail)
       exact ⟨H,by repeat (first|exact PSub.refl _|apply PSub.drop),rfl,rfl⟩
   ·rw [Z62 (by rw [e0];exact k6)] at hQ
    subst hQ
    repeat' (first|refine Sg.Y3 ?_|(apply S.condQ;apply rfl;all_goals intro _)|fail)
    exact ⟨_,PSub.drop (PSub.drop (PSub.refl _)),rfl,rfl⟩
 ·rw [if_neg h0] at hQ
  have hQ':Q=none:=hQ.symm
  subst hQ'
  repeat' (first|refine Sg.Y3 ?_|(apply S.condQ;apply rfl;all_goals intro _)|fail)
  exact ⟨_,PSub.drop (PSub.refl _),rfl,rfl⟩
end
end Go.Proofs.YtjajcmedipjfhaaGreatDoor
/- How a value is spelled, in plain Lean: of a text, of a value; how long that can be. -/
namespace Sg
def NdSh (n:Nd):Prop:=1≤n.kind∧n.kind≤7∧(¬Z0u n→n.kids=0)
theorem Z5x {ok:List UInt8→Bool} {n:Nd} (h:Zk ok n=true):NdSh n∧0≤n.kids:=by
 unfold Zk at h
 split at h
 ·cases h
 ·rename_i h1
  unfold NdSh Z0u
  omega
theorem Z3f {ok:List UInt8→Bool}:∀ {f d:Nat} {nm:Option (List (List UInt8))} {k:Nat} {l r:List Nd},Z0i ok f d nm k l=some r→∃ a,l=a++r∧Fo k a∧∀ n∈a,NdSh n
 | f,d,nm,0,l,r,h=>by rw [Z01] at h;cases h;exact ⟨[],rfl,.nil,by simp⟩
 | 0,d,nm,k+1,l,r,h=>by cases h
 | f+1,d,nm,k+1,[],r,h=>by cases h
 | f+1,d,nm,k+1,n::t,r,h=>by
  unfold Z0i at h
  simp only at h
  split at h
  ·cases h
  ·rename_i hp
   have hp':Zk ok n=true:=by
    cases hq:Zk ok n with
    | true=>rfl
    | false=>exact absurd (.inl hq) hp
   obtain ⟨h0,h0'⟩:=Z5x hp'
   split at h
   ·cases h
   ·rename_i r' h1
    split at h
    ·cases h
    ·obtain ⟨a,rfl,ha,ha'⟩:=Z3f h1
     obtain ⟨b,rfl,hb,hb'⟩:=Z3f h
     refine ⟨n::(a++b),by simp,.node (by omega) ha hb,fun m hm=>?_⟩
     rcases List.mem_cons.1 hm with rfl|hm
     ·exact h0
     ·exact (List.mem_append.1 hm).elim (ha' m) (hb' m)
theorem Z9O {ok:List UInt8→Bool} {v:List Nd} (h:ZH ok v=true):Fo 1 v∧∀ n∈v,NdSh n:=by
 rw [Z32] at h
 split at h
 ·rename_i h1
  obtain ⟨a,e,h2,h3⟩:=Z3f h1
  rw [List.append_nil] at e
  subst e
  exact ⟨h2,h3⟩
 ·cases h
end Sg
/- The compact tokens of a JSON form, in plain Lean; by the program's way and by the document's. -/
namespace Sg
def allO {α β:Type} (f:α→Option β):List α→Option (List β)
 | []=>some []
 | x::r=>match f x with
  | none=>none
  | some y=>match allO f r with
   | none=>none
   | some ys=>some (y::ys)
/- By the program's way. -/
end Sg
/- What is revealed, in plain Lean: the answer, and the bounds of its nodes. -/
namespace Sg
def shaN:List UInt8:=[115,104,97,45,50,53,54]
def ZS (v:List Nd):Prop:=match memV v algN with
 | none=>False
 | some k=>¬((Z2 k).kind=5∧(Z2 k).text=shaN)
instance (v:List Nd):Decidable (ZS v):=by
 unfold ZS
 split<;>infer_instance
def dupL (met:List Dg):Bool:=!decide met.Nodup
def Z10 (ok:List UInt8→Bool) (rd:List UInt8→Option Said) (v:List Nd) (ts:List (List UInt8)):Int × List Nd :=
 if ZH ok v=false∨(Z2 v).kind≠7 then (200,[]) else if ZS v then (200,[]) else
 match allO rd ts with
 | none=>(200,[])
 | some L=>if dupL (L.map (·.dig))=true then (201,[]) else
  match revV (v.length+pend L []+1) L true [] v [] with
  | none=>(200,[])
  | some (m,y)=>if dupL m=true∨∃ s∈L,s.dig∉m then (201,[]) else if ZH ok y=false then (11,[]) else (0,y)
def addQ {β:Type} (ys:List β):Option (List β)→Option (List β)
 | none=>none
 | some zs=>some (ys++zs)
theorem Z8D {β:Type} (o:Option (List β)):addQ [] o=o:=by cases o<;>rfl
theorem Zb3 {α β:Type} {f:α→Option β} {x:α} {r:List α} {y:β} (h:f x=some y) (ys:List β):addQ ys (allO f (x::r))=addQ (ys++[y]) (allO f r):=by
 have h2:allO f (x::r)=match allO f r with
   | none=>none
   | some ys=>some (y::ys):=by rw [allO];simp only [h];try rfl
 rw [h2]
 cases allO f r<;>simp [addQ]
theorem Zb2 {α β:Type} {f:α→Option β} {x:α} {r:List α} (h:f x=none) (ys:List β):addQ ys (allO f (x::r))=none:=by
 unfold allO
 rw [h]
 rfl
def NdB (n:Nd):Prop:=n.text.length≤2200000∧n.key.length≤2200000
def AllB (x:List Nd):Prop:=∀ n∈x,NdB n
theorem AllB.kids {x:List Nd} (hx:Fo 1 x) (h:AllB x):∀ y∈kidsOf x 0,AllB y:=by
 obtain ⟨-,-,h3,-⟩:=Zu hx
 intro y hy n hn
 refine h n ?_
 rw [h3]
 exact List.mem_cons_of_mem _ (List.mem_flatten.2 ⟨y,hy,hn⟩)
theorem AllB.head {x:List Nd} (hx:Fo 1 x) (h:AllB x):NdB (Z2 x):=by
 obtain ⟨-,-,h3,-⟩:=Zu hx
 exact h _ (by rw [h3];exact List.mem_cons_self ..)
def Bounds (val:RevV) (L:List Said):Prop:=∀ met x key m y,Vl x→AllB x→key.length≤2200000→val met x key=some (m,y)→AllB y
def LOk (L:List Said):Prop:=∀ s∈L,Vl s.value∧AllB s.value∧s.name.length≤2200000
theorem Z3X {val:RevV} {L:List Said} (hv:Bounds val L) (hL:LOk L):∀ (r:List (List Nd)) (met:List Dg) (ys:List (List Nd)) (m:List Dg) (zs:List (List Nd)),(∀ y∈r,Vl y∧AllB y)→(∀ y∈ys,AllB y)→Zg val L met ys r=some (m,zs)→∀ y∈zs,AllB y
 | [],met,ys,m,zs,_,hy,h=>by
  rw [Zg] at h
  cases h
  exact hy
 | x::r,met,ys,m,zs,hr,hy,h=>by
  have hx:=hr x (List.mem_cons_self ..)
  have hr':∀ y∈r,Vl y∧AllB y:=fun y h=>hr y (List.mem_cons_of_mem _ h)
  have app:∀ {y},AllB y→∀ z∈ys++[y],AllB z:=fun h z hz=>(List.mem_append.1 hz).elim (hy z) fun e=>by rw [List.mem_singleton.1 e];exact h
  rw [Zg] at h
  split at h
  ·split at h
   ·cases h
   ·rename_i m1 y h1
    exact Z3X hv hL r m1 _ m zs hr' (app (hv _ _ _ _ _ hx.1 hx.2 (by simp) h1)) h
  ·split at h
   ·split at h
    ·exact Z3X hv hL r _ ys m zs hr' hy h
    ·rename_i s hs
     obtain ⟨hs1,hs2⟩:=Zl hs
     obtain ⟨l1,l2,l3⟩:=hL s hs1
     split at h
     ·cases h
     ·split at h
      ·exact Z3X hv hL r _ ys m zs hr' hy h
      ·split at h
       ·cases h
       ·rename_i m1 y h1
        exact Z3X hv hL r m1 _ m zs hr' (app (hv _ _ _ _ _ l1 l2 (by simp) h1)) h
   ·cases h
theorem Z2E {val:RevV} {L:List Said} (hv:Bounds val L) {top:Bool}:∀ (r:List (List Nd)) (met:List Dg) (ys:List (List Nd)) (m:List Dg) (zs:List (List Nd)),(∀ y∈r,Vl y∧AllB y)→(∀ y∈ys,AllB y)→Z8 val top met ys r=some (m,zs)→∀ y∈zs,AllB y
 | [],met,ys,m,zs,_,hy,h=>by
  rw [Z8] at h
  cases h
  exact hy
 | x::r,met,ys,m,zs,hr,hy,h=>by
  have hx:=hr x (List.mem_cons_self ..)
  have hr':∀ y∈r,Vl y∧AllB y:=fun y h=>hr y (List.mem_cons_of_mem _ h)
  have app:∀ {y},AllB y→∀ z∈ys++[y],AllB z:=fun h z hz=>(List.mem_append.1 hz).elim (hy z) fun e=>by rw [List.mem_singleton.1 e];exact h
  rw [Z8] at h
  split at h
  ·exact Z2E hv r _ ys m zs hr' hy h
  ·split at h
   ·exact Z2E hv r _ ys m zs hr' hy h
   ·split at h
    ·cases h
    ·rename_i m1 y h1
     exact Z2E hv r m1 _ m zs hr' (app (hv _ _ _ _ _ hx.1 hx.2 (hx.2.head hx.1.1).2 h1)) h
theorem Z5L {val:RevV} {L:List Said} (hv:Bounds val L) (hL:LOk L):∀ (r:List (List Nd)) (met:List Dg) (ns:List (List UInt8)) (ys:List (List Nd)) (m:List Dg) (zs:List (List Nd)),(∀ y∈ys,AllB y)→Zf val L met ns ys r=some (m,zs)→∀ y∈zs,AllB y
 | [],met,ns,ys,m,zs,hy,h=>by
  rw [Zf] at h
  cases h
  exact hy
 | x::r,met,ns,ys,m,zs,hy,h=>by
  have app:∀ {y},AllB y→∀ z∈ys++[y],AllB z:=fun h z hz=>(List.mem_append.1 hz).elim (hy z) fun e=>by rw [List.mem_singleton.1 e];exact h
  rw [Zf] at h
  split at h
  ·split at h
   ·exact Z5L hv hL r _ _ ys m zs hy h
   ·rename_i s hs
    obtain ⟨hs1,hs2⟩:=Zl hs
    obtain ⟨l1,l2,l3⟩:=hL s hs1
    split at h
    ·split at h
     ·exact Z5L hv hL r _ _ ys m zs hy h
     ·split at h
      ·cases h
      ·rename_i m1 y h1
       exact Z5L hv hL r m1 _ _ m zs (app (hv _ _ _ _ _ l1 l2 l3 h1)) h
    ·cases h
  ·cases h
theorem ZcL {kind:Int} {key:List UInt8} {ys:List (List Nd)} (hk:key.length≤2200000) (h:∀ y∈ys,AllB y):AllB (rowN kind key ys):=fun n hn=>by
 rcases List.mem_cons.1 hn with rfl|hn
 ·exact ⟨Nat.zero_le _,hk⟩
 ·obtain ⟨y,h1,h2⟩:=List.mem_flatten.1 hn
  exact h y h1 n h2
theorem ZcN {L:List Said} (hL:LOk L):∀ (f:Nat) (top:Bool),Bounds (revV f L top) L
 | 0,top=>fun met x key m y _ _ _ h=>by cases h
 | f+1,top=>fun met x key m y hx hb hk h=>by
  have ih:=ZcN hL f false
  have hkk:∀ y∈kidsOf x 0,Vl y∧AllB y:=fun y hy=>⟨hx.kids y hy,hb.kids hx.1 y hy⟩
  rw [revV] at h
  simp only at h
  split at h
  ·split at h
   ·cases h
   ·split at h
    ·cases h
    ·rename_i m1 ys h1
     have h2:=Z2E ih (kidsOf x 0) met [] m1 ys hkk (fun y hy=>by cases hy) h1
     split at h
     ·cases h
      exact ZcL hk h2
     ·split at h
      ·split at h
       ·cases h
       ·rename_i m2 zs h5
        have h6:=Z5L ih hL _ _ _ _ _ _ h2 h5
        cases h
        exact ZcL hk h6
      ·cases h
  ·split at h
   ·split at h
    ·cases h
    ·rename_i m1 ys h1
     have h2:=Z3X ih hL (kidsOf x 0) met [] m1 ys hkk (fun y hy=>by cases hy) h1
     cases h
     exact ZcL hk h2
   ·cases h
    intro n hn
    obtain rfl:=List.mem_singleton.1 hn
    exact ⟨(hb.head hx.1).1,hk⟩
theorem ZcJ {dg:List UInt8} {v:List Nd} {s:Said} (hv:Vl v) (hb:AllB v) (h:Z3E dg v=some s):s.dig=dg∧s.value.length+2≤v.length∧Vl s.value∧AllB s.value∧s.name.length≤2200000:=by
 have hk:=hv.kids
 have hkb:=hb.kids hv.1
 obtain ⟨h1,-,-,-⟩:=Zu hv.1
 unfold Z3E at h
 split at h
 ·match hks:kidsOf v 0 with
  | []=>rw [hks] at h;cases h
  | [_]=>rw [hks] at h;cases h
  | [a,x] =>
   rw [hks] at h hk hkb h1
   have ha:=(hk a (by simp)).1.pos
   simp only at h
   split at h
   ·cases h
    refine ⟨rfl,?_,hk x (by simp),hkb x (by simp),by simp⟩
    simp only [List.flatten_cons,List.flatten_nil,List.append_nil,List.length_append] at h1
    show x.length+2≤v.length
    omega
   ·cases h
  | [a,n,x] =>
   rw [hks] at h hk hkb h1
   have ha:=(hk a (by simp)).1.pos
   have hn:=(hk n (by simp)).1
   simp only at h
   split at h
   ·cases h
    refine ⟨rfl,?_,hk x (by simp),hkb x (by simp),((hkb n (by simp)).head hn).1⟩
    simp only [List.flatten_cons,List.flatten_nil,List.append_nil,List.length_append] at h1
    show x.length+2≤v.length
    omega
   ·cases h
  | _::_::_::_::_=>rw [hks] at h;cases h
 ·cases h
theorem ZcP {dg b:List UInt8} {s:Said} (h:Z4m dg (some b)=some s):s.dig=dg∧s.value.length+2≤b.length∧Vl s.value∧AllB s.value∧s.name.length≤2200000:=by
 unfold Z4m at h
 simp only at h
 split at h
 ·cases h
 ·rename_i a v hp
  obtain ⟨h1,h2,h3⟩:=Z5y hp
  obtain ⟨q1,q2,q3⟩:=ZcJ ⟨Z5z hp,Z4N hp⟩ (fun n hn=>⟨Nat.le_trans (h2 n hn).text (by omega),Nat.le_trans (h2 n hn).key (by omega)⟩) h
  exact ⟨q1,by omega,q3⟩
end Sg
/- The program's sum: turns, sizes, and one block by words of 32 bits. -/
namespace Go.Proofs.YtjajcmedipjfhaaGreatDoor
open Sg Go Go.RowKit Go.IntWalk
set_option maxRecDepth 100000
set_option maxHeartbeats 1000000
theorem Z9U (x:UInt32) (n k:Nat) (h:n+k=32) (h0:0 < n) (hk:0 < k):PCall Tryz.prog 158 [wV x,.int .i64 (-(n:Int))] (wV (rot n x)):=by
 intro w
 unfold wV
 have e1:bits BinOp.and IntKind.u64 (IntKind.u64.wrap (-(n:Int))) 31=(k:Int):=by
  have h2:IntKind.u64.wrap (-(n:Int))=((18446744073709551616 - n:Nat):Int):=by rw [IntKind.wrap_u64];omega
  rw [h2]
  have h3:=Zb0 (m:=18446744073709551616 - n) (n:=31) (by omega) (by omega)
  refine Eq.trans h3 ?_
  rw [show 31=2 ^ 5 - 1 from rfl,Nat.and_two_pow_sub_one_eq_mod]
  omega
 have e2:=Z81 x h h0 hk
 have hx:=UInt32.toNat_lt x
 generalize (rot (n:Int) x).toNat=r at *
 generalize x.toNat=m at *
 have e3:(32 - (k:Int))=n:=by omega
 rw [Za8] at e2
 go_enter Tryz.func158,Tryz.ntmps158
 go_wp2
 go_ret
 exact ⟨rfl,rfl⟩
theorem Z0Z (x:UInt32) (n:Int) (h:0 < n∧n < 32):PCall Tryz.prog 158 [wV x,.int .i64 (-n)] (wV (rot n x)):=by
 obtain ⟨m,rfl⟩:∃ m:Nat,n=(m:Int):=⟨n.toNat,by omega⟩
 exact Z9U x m (32 - m) (by omega) (by omega) (by omega)
theorem rotl7 (x:UInt32):PCall Tryz.prog 158 [wV x,.int .i64 (-7)] (wV (rot 7 x)):=Z0Z x 7 (by decide)
theorem rotl18 (x:UInt32):PCall Tryz.prog 158 [wV x,.int .i64 (-18)] (wV (rot 18 x)):=Z0Z x 18 (by decide)
theorem rotl17 (x:UInt32):PCall Tryz.prog 158 [wV x,.int .i64 (-17)] (wV (rot 17 x)):=Z0Z x 17 (by decide)
theorem rotl19 (x:UInt32):PCall Tryz.prog 158 [wV x,.int .i64 (-19)] (wV (rot 19 x)):=Z0Z x 19 (by decide)
theorem rotl6 (x:UInt32):PCall Tryz.prog 158 [wV x,.int .i64 (-6)] (wV (rot 6 x)):=Z0Z x 6 (by decide)
theorem rotl11 (x:UInt32):PCall Tryz.prog 158 [wV x,.int .i64 (-11)] (wV (rot 11 x)):=Z0Z x 11 (by decide)
theorem rotl25 (x:UInt32):PCall Tryz.prog 158 [wV x,.int .i64 (-25)] (wV (rot 25 x)):=Z0Z x 25 (by decide)
theorem rotl2 (x:UInt32):PCall Tryz.prog 158 [wV x,.int .i64 (-2)] (wV (rot 2 x)):=Z0Z x 2 (by decide)
theorem rotl13 (x:UInt32):PCall Tryz.prog 158 [wV x,.int .i64 (-13)] (wV (rot 13 x)):=Z0Z x 13 (by decide)
theorem rotl22 (x:UInt32):PCall Tryz.prog 158 [wV x,.int .i64 (-22)] (wV (rot 22 x)):=Z0Z x 22 (by decide)
theorem Z9m (w:World):Calls Tryz.prog 100 ⟨[.int .i64 1]⟩ w fun e w'=>e=.returned (.int .i64 64)∧w'=w:=by
 go_enter Tryz.func100,Tryz.ntmps100
 go_wp2
 go_ret
 exact ⟨rfl,rfl⟩
theorem Z58:PCall Tryz.prog 100 [.int .i64 1] (.int .i64 64):=Z9m
def stC (V:V8) (rest:List UInt8) (n:Nat):List Value:=.int .i64 1::(V.list.map wV++(List.replicate 8 (.int .u64 0)++(rest.map bV++[.int .u64 (n:Int)])))
abbrev stR (b:Nat) (V:V8) (rest:List UInt8) (n:Nat):Res:=.blk b (stC V rest n) 160
theorem Zdo {V:V8} {rest:List UInt8} {n j:Nat} (h:j < rest.length):(stC V rest n)[17+j]?=some (.int .u8 ((rest.getD j 0).toNat:Int)):=by
 have h1:(rest.map bV)[j]?=some (.int .u8 ((rest.getD j 0).toNat:Int)):=getB h
 rw [stC,show 17+j=(16+j)+1 by omega,List.getElem?_cons_succ,List.getElem?_append_right (by simp [V8.list];omega),List.getElem?_append_right (by simp [V8.list];omega),List.getElem?_append_left (by simp [V8.list];omega)]
 simp only [V8.list,List.length_map,List.length_cons,List.length_nil,List.length_replicate]
 rw [show 16+j - (0+1+1+1+1+1+1+1+1) - 8=j by omega]
 exact h1
theorem ZdL {V:V8} {rest:List UInt8} {n:Nat} (h:rest.length=128):(stC V rest n)[145]?=some (.int .u64 (n:Int)):=by
 rw [stC,List.getElem?_cons_succ,List.getElem?_append_right (by simp [V8.list]),List.getElem?_append_right (by simp [V8.list]),List.getElem?_append_right (by simp [V8.list,h])]
 simp [V8.list,h]
theorem Z6Z {V:V8} {rest:List UInt8} {n:Nat} (h:rest.length=128):(stC V rest n).length=146:=by simp [stC,V8.list,h]
theorem ZcB {V:V8} {rest:List UInt8} {n:Nat}:(stC V rest n).all (·.oneCell')=true:=by
 simp [stC,wV,Value.oneCell']
theorem Zbf {V:V8} {rest:List UInt8} {n m:Nat} (h:rest.length=128):(stC V rest n).set 145 (.int .u64 (m:Int))=stC V rest m:=by
 rw [stC,stC,List.set_cons_succ,List.set_append_right _ _ (by simp [V8.list]),List.set_append_right _ _ (by simp [V8.list]),List.set_append_right _ _ (by simp [V8.list,h])]
 simp [V8.list,h]
def V8.of (l:List UInt32):V8:=⟨l.getD 0 0,l.getD 1 0,l.getD 2 0,l.getD 3 0,l.getD 4 0,l.getD 5 0,l.getD 6 0,l.getD 7 0⟩
theorem V8.of_list {l:List UInt32} (h:l.length=8):(V8.of l).list=l:=by
 match l,h with
 | [a,b,c,d,e,f,g,h],_=>rfl
theorem ZcA {V:V8} {rest:List UInt8} {n i:Nat} {a:UInt32} (h:i < 8):(stC V rest n).set (1+i) (wV a)=stC (V8.of (V.list.set i a)) rest n:=by
 rw [stC,stC,V8.of_list (by simp [V8.list]),show 1+i=i+1 by omega,List.set_cons_succ,List.set_append_left _ _ (by simpa [V8.list] using h),List.map_set]
theorem Zbe {V:V8} {rest:List UInt8} {n i:Nat} (h:i < 8):(stC V rest n)[1+i]?=some (wV (V.list.getD i 0)):=by
 rw [stC,show 1+i=i+1 by omega,List.getElem?_cons_succ,List.getElem?_append_left (by simpa [V8.list] using h)]
 exact getW (by simpa [V8.list] using h)
instance stC_rest {F:World} {M:List Nat} {H:List Res} {b:Nat} {V:V8} {rest:List UInt8} {n o:Nat}:Rd F M (stR b V rest n::H) (some ⟨b,17+o,none⟩) ((rest.drop o).map bV):=⟨fun w hw j u hu=>by
 refine ⟨_,rfl,?_⟩
 have hj:o+j < rest.length:=by have:=(List.getElem?_eq_some_iff.1 hu).1;simp only [List.length_map,List.length_drop] at this;omega
 rw [Zm,hw.cell (List.mem_cons_self ..),Nat.add_assoc,Zdo hj]
 rw [List.getElem?_map,List.getElem?_drop,List.getElem?_eq_getElem hj] at hu
 simp only [Option.map_some,Option.some.injEq] at hu
 rw [←hu]
 simp [List.getD,hj]⟩
section
variable {q:Mode} {c:Ctx} {ds:List Deferred} {H:List Res} {ops:Array Oper} {l:List Oper} {κ:List Res→Env→Prop} {dr:Bool} {e:Env} {ty:TypeId} {pos:String} {aft:Array Edge}
theorem T.stWord {x y:Operand} {b i n:Nat} {V:V8} {rest:List UInt8} {a:UInt32} {t E:TypeId} {z:Value} {by_:Nat} [HI c.P t z 1 by_] {f:Res→List Res} (hx:ev e x=some (.pointer (some ⟨b,1+i,none⟩))) (hy:ev e y=some (wV a))
  (hb:AtB H b (stC V rest n) E f) (hi:i < 8) (hk:Sr (.eff dr) c ds (f (.blk b (stC (V8.of (V.list.set i a)) rest n) E)) ops l κ e):Sr (.eff dr) c ds H ops (⟨none,.store t x y,ty,pos,aft,none⟩::l) κ e:=by
 refine Sr.store (z:=z) (by_:=by_) hx hy (by simp [stC,V8.list];omega) rfl ?_
 rw [ZcA hi]
 exact hk
end
end Go.Proofs.YtjajcmedipjfhaaGreatDoor
/- The program's sum: one block taken by words of 32 bits. -/
namespace Go.Proofs.YtjajcmedipjfhaaGreatDoor
open Sg Go.IntWalk
set_option maxRecDepth 100000
set_option maxHeartbeats 2000000
theorem Z1c {l:List UInt8} {n j:Nat} (h:j < n):(l.take n).getD j 0=l.getD j 0:=by simp [List.getD,List.getElem?_take_of_lt h]
theorem Z3s (l:List UInt8):∀ n,n≤16→Z0T (l.take 64) n=Z0T l n
 | 0,_=>rfl
 | n+1,h=>by rw [Z0T,Z0T,Z3s l n (by omega),Z1c (by omega),Z1c (by omega),Z1c (by omega),Z1c (by omega)]
theorem Z1d {l:List UInt8} {o j:Nat}:(l.drop o).getD j 0=l.getD (o+j) 0:=by simp [List.getD]
theorem ZN {xs ys:List UInt32} {j:Nat} (h:j < xs.length):(xs++ys).getD j 0=xs.getD j 0:=by simp [List.getD,List.getElem?_append_left h]
theorem Z3k {xs:List UInt32} {i k:Nat} (h:xs.length=i) (hk:k=64 - (i+1)) (hi:i < 64) (a:UInt32):(xs++List.replicate (64 - i) 0).set i a=(xs++[a])++List.replicate k 0:=by
 subst hk
 obtain ⟨j,hj⟩:∃ j,64 - i=j+1:=⟨63 - i,by omega⟩
 rw [hj,List.replicate_succ,List.set_append_right _ _ (by omega),h,Nat.sub_self,List.set_cons_zero,show 64 - (i+1)=j by omega,List.append_assoc]
 rfl
def Z4s (V U:V8) (i:Nat):V8:=V8.of ((V.add U).list.take i++V.list.drop i)
theorem Z5c {V U:V8}:∀ {i:Nat},i < 8→V8.of ((Z4s V U i).list.set i ((Z4s V U i).list.getD i 0+U.list.getD i 0))=Z4s V U (i+1)
 | 0,_=>rfl
 | 1,_=>rfl
 | 2,_=>rfl
 | 3,_=>rfl
 | 4,_=>rfl
 | 5,_=>rfl
 | 6,_=>rfl
 | 7,_=>rfl
theorem _root_.Sg.Y11 {P R:Prop} (k:R) (h:Sg.Kp R→P:=by intro k;(first|(apply T.wadd;(iterate 3 apply rfl))|(apply T.wxor;(iterate 3 apply rfl))|(apply T.wand;(iterate 3 apply rfl))|(apply T.wnot;apply rfl;apply rfl)|(apply T.eqlP;apply rfl;apply rfl)|(apply T.mv;apply rfl;apply rfl)|(apply T.asn;apply rfl;apply rfl)|(apply T.len;apply rfl;apply rfl)|(apply T.nilCheck;apply rfl;apply rfl)|(apply T.fieldAddrZ;apply rfl;apply rfl)|(apply T.load;apply rfl;apply rfl;infer_instance;apply rfl;apply rfl)|(apply T.lss;(iterate 3 apply rfl))|(apply T.geq;(iterate 3 apply rfl))|(apply T.eql;(iterate 3 apply rfl))|(apply T.addI;apply rfl;apply rfl;omega;apply rfl)|(apply T.ixAZ;apply rfl;apply rfl;omega;apply rfl)|(apply T.ixA;apply rfl;apply rfl;omega;apply rfl)|(apply T.buildL;(iterate 3 apply rfl))|(apply T.buildAL;(iterate 3 apply rfl))|(apply T.loadW;apply rfl;apply rfl;infer_instance;(first|rfl|(simp only [List.length_append,List.length_map,List.length_set,List.length_replicate,List.length_cons,List.length_nil];first|done|omega));apply rfl)|(apply T.loadN;apply rfl;apply rfl;infer_instance;(first|rfl|(simp;done));apply rfl)|(apply T.storeW;apply rfl;apply rfl;infer_instance;(first|rfl|(simp only [List.length_append,List.length_map,List.length_set,List.length_replicate,List.length_cons,List.length_nil];first|done|omega));(first|rfl|(simp only [List.length_append,List.length_map,List.length_set,List.length_replicate,List.length_cons,List.length_nil];first|done|omega));(first|rfl|(repeat' first|apply all_nV|apply Z0s|apply all_iV|rfl|apply all_app)))|(with_reducible refine Sr.nil ?_)|(with_reducible refine S.seq ?_)|(with_reducible refine S.block ?_)|(with_reducible refine S.reg ?_)|(with_reducible refine S.skip ?_)|(with_reducible refine S.inBlock ?_)|(apply S.exit;apply rfl)|(apply S.quiet;apply rfl;kernel_rfl)|(apply T.retW;apply rfl)|(apply T.doneW;apply rfl)|(with_reducible apply T.ofRet)|(apply S.condT;apply rfl)|(apply S.condF;apply rfl)|fail);exact k.h):P:=h ⟨k⟩
theorem _root_.Sg.Y12 {P R:Prop} (k:R) (h:Sg.Kp R→P:=by intro k;(first|(apply T.shrGU64;apply rfl;apply rfl;omega;apply rfl)|((with_reducible apply T.subKN 15);apply rfl;apply rfl;omega;apply rfl)|((with_reducible apply T.subKN 2);apply rfl;apply rfl;omega;apply rfl)|(apply T.sliceAN;apply rfl;apply rfl;omega;apply rfl)|(apply T.convBU64;apply rfl;apply rfl)|(apply T.addNN;apply rfl;apply rfl;omega;apply rfl)|(apply T.wshr;apply rfl;apply rfl;omega;apply rfl)|(apply T.wbyte;apply rfl;apply rfl)|(apply T.widx;apply rfl;apply rfl;(first|omega|(simp only [List.length_append,List.length_replicate,Zy,ZI];omega)|assumption|(simp;done)|(simp;omega));apply rfl)|(apply T.mv;apply rfl;apply rfl)|(apply T.asn;apply rfl;apply rfl)|(apply T.len;apply rfl;apply rfl)|(apply T.nilCheck;apply rfl;apply rfl)|(apply T.fieldAddrZ;apply rfl;apply rfl)|(apply T.load;apply rfl;apply rfl;infer_instance;apply rfl;apply rfl)|(apply T.lss;(iterate 3 apply rfl))|(apply T.geq;(iterate 3 apply rfl))|(apply T.neq;(iterate 3 apply rfl))|(apply T.addI;apply rfl;apply rfl;omega;apply rfl)|(apply T.subI;apply rfl;apply rfl;omega;apply rfl)|(apply T.mulI;apply rfl;apply rfl;omega;apply rfl)|(apply T.ixN;apply rfl;apply rfl;infer_instance;omega;(first|omega|(simp only [List.length_map];omega)|(simp;omega));apply rfl)|(apply T.ixAZ;apply rfl;apply rfl;omega;apply rfl)|(apply T.ixA;apply rfl;apply rfl;omega;apply rfl)|(apply T.convI64;apply rfl;omega;apply rfl)|(apply T.convU64;apply rfl;omega;apply rfl)|(with_reducible refine Sr.nil ?_)|(with_reducible refine S.seq ?_)|(with_reducible refine S.block ?_)|(with_reducible refine S.reg ?_)|(with_reducible refine S.skip ?_)|(with_reducible refine S.inBlock ?_)|(apply S.exit;apply rfl)|(apply S.quiet;apply rfl;kernel_rfl)|(apply S.condQ;apply rfl;intro _;rotate_left;intro _;exfalso;(first|omega|with_reducible contradiction))|(apply S.condQ;apply rfl;intro _;exfalso;(first|omega|with_reducible contradiction);intro _)|fail);exact k.h):P:=h ⟨k⟩
theorem _root_.Sg.Y13 {P R:Prop} (k:R) (h:Sg.Kp R→P:=by intro k;(first|((with_reducible apply T.addKN 1);apply rfl;apply rfl;omega;apply rfl)|(apply T.stWord;apply rfl;apply rfl;infer_instance;omega)|((with_reducible apply T.subKN 16);apply rfl;apply rfl;omega;apply rfl)|((with_reducible apply T.subKN 7);apply rfl;apply rfl;omega;apply rfl)|((with_reducible apply T.addKN 2);apply rfl;apply rfl;omega;apply rfl)|((with_reducible apply T.addKN 3);apply rfl;apply rfl;omega;apply rfl)|(apply T.wand255;apply rfl;apply rfl)|(apply T.wadd;(iterate 3 apply rfl))|(apply T.wxor;(iterate 3 apply rfl))|(apply T.wand;(iterate 3 apply rfl))|(apply T.wor;(iterate 3 apply rfl))|(apply T.wshl;apply rfl;apply rfl;omega;apply rfl)|(apply T.wshr;apply rfl;apply rfl;omega;apply rfl)|(apply T.wconvB;apply rfl;apply rfl)|(apply T.wbyte;apply rfl;apply rfl)|(apply T.storeWK;apply rfl;apply rfl;infer_instance;apply rfl;(first|omega|(simp only [List.length_append,List.length_replicate,Zy,ZI];omega)|assumption|(simp;done)|(simp;omega)))|(apply T.mv;apply rfl;apply rfl)|(apply T.asn;apply rfl;apply rfl)|(apply T.nilCheck;apply rfl;apply rfl)|(apply T.fieldAddrZ;apply rfl;apply rfl)|(apply T.load;apply rfl;apply rfl;infer_instance;apply rfl;apply rfl)|(apply T.addI;apply rfl;apply rfl;omega;apply rfl)|(apply T.ixC;apply rfl;infer_instance;omega;(first|omega|(simp only [List.length_map];omega)|(simp;omega));apply rfl)|(apply T.ixN;apply rfl;apply rfl;infer_instance;omega;(first|omega|(simp only [List.length_map];omega)|(simp;omega));apply rfl)|(apply T.ixAZ;apply rfl;apply rfl;omega;apply rfl)|(apply T.ixAN;apply rfl;apply rfl;omega;apply rfl)|(apply T.ixA;apply rfl;apply rfl;omega;apply rfl)|(apply T.loadB;apply rfl;infer_instance;omega;apply rfl)|(apply T.buildAL;(iterate 3 apply rfl))|(apply T.storeW;apply rfl;apply rfl;infer_instance;(first|rfl|(simp only [List.length_append,List.length_map,List.length_set,List.length_replicate,List.length_cons,List.length_nil];first|done|omega));(first|rfl|(simp only [List.length_append,List.length_map,List.length_set,List.length_replicate,List.length_cons,List.length_nil];first|done|omega));(first|rfl|(repeat' first|apply all_nV|apply Z0s|apply all_iV|rfl|apply all_app)))|(with_reducible refine Sr.nil ?_)|(with_reducible refine S.reg ?_)|(with_reducible refine S.inBlock ?_)|(apply S.exit;apply rfl)|(apply T.retW;apply rfl)|(with_reducible apply T.ofRet)|(apply SA.en;apply rfl;apply rfl;kernel_rfl)|fail);exact k.h):P:=h ⟨k⟩
theorem Z6R {F:World} {M:List Nat} {H:List Res} {b n:Nat} {V:V8} {rest:List UInt8} (hr:rest.length=128) (hK:∀ H,Rd F M H (some ⟨11,0,none⟩) (k256.map wV)) :
  Meets Tryz.prog 130 [.pointer (some ⟨b,0,none⟩)] F M (stR b V rest n::H) (fun e H'=>e=.returned (pack [])∧H'=stR b (V.block (rest.take 64)) rest n::H):=by
 refine Meets.enter Tryz.func130 rfl rfl ?_
 repeat' (first|(apply T.alloc;apply rfl;intro nb)|refine Sg.Y11 ?_|fail)
 refine S.loopE 1 [0,2] (fun R b' μ H' e=>∃ i:Nat,H'=.blk nb ((Z0T rest i++List.replicate (64 - i) 0).map wV) 197::R∧e=(21,.int .i64 i)::b'∧i≤16∧μ=16 - i) rfl rfl ?_ _ _ ⟨0,rfl,rfl,by omega,rfl⟩ (by repeat' first|exact trivial|refine And.intro rfl ?_)
 ·rintro _ _ _ ⟨i,rfl,rfl,hi,rfl⟩ ih
  by_cases h1:i < 16
  ·have hl:=Zy rest i
   have ed:(rest.drop (4*i)).length=128 - 4*i:=by rw [List.length_drop,hr]
   repeat' (first|((with_reducible apply T.mulKN (n:=4));apply rfl;apply rfl;omega;apply rfl)|refine Sg.Y12 ?_|(apply S.condQ;apply rfl;all_goals intro _)|fail)
   (apply S.draw;(case Hs=>exact [stR b V rest n]);(case es=>exact  [24]);(case n=>exact  25);(case hn=>rfl))
   repeat' (first|(apply SA.qn;(iterate 4 apply rfl);kernel_rfl)|(apply SA.done;apply rfl;kernel_rfl)|(apply SK.intro;(first|exact fun _ h=>h|exact fun _ h=>St.psub h (by ((repeat (first|dsimp only [List.set_cons_zero]|dsimp only [List.set_cons_succ]));repeat' first|exact PSub.refl _|exact PSub.nil|(apply PSub.take;(repeat' first|(with_reducible exact Z0)|(with_reducible apply Z1)))|(with_reducible apply PSub.drop)|((apply PSub.take);(repeat' first|exact Z0|(apply Z1)))))))|refine Sg.Y13 ?_|fail)
   rw [Z3k hl rfl (by omega),Z1d,Z1d,Z1d,Z1d]
   skip
   exact ih _ _ _ _ ⟨i+1,rfl,rfl,by omega,rfl⟩ (by omega) (by repeat' first|exact trivial|refine And.intro rfl ?_)
  ·obtain rfl:i=16:=by omega
   repeat' (first|refine Sg.Y11 ?_|fail)
   generalize hm:Z0T rest 16=m
   have hl:m.length=16:=by rw [←hm,Zy]
   refine S.loopE 1 [0,2] (fun R b' μ H' e=>∃ k:Nat,H'=.blk nb ((sched m k++List.replicate (64 - (16+k)) 0).map wV) 197::R∧e=(5,.int .i64 ((16+k:Nat):Int))::b'∧k≤48∧μ=48 - k) rfl rfl ?_ _ _ ⟨0,rfl,rfl,by omega,rfl⟩ (by repeat' first|exact trivial|refine And.intro rfl ?_)
   rintro _ _ _ ⟨k,rfl,rfl,hk,rfl⟩ ih
   have hs:=ZI m k
   by_cases h1:k < 48
   ·repeat' (first|(apply T.loadGW;apply rfl;(first|infer_instance|exact hK _);(first|omega|(simp only [List.length_append,List.length_replicate,Zy,ZI];omega)|assumption|(simp;done)|(simp;omega));apply rfl)|refine Sg.Y12 ?_|(apply S.condQ;apply rfl;all_goals intro _)|fail)
    (apply S.draw;(case Hs=>exact [stR b V rest n]);(case es=>exact  [29]);(case n=>exact  30);(case hn=>rfl))
    repeat' (first|(apply SA.qcall;(iterate 3 apply rfl);kernel_rfl;apply rfl;infer_instance;apply rfl;first|with_reducible exact rotl7 _|with_reducible exact rotl18 _|with_reducible exact rotl17 _|with_reducible exact rotl19 _)|(apply T.loadGW;apply rfl;(first|infer_instance|exact hK _);(first|omega|(simp only [List.length_append,List.length_replicate,Zy,ZI];omega)|assumption|(simp;done)|(simp;omega));apply rfl)|(apply SA.qn;(iterate 4 apply rfl);kernel_rfl)|(apply SA.done;apply rfl;kernel_rfl)|(apply SK.intro;(first|exact fun _ h=>h|exact fun _ h=>St.psub h (by ((repeat (first|dsimp only [List.set_cons_zero]|dsimp only [List.set_cons_succ]));repeat' first|exact PSub.refl _|exact PSub.nil|(apply PSub.take;(repeat' first|(with_reducible exact Z0)|(with_reducible apply Z1)))|(with_reducible apply PSub.drop)|((apply PSub.take);(repeat' first|exact Z0|(apply Z1)))))))|refine Sg.Y13 ?_|fail)
    rw [show 16+k - 16=k by omega,show 16+k - 7=k+9 by omega,show 16+k - 15=k+1 by omega,show 16+k - 2=k+14 by omega,ZN (by omega),ZN (by omega),ZN (by omega),ZN (by omega),Z3k (k:=64 - (16+(k+1))) (by omega) (by omega) (by omega)]
    exact ih _ _ _ _ ⟨k+1,rfl,rfl,by omega,rfl⟩ (by omega) (by repeat' first|exact trivial|refine And.intro rfl ?_)
   ·obtain rfl:k=48:=by omega
    rw [show 64 - (16+48)=0 from rfl,List.replicate_zero,List.append_nil]
    generalize hw:sched m 48=W
    have hW:W.length=64:=by rw [←hw,ZI,hl]
    clear ih
    repeat' (first|refine Sg.Y11 ?_|fail)
    refine S.loopE 0 [0,2] (fun R b' μ H' e=>∃ (i:Nat) (v:V8),H'=R∧e=(8,wV v.a)::(9,wV v.b)::(10,wV v.c)::(11,wV v.d)::(12,wV v.e)::(13,wV v.f)::(14,wV v.g)::(15,wV v.h)::(136,.int .i64 i)::b'∧v=rounds W V i∧i≤64∧μ=64 - i) rfl rfl ?_ _ _ ⟨0,V,rfl,rfl,rfl,by omega,rfl⟩ (by repeat' first|exact trivial|refine And.intro rfl ?_)
    rintro _ _ _ ⟨i,v,rfl,rfl,hv,hi,rfl⟩ ih
    by_cases h1:i < 64
    ·repeat' (first|refine Sg.Y12 ?_|(apply S.condQ;apply rfl;all_goals intro _)|fail)
     (apply S.draw;(case Hs=>exact []);(case es=>exact  []);(case n=>exact  27);(case hn=>rfl))
     repeat' (first|(apply SA.qcall;(iterate 3 apply rfl);kernel_rfl;apply rfl;infer_instance;apply rfl;first|with_reducible exact rotl6 _|with_reducible exact rotl11 _|with_reducible exact rotl25 _)|(apply T.loadGW;apply rfl;(first|infer_instance|exact hK _);(first|omega|(simp only [List.length_append,List.length_replicate,Zy,ZI];omega)|assumption|(simp;done)|(simp;omega));apply rfl)|(apply SA.qn;(iterate 4 apply rfl);kernel_rfl)|(apply SA.done;apply rfl;kernel_rfl)|refine Sg.Y11 ?_|fail)
     repeat' (first|(apply T.pcall;apply rfl;infer_instance;apply rfl;first|with_reducible exact rotl2 _|with_reducible exact rotl13 _|with_reducible exact rotl22 _)|refine Sg.Y13 ?_|fail)
     exact ih _ _ _ _ ⟨i+1,v.step (k256.getD i 0) (W.getD i 0),rfl,rfl,by rw [hv];rfl,by omega,rfl⟩ (by omega) (by repeat' first|exact trivial|refine And.intro rfl ?_)
    ·obtain rfl:i=64:=by omega
     clear ih
     have hB:V.block (rest.take 64)=V.add v:=by rw [hv,←hw,←hm,V8.block,Z3s _ _ (by omega)]
     rw [hB]
     clear hB hv
     repeat' (first|refine Sg.Y11 ?_|fail)
     refine S.loopE 2 [0] (fun R b' μ H' e=>∃ i:Nat,H'=.blk nb (W.map wV) 197::stR b (Z4s V v i) rest n::R∧e=(205,.int .i64 i)::(204,.agg ⟨v.list.map wV⟩)::b'∧i≤8∧μ=8 - i) rfl rfl ?_ _ _ ⟨0,rfl,rfl,by omega,rfl⟩ (by repeat' first|exact trivial|refine And.intro rfl ?_)
     rintro _ _ _ ⟨i,rfl,rfl,hi,rfl⟩ ih
     by_cases h1:i < 8
     ·have hvl:v.list.length=8:=rfl
      repeat' (first|refine Sg.Y12 ?_|(apply S.condQ;apply rfl;all_goals intro _)|fail)
      (apply S.draw;(case Hs=>exact []);(case es=>exact  [11]);(case n=>exact  12);(case hn=>rfl))
      repeat' (first|(apply T.load;apply rfl;apply rfl;infer_instance;exact Zbe (by omega);apply rfl)|(apply SA.qn;(iterate 4 apply rfl);kernel_rfl)|(apply SA.done;apply rfl;kernel_rfl)|(apply SK.intro;(first|exact fun _ h=>h|exact fun _ h=>St.psub h (by ((repeat (first|dsimp only [List.set_cons_zero]|dsimp only [List.set_cons_succ]));repeat' first|exact PSub.refl _|exact PSub.nil|(apply PSub.take;(repeat' first|(with_reducible exact Z0)|(with_reducible apply Z1)))|(with_reducible apply PSub.drop)|((apply PSub.take);(repeat' first|exact Z0|(apply Z1)))))))|refine Sg.Y13 ?_|fail)
      rw [Z5c h1]
      skip
      exact ih _ _ _ _ ⟨i+1,rfl,rfl,by omega,rfl⟩ (by omega) (by repeat' first|exact trivial|refine And.intro rfl ?_)
     ·obtain rfl:i=8:=by omega
      repeat' (first|refine Sg.Y11 ?_|fail)
      exact ⟨_,.drop (PSub.refl _),rfl,rfl⟩
end Go.Proofs.YtjajcmedipjfhaaGreatDoor
/- The program's sum: Write, of all bytes. -/
namespace Go.Proofs.YtjajcmedipjfhaaGreatDoor
open Sg Go.IntWalk
set_option maxRecDepth 100000
set_option maxHeartbeats 2000000
structure Stt (l:List UInt8) (V:V8) (rest:List UInt8):Prop where
 len:rest.length=128
 val:V=absorb l (l.length / 64)
 rem:rest.take (l.length % 64)=l.drop (64*(l.length / 64))
theorem Stt.low {l u rest:List UInt8} {V:V8} (h:Stt l V rest) (hk:l.length % 64+u.length < 64):Stt (l++u) V (rest.take (l.length % 64)++u++rest.drop (l.length % 64+u.length)):=by
 have h1:=h.len
 have e1:(l++u).length / 64=l.length / 64:=by rw [List.length_append];omega
 have e2:(l++u).length % 64=l.length % 64+u.length:=by rw [List.length_append];omega
 refine ⟨by simp only [List.length_append,List.length_take,List.length_drop];omega,by rw [e1,Z1w _ _ _ (by omega)];exact h.val,?_⟩
 rw [e1,e2,List.drop_append_of_le_length (by omega),←h.rem,List.take_append_of_le_length (by simp only [List.length_append,List.length_take];omega),List.take_of_length_le (by simp only [List.length_append,List.length_take];omega)]
theorem Stt.full {l u rest:List UInt8} {V:V8} (h:Stt l V rest) (hk:l.length % 64+u.length=64) :
  Stt (l++u) (V.block ((rest.take (l.length % 64)++u++rest.drop (l.length % 64+u.length)).take 64)) (rest.take (l.length % 64)++u++rest.drop (l.length % 64+u.length)):=by
 have h1:=h.len
 have e1:(l++u).length / 64=l.length / 64+1:=by rw [List.length_append];omega
 have e2:(l++u).length % 64=0:=by rw [List.length_append];omega
 have e3:64*(l.length / 64)≤l.length:=by omega
 refine ⟨by simp only [List.length_append,List.length_take,List.length_drop];omega,?_,?_⟩
 ·rw [e1,absorb,Z1w _ _ _ e3,←h.val,List.drop_append_of_le_length e3,←h.rem,List.take_append_of_le_length (by simp only [List.length_append,List.length_take];omega)]
 ·rw [e1,e2,List.take_zero,List.drop_eq_nil_of_le (by rw [List.length_append];omega)]
theorem Zbg {V:V8} {rest us:List UInt8} {n o:Nat} (h:o+us.length≤rest.length):(stC V rest n).take (17+o)++us.map bV++(stC V rest n).drop (17+o+us.length)=stC V (rest.take o++us++rest.drop (o+us.length)) n:=by
 have hz:∀ (p r:List Value),p.length=17→(p++r).take (17+o)=p++r.take o:=fun p r hp=>by rw [←hp,List.take_length_add_append]
 have hd:∀ (p r:List Value) (k:Nat),p.length=17→(p++r).drop (17+k)=r.drop k:=fun p r k hp=>by rw [←hp,List.drop_length_add_append]
 have hs:∀ (r:List UInt8),stC V r n=(.int .i64 1::(V.list.map wV++List.replicate 8 (.int .u64 0)))++(r.map bV++[.int .u64 (n:Int)]):=fun r=>by simp [stC]
 rw [hs,hs,hz _ _ rfl,Nat.add_assoc,hd _ _ _ rfl,List.take_append_of_le_length (by simp;omega),List.drop_append_of_le_length (by simp;omega)]
 simp [List.map_append,List.map_take,List.map_drop]
section
variable {q:Sg.Mode} {c:Ctx} {ds:List Deferred} {H:List Res} {ops:Array Oper} {l:List Oper} {κ:List Res→Env→Prop} {dr:Bool} {e:Env} {ty:TypeId} {pos:String} {aft:Array Edge}
theorem T.stLoadN {x:Operand} {d b n:Nat} {t E:TypeId} [HU c.P t (.int .u64)] {V:V8} {rest:List UInt8} (hx:ev e x=some (.pointer (some ⟨b,145,none⟩))) (hb:InB H b (stC V rest n) E) (hr:rest.length=128) (hlt:Nat.blt d c.fn.ntmps=true)
  (hk:Sr q c ds H ops l κ ((d,.int .u64 (n:Int))::e)):Sr q c ds H ops (⟨some d,.load t x,ty,pos,aft,none⟩::l) κ e:=T.load (dd:=.int .u64) hx rfl hb (ZdL hr) hlt hk
theorem T.stStoreN {x y:Operand} {b n m:Nat} {V:V8} {rest:List UInt8} {t E:TypeId} {z:Value} {by_:Nat} [HI c.P t z 1 by_] {f:Res→List Res} (hx:ev e x=some (.pointer (some ⟨b,145,none⟩))) (hy:ev e y=some (.int .u64 (m:Int)))
  (hb:AtB H b (stC V rest n) E f) (hr:rest.length=128) (hk:Sr (.eff dr) c ds (f (.blk b (stC V rest m) E)) ops l κ e):Sr (.eff dr) c ds H ops (⟨none,.store t x y,ty,pos,aft,none⟩::l) κ e:=by
 refine Sr.store (z:=z) (by_:=by_) hx hy (by rw [Z6Z hr];decide) rfl ?_
 rw [Zbf hr]
 exact hk
theorem T.stCopy {d:Tmp} {x y:Operand} {b o dl dc m scp n t t' E Eb:Nat} {sad:Option Addr} [HU c.P t (.slice E)] {z:Value} {by_:Nat} [HI c.P E z 1 by_] {V:V8} {rest us:List UInt8} {f:Res→List Res} (k:Nat) (hx:ev e x=some (.slice (some ⟨b,17+o,none⟩) dl dc)) (hy:ev e y=some (.slice sad m scp))
  (hb:AtB H b (stC V rest n) Eb f) (hs:Rd c.F c.M H sad (us.map bV)) (hm:us.length=m) (h0:0 < m) (hk0:min m dl=k) (ho:o+k≤rest.length) (hlt:Nat.blt d c.fn.ntmps=true)
  (hk:Sr (.eff dr) c ds (f (.blk b (stC V (rest.take o++us.take k++rest.drop (o+k)) n) Eb)) ops l κ ((d,.int .i64 (k:Int))::e)) :
  Sr (.eff dr) c ds H ops (⟨some d,.call ⟨.builtin .copy,#[x,y],#[t,t']⟩,ty,pos,aft,none⟩::l) κ e:=by
 have hkl:(us.take k).length=k:=by rw [List.length_take];omega
 refine Sr.copyB (z:=z) (by_:=by_) hx hy hb hs (by rw [List.length_map];exact hm) h0 hk0 ?_ (Z0s _) hlt ?_
 ·simp [stC,V8.list];omega
 ·have:=Zbg (V:=V) (n:=n) (rest:=rest) (us:=us.take k) (o:=o) (by omega)
  rw [hkl] at this
  rw [←List.map_take,this]
  exact hk
end
theorem Z5V {F:World} {M:List Nat} {H:List Res} {b n:Nat} {V:V8} {rest:List UInt8} (hr:rest.length=128) (hK:∀ H,Rd F M H (some ⟨11,0,none⟩) (k256.map wV)) :
  Meets Tryz.prog 101 [.pointer (some ⟨b,0,none⟩)] F M (stR b V rest n::H) (fun e H'=>e=.returned (pack [])∧H'=stR b (V.block (rest.take 64)) rest n::H):=by
 refine Meets.enter Tryz.func101 rfl rfl ?_
 repeat' (first|refine Sg.Y9 ?_|fail)
 refine T.call rfl rfl (Z6R hr hK) ?_
 rintro _ _ ⟨rfl,rfl⟩
 repeat' (first|refine Sg.Y10 ?_|fail)
 all_goals exact ⟨_,PSub.refl _,rfl,rfl⟩
theorem Z4t {F:World} {M:List Nat} {H:List Res} {b c:Nat} {sa:Option Addr} {V:V8} {rest l₀ bs:List UInt8} (hS:Stt l₀ V rest) (hK:∀ H,Rd F M H (some ⟨11,0,none⟩) (k256.map wV))
  (hR:Rd F M H sa (bs.map bV)) (hc:bs.length≤c) (hn:l₀.length+bs.length≤281474976710656) :
  Meets Tryz.prog 70 [.pointer (some ⟨b,0,none⟩),.slice sa bs.length c] F M (stR b V rest l₀.length::H) (fun e H'=>e=.returned (pack [])∧∃ V' rest',H'=stR b V' rest' (l₀++bs).length::H∧Stt (l₀++bs) V' rest'):=by
 refine Meets.enter Tryz.func70 rfl rfl ?_
 repeat' (first|(apply T.pcall;apply rfl;infer_instance;apply rfl;with_reducible exact Z58)|refine Sg.Y9 ?_|fail)
 refine S.loopE 1 [0,4] (fun R b' μ H' e=>∃ (l' r:List UInt8) (ad:Option Addr) (c':Nat) (V':V8) (rest':List UInt8),H'=stR b V' rest' l'.length::R∧e=(1,.slice ad r.length c')::b'∧Stt l' V' rest'∧Rd F M H ad (r.map bV)∧r.length≤c'∧l'++r=l₀++bs∧μ=r.length) rfl rfl ?_ _ _ ⟨l₀,bs,sa,c,V,rest,rfl,rfl,hS,hR,hc,rfl,rfl⟩ (by repeat' first|exact trivial|refine And.intro rfl ?_)
 clear hS hR hc
 rintro _ _ _ ⟨l,r,ad,c',V,rest,rfl,rfl,hS,hR,hc,hlr,rfl⟩ ih
 have hl:l.length+r.length=(l++r).length:=by simp
 rw [hlr,List.length_append] at hl
 by_cases h1:0 < r.length
 ·have hr:=hS.len
  have hat:l.length % 64 < 64:=Nat.mod_lt _ (by decide)
  obtain ⟨k,hk⟩:∃ k,min r.length (64 - l.length % 64)=k:=⟨_,rfl⟩
  have hkl:(r.take k).length=k:=by rw [List.length_take];omega
  have hdl:(r.drop k).length=r.length - k:=by rw [List.length_drop]
  have hr2:(rest.take (l.length % 64)++r.take k++rest.drop (l.length % 64+k)).length=128:=by simp only [List.length_append,List.length_take,List.length_drop];omega
  have hn2:(l++r.take k).length=l.length+k:=by rw [List.length_append,hkl]
  have hR2:=hR.sub1 (cp:=c') (lo:=k) hc
  have hlr2:(l++r.take k)++r.drop k=l₀++bs:=by rw [List.append_assoc,List.take_append_drop,hlr]
  by_cases h2:l.length % 64+k=64
  ·have hS2:=hS.full (u:=r.take k) (by rw [hkl];exact h2)
   rw [hkl] at hS2
   repeat' (first|(apply T.stLoadN;apply rfl;infer_instance;(first|exact hr|exact hr2);apply rfl)|((with_reducible apply T.remU64 (n:=64));apply rfl;apply rfl;omega;apply rfl)|(refine T.sliceALH (j:=64) rfl rfl rfl (by omega) rfl ?_)|(refine T.stCopy k rfl rfl inferInstance inferInstance rfl (by omega) hk (by omega) rfl ?_)|(apply T.stStoreN;apply rfl;apply rfl;infer_instance;exact hr2)|refine Sg.Y8 ?_|(apply S.condQ;apply rfl;all_goals intro _)|fail)
   refine T.call rfl rfl (Z5V hr2 hK) ?_
   rintro _ _ ⟨rfl,rfl⟩
   repeat' (first|refine Sg.Y10 ?_|fail)
   rw [←hn2,←hdl]
   exact ih _ _ _ _ ⟨_,_,_,c' - k,_,_,rfl,rfl,hS2,hR2,by omega,hlr2,rfl⟩ (by omega) (by repeat' first|exact trivial|refine And.intro rfl ?_)
  ·have hS2:=hS.low (u:=r.take k) (by rw [hkl];omega)
   rw [hkl] at hS2
   repeat' (first|(apply T.stLoadN;apply rfl;infer_instance;(first|exact hr|exact hr2);apply rfl)|((with_reducible apply T.remU64 (n:=64));apply rfl;apply rfl;omega;apply rfl)|(refine T.sliceALH (j:=64) rfl rfl rfl (by omega) rfl ?_)|(refine T.stCopy k rfl rfl inferInstance inferInstance rfl (by omega) hk (by omega) rfl ?_)|(apply T.stStoreN;apply rfl;apply rfl;infer_instance;exact hr2)|refine Sg.Y8 ?_|(apply S.condQ;apply rfl;all_goals intro _)|fail)
   rw [←hn2,←hdl]
   exact ih _ _ _ _ ⟨_,_,_,c' - k,_,_,rfl,rfl,hS2,hR2,by omega,hlr2,rfl⟩ (by omega) (by repeat' first|exact trivial|refine And.intro rfl ?_)
 ·obtain rfl:r=[]:=List.eq_nil_of_length_eq_zero (by omega)
  rw [List.append_nil] at hlr
  subst hlr
  repeat' (first|refine Sg.Y9 ?_|fail)
  exact ⟨_,PSub.refl _,rfl,_,_,rfl,hS⟩
end Go.Proofs.YtjajcmedipjfhaaGreatDoor
/- The program's sum: New, Sum of a state, Sum of parts. -/
namespace Go.Proofs.YtjajcmedipjfhaaGreatDoor
open Sg Go.IntWalk
set_option maxRecDepth 100000
set_option maxHeartbeats 2000000
section
variable {q:Sg.Mode} {c:Ctx} {ds:List Deferred} {H:List Res} {ops:Array Oper} {l:List Oper} {κ:List Res→Env→Prop} {dr:Bool} {e:Env} {ty:TypeId} {pos:String} {aft:Array Edge}
theorem T.stWords {x y:Operand} {b n:Nat} {V U:V8} {rest:List UInt8} {t E:TypeId} {z:Value} {by_:Nat} [HI c.P t z 8 by_] {f:Res→List Res} (hx:ev e x=some (.pointer (some ⟨b,1,none⟩))) (hy:ev e y=some (.agg ⟨U.list.map wV⟩))
  (hb:AtB H b (stC V rest n) E f) (hk:Sr (.eff dr) c ds (f (.blk b (stC U rest n) E)) ops l κ e):Sr (.eff dr) c ds H ops (⟨none,.store t x y,ty,pos,aft,none⟩::l) κ e :=
 Sr.storeN (z:=z) (by_:=by_) hx hy rfl (by simp [stC,V8.list]) ZdJ hk
end
theorem _root_.Sg.Y14 {P R:Prop} (k:R) (h:Sg.Kp R→P:=by intro k;(first|(apply T.stWords;apply rfl;apply rfl;infer_instance)|(apply T.wadd;(iterate 3 apply rfl))|(apply T.wxor;(iterate 3 apply rfl))|(apply T.wand;(iterate 3 apply rfl))|(apply T.wnot;apply rfl;apply rfl)|(apply T.eqlP;apply rfl;apply rfl)|(apply T.mv;apply rfl;apply rfl)|(apply T.asn;apply rfl;apply rfl)|(apply T.len;apply rfl;apply rfl)|(apply T.nilCheck;apply rfl;apply rfl)|(apply T.fieldAddrZ;apply rfl;apply rfl)|(apply T.load;apply rfl;apply rfl;infer_instance;apply rfl;apply rfl)|(apply T.lss;(iterate 3 apply rfl))|(apply T.geq;(iterate 3 apply rfl))|(apply T.eql;(iterate 3 apply rfl))|(apply T.addI;apply rfl;apply rfl;omega;apply rfl)|(apply T.ixAZ;apply rfl;apply rfl;omega;apply rfl)|(apply T.ixA;apply rfl;apply rfl;omega;apply rfl)|(apply T.buildL;(iterate 3 apply rfl))|(apply T.buildAL;(iterate 3 apply rfl))|(apply T.loadW;apply rfl;apply rfl;infer_instance;(first|rfl|(simp only [List.length_append,List.length_map,List.length_set,List.length_replicate,List.length_cons,List.length_nil];first|done|omega));apply rfl)|(apply T.loadN;apply rfl;apply rfl;infer_instance;(first|rfl|(simp;done));apply rfl)|(apply T.storeW;apply rfl;apply rfl;infer_instance;(first|rfl|(simp only [List.length_append,List.length_map,List.length_set,List.length_replicate,List.length_cons,List.length_nil];first|done|omega));(first|rfl|(simp only [List.length_append,List.length_map,List.length_set,List.length_replicate,List.length_cons,List.length_nil];first|done|omega));(first|rfl|(repeat' first|apply all_nV|apply Z0s|apply all_iV|rfl|apply all_app)))|(with_reducible refine Sr.nil ?_)|(with_reducible refine S.seq ?_)|(with_reducible refine S.block ?_)|(with_reducible refine S.reg ?_)|(with_reducible refine S.skip ?_)|(with_reducible refine S.inBlock ?_)|(apply S.exit;apply rfl)|(apply S.quiet;apply rfl;kernel_rfl)|(apply T.retW;apply rfl)|(apply T.doneW;apply rfl)|(with_reducible apply T.ofRet)|(apply S.condT;apply rfl)|(apply S.condF;apply rfl)|fail);exact k.h):P:=h ⟨k⟩
theorem Zbz {F:World} {M:List Nat} {H:List Res} (hG:∀ H,Rd F M H (some ⟨2,0,none⟩) (start256.list.map wV)) :
  Meets Tryz.prog 69 [.int .i64 1] F M H (fun e H'=>∃ nb,e=.returned (.pointer (some ⟨nb,0,none⟩))∧H'=stR nb start256 (List.replicate 128 0) 0::H):=by
 refine Meets.enter Tryz.func69 rfl rfl ?_
 repeat' (first|(apply T.loadGA;apply rfl;apply rfl;exact hG _;apply rfl;decide;apply rfl)|(apply T.box;apply rfl;apply rfl;intro nb)|refine Sg.Y11 ?_|fail)
 refine Sr.weaken (H':=stR nb ⟨0,0,0,0,0,0,0,0⟩ (List.replicate 128 0) 0::H) ?_ (fun _ h=>h)
 repeat' (first|refine Sg.Y14 ?_|fail)
 exact ⟨_,PSub.refl _,_,rfl,rfl⟩
theorem Zcz:Stt [] start256 (List.replicate 128 0):=⟨List.length_replicate ..,rfl,rfl⟩
theorem Z8C {n j:Nat} (h:j < 8):(bits8 n).take j++[UInt8.ofNat (((n*2 ^ 3:Nat):Int).toNat / 2 ^ (8*(7 - (j:Int))).toNat)]=(bits8 n).take (j+1):=by
 have:j=0∨j=1∨j=2∨j=3∨j=4∨j=5∨j=6∨j=7:=by omega
 rw [Int.toNat_natCast]
 rcases this with rfl|rfl|rfl|rfl|rfl|rfl|rfl|rfl<;>rfl
theorem Z45:∀ xs:List UInt32,(xs.flatMap bytes4).length=4*xs.length
 | []=>rfl
 | x::r=>by rw [List.flatMap_cons,List.length_append,Z45 r];simp only [bytes4,List.length_cons,List.length_nil];omega
theorem Z5T {xs:List UInt32} {i:Nat} (h:i < xs.length):(xs.take (i+1)).flatMap bytes4=(xs.take i).flatMap bytes4++bytes4 (xs.getD i 0):=by
 rw [List.take_succ_eq_append_getElem h,List.flatMap_append]
 simp [List.getD,h]
def padZ (z:Nat):List UInt8:=128::List.replicate z 0
theorem Z8K {F:World} {M:List Nat} {H:List Res} {b:Nat} {V:V8} {rest l:List UInt8} (hS:Stt l V rest) (hK:∀ H,Rd F M H (some ⟨11,0,none⟩) (k256.map wV)) (hn:l.length≤140737488355328) :
  Meets Tryz.prog 71 [.pointer (some ⟨b,0,none⟩)] F M (stR b V rest l.length::H) (fun e H'=>∃ ad cp,e=.returned (.slice ad (sha256 l).length cp)∧H'=.row ad cp 5 1 (sha256 l).length ((sha256 l).map bV)::stR b V rest l.length::H):=by
 refine Meets.enter Tryz.func71 rfl rfl ?_
 have hr:=hS.len
 repeat' (first|(apply T.loadW;apply rfl;apply rfl;infer_instance;exact Z6Z hr;apply rfl)|(apply T.storeW;apply rfl;apply rfl;infer_instance;exact Z6Z hr;apply rfl;exact ZcB)|(apply T.alloc;apply rfl;intro nb)|refine Sg.Y11 ?_|fail)
 (apply S.draw;(case Hs=>exact []);(case es=>exact  []);(case n=>exact  7);(case hn=>rfl))
 repeat' (first|(apply SA.qcall;(iterate 3 apply rfl);kernel_rfl;apply rfl;infer_instance;apply rfl;with_reducible exact Z58)|(apply T.stLoadN;apply rfl;infer_instance;exact hr;apply rfl)|(apply SA.qn;(iterate 4 apply rfl);kernel_rfl)|(apply SA.done;apply rfl;kernel_rfl)|refine Sg.Y11 ?_|fail)
 repeat' (first|((with_reducible apply T.quoI64 (m:=64) (n:=8));apply rfl;apply rfl;omega;omega;apply rfl)|(apply T.bs;(iterate 6 apply rfl);intro nb)|refine Sg.Y11 ?_|fail)
 rename_i sb
 refine S.rowOf (n:=1) rfl (by decide) ?_
 have hz:=Z1T l.length
 have hpl:∀ z,(padZ z).length=z+1:=fun z=>by simp [padZ]
 refine S.loopE 1 [3,4,5,6] (fun R b' μ H' e=>∃ (z:Nat) (ad:Option Addr) (cp:Nat),H'=.row ad cp 5 1 (padZ z).length ((padZ z).map bV)::R∧e=(7,.slice ad (padZ z).length cp)::b'∧z≤zeros l.length∧μ=zeros l.length - z) rfl rfl ?_ _ _ ⟨0,_,_,rfl,rfl,by omega,rfl⟩ (by repeat' first|exact trivial|refine And.intro rfl ?_)
 rintro _ _ _ ⟨z,ad,cp,rfl,rfl,hzl,rfl⟩ ih
 have hp:=hpl z
 by_cases h1:z < zeros l.length
 ·have hne:=Z3r l.length z h1
  have hz1:padZ z++[0]=padZ (z+1):=by rw [padZ,padZ,List.replicate_succ',List.cons_append]
  repeat' (first|((with_reducible apply T.remU64 (n:=64));apply rfl;apply rfl;omega;apply rfl)|((with_reducible apply T.remI64 (n:=64));apply rfl;apply rfl;omega;apply rfl)|(refine T.appendB (m:=0) rfl rfl inferInstance rfl ⟨by omega,by omega⟩ rfl ?_;intro na nc)|(apply T.bs;(iterate 6 apply rfl);intro nb)|refine Sg.Y12 ?_|(apply S.condQ;apply rfl;all_goals intro _)|fail)
  rw [hz1,show (padZ z).length+1=(padZ (z+1)).length by rw [hpl,hpl]]
  exact ih _ _ _ _ ⟨z+1,_,_,rfl,rfl,by omega,rfl⟩ (by omega) (by repeat' first|exact trivial|refine And.intro rfl ?_)
 ·obtain rfl:z=zeros l.length:=by omega
  clear ih
  repeat' (first|((with_reducible apply T.remU64 (n:=64));apply rfl;apply rfl;omega;apply rfl)|((with_reducible apply T.remI64 (n:=64));apply rfl;apply rfl;omega;apply rfl)|refine Sg.Y12 ?_|(apply S.condQ;apply rfl;all_goals intro _)|fail)
  refine S.loopE 1 [3,5] (fun R b' μ H' e=>∃ (j:Nat) (pl:List UInt8) (ad:Option Addr) (cp:Nat),H'=.row ad cp 5 1 pl.length (pl.map bV)::R∧e=(7,.slice ad pl.length cp)::(8,.int .i64 (7 - (j:Int)))::b'∧pl=padZ (zeros l.length)++(bits8 l.length).take j∧j≤8∧μ=8 - j) rfl rfl ?_ _ _ ⟨0,padZ (zeros l.length),_,_,rfl,rfl,by rw [List.take_zero,List.append_nil],by omega,rfl⟩ (by repeat' first|exact trivial|refine And.intro rfl ?_)
  rintro _ _ _ ⟨j,pl,ad,cp,rfl,rfl,hpe,hj,rfl⟩ ih
  have hpl2:pl.length=zeros l.length+1+j:=by rw [hpe,List.length_append,hpl,List.length_take];simp only [bits8,List.length_map,List.length_cons,List.length_nil];omega
  by_cases h2:j < 8
  ·repeat' (first|((with_reducible apply T.shlU64 (n:=3));apply rfl;apply rfl;omega;omega;apply rfl)|(apply T.bs;(iterate 6 apply rfl);intro nb)|(apply T.appendB;apply rfl;apply rfl;infer_instance;apply rfl;(constructor<;>omega);apply rfl;intro na nc)|refine Sg.Y12 ?_|(apply S.condQ;apply rfl;all_goals intro _)|fail)
   have he:=Z8C (n:=l.length) h2
   generalize UInt8.ofNat (((l.length*2 ^ 3:Nat):Int).toNat / 2 ^ (8*(7 - (j:Int))).toNat)=x at *
   rw [show (7 - (j:Int) - 1)=7 - ((j+1:Nat):Int) by omega,show pl.length+1=(pl++[x]).length by simp]
   exact ih _ _ _ _ ⟨j+1,pl++[x],_,_,rfl,rfl,by rw [hpe,List.append_assoc,he],by omega,rfl⟩ (by omega) (by repeat' first|exact trivial|refine And.intro rfl ?_)
  ·obtain rfl:j=8:=by omega
   clear ih
   refine S.capR (ad:=ad) inferInstance (fun hcap=>?_)
   have hpad:l++pl=padded l:=by rw [hpe,padded];rfl
   repeat' (first|refine Sg.Y11 ?_|fail)
   refine Sr.front sb ?_
   refine T.call rfl rfl (Z4t hS hK inferInstance hcap (by omega)) ?_
   rintro _ _ ⟨rfl,V',rest',rfl,hS'⟩
   have hr':=hS'.len
   have hsum:sha256 l=V'.list.flatMap bytes4:=by
    rw [hS'.val,hpad]
    rfl
   generalize (l++pl).length=n'
   repeat' (first|refine Sg.Y11 ?_|fail)
   refine S.nilrow 5 1 ?_
   have hvl:V'.list.length=8:=rfl
   have hfl:∀ i,i≤8→((V'.list.take i).flatMap bytes4).length=4*i:=fun i hi=>by rw [Z45,List.length_take];omega
   refine S.loopE 1 [] (fun R b' μ H' e=>∃ (i:Nat) (o:List UInt8) (ad:Option Addr) (cp:Nat),H'=.row ad cp 5 1 o.length (o.map bV)::R∧e=(10,.slice ad o.length cp)::(76,.int .i64 i)::(75,.agg ⟨V'.list.map wV⟩)::b'∧o=(V'.list.take i).flatMap bytes4∧i≤8∧μ=8 - i) rfl rfl ?_ _ _ ⟨0,[],_,_,rfl,rfl,rfl,by omega,rfl⟩ (by repeat' first|exact trivial|refine And.intro rfl ?_)
   rintro _ _ _ ⟨i,o,ad,cp,rfl,rfl,ho,hi,rfl⟩ ih
   have hol:=hfl i hi
   rw [←ho] at hol
   by_cases h3:i < 8
   ·repeat' (first|(apply T.append4;apply rfl;apply rfl;infer_instance;apply rfl;(constructor<;>omega);apply rfl;intro na nc)|(apply T.bs;(iterate 6 apply rfl);intro nb)|refine Sg.Y12 ?_|(apply S.condQ;apply rfl;all_goals intro _)|fail)
    have ho2:o++bytes4 (V'.list.getD i 0)=(V'.list.take (i+1)).flatMap bytes4:=by rw [Z5T (by omega),ho]
    have ho3:o.length+4=(o++bytes4 (V'.list.getD i 0)).length:=by rw [List.length_append];rfl
    rw [ho3]
    exact ih _ _ _ _ ⟨i+1,o++bytes4 (V'.list.getD i 0),_,_,rfl,rfl,ho2,by omega,rfl⟩ (by omega) (by repeat' first|exact trivial|refine And.intro rfl ?_)
   ·obtain rfl:i=8:=by omega
    rw [List.take_of_length_le (by omega),←hsum] at ho
    subst ho
    repeat' (first|refine Sg.Y11 ?_|fail)
    exact ⟨_,by ((repeat (first|dsimp only [List.set_cons_zero]|dsimp only [List.set_cons_succ]));repeat' first|exact PSub.refl _|exact PSub.nil|(apply PSub.take;(repeat' first|(with_reducible exact Z0)|(with_reducible apply Z1)))|(with_reducible apply PSub.drop)|((apply PSub.take);(repeat' first|exact Z0|(apply Z1)))),_,_,rfl,rfl⟩
theorem Zbc {F:World} {M:List Nat} {H:List Res} {pa:Option Addr} {pc:Nat} {ps:List (Option Addr × Nat × List UInt8)} (hK:∀ H,Rd F M H (some ⟨11,0,none⟩) (k256.map wV)) (hG:∀ H,Rd F M H (some ⟨2,0,none⟩) (start256.list.map wV))
  (hp:Rd F M H pa (ps.map fun p=>.slice p.1 p.2.2.length p.2.1)) (hb:∀ p∈ps,Rd F M H p.1 (p.2.2.map bV)∧p.2.2.length≤p.2.1) (hn:(ps.flatMap (·.2.2)).length≤140737488355328) (hl:ps.length≤140737488355328) :
  Meets Tryz.prog 40 [.int .i64 1,.slice pa ps.length pc] F M H (fun e H'=>∃ ad cp,e=.returned (.slice ad 32 cp)∧H'=.row ad cp 5 1 32 ((sha256 (ps.flatMap (·.2.2))).map bV)::H):=by
 refine Meets.enter Tryz.func40 rfl rfl ?_
 repeat' (first|refine Sg.Y11 ?_|fail)
 refine T.call rfl rfl (Zbz hG) ?_
 rintro _ _ ⟨sb,rfl,rfl⟩
 repeat' (first|refine Sg.Y11 ?_|fail)
 refine S.loopE 1 [5,12,13] (fun R b' μ H' e=>∃ (i:Nat) (l:List UInt8) (V:V8) (rest:List UInt8),H'=stR sb V rest l.length::R∧e=(14,.int .i64 i)::b'∧Stt l V rest∧l=(ps.take i).flatMap (·.2.2)∧i≤ps.length∧μ=ps.length - i) rfl rfl ?_ _ _ ⟨0,[],_,_,rfl,rfl,Zcz,rfl,by omega,rfl⟩ (by repeat' first|exact trivial|refine And.intro rfl ?_)
 rintro _ _ _ ⟨i,l,V,rest,rfl,rfl,hS,hl,hi,rfl⟩ ih
 have hsp:ps.flatMap (·.2.2)=l++(ps.drop i).flatMap (·.2.2):=by rw [hl,←List.flatMap_append,List.take_append_drop]
 by_cases h1:i < ps.length
 ·obtain ⟨p,hpi⟩:∃ p,ps[i]?=some p:=⟨_,List.getElem?_eq_getElem h1⟩
  have hpm:=List.mem_of_getElem? hpi
  have hv:(ps.map fun p=>(Value.slice p.1 p.2.2.length p.2.1))[i]?=some (.slice p.1 p.2.2.length p.2.1):=by rw [List.getElem?_map,hpi];rfl
  obtain ⟨hb1,hb2⟩:=hb p hpm
  have hpg:ps[i]=p:=by rw [List.getElem?_eq_getElem h1] at hpi;exact Option.some.inj hpi
  have hsn:l++p.2.2=(ps.take (i+1)).flatMap (·.2.2):=by
   rw [List.take_succ_eq_append_getElem h1,List.flatMap_append,←hl,hpg]
   simp
  have hle:(l++p.2.2).length≤140737488355328:=by
   rw [hsn]
   refine Nat.le_trans ?_ hn
   conv=>rhs;rw [←List.take_append_drop (i+1) ps,List.flatMap_append]
   rw [List.length_append]
   omega
  rw [List.length_append] at hle
  repeat' (first|(apply T.loadE;apply rfl;apply rfl;infer_instance;exact hv;apply rfl)|refine Sg.Y12 ?_|(apply S.condQ;apply rfl;all_goals intro _)|fail)
  refine T.call rfl rfl (Z4t hS hK hb1 hb2 (by omega)) ?_
  rintro _ _ ⟨rfl,V',rest',rfl,hS'⟩
  repeat' (first|refine Sg.Y13 ?_|fail)
  exact ih _ _ _ _ ⟨i+1,_,V',rest',rfl,rfl,hS',hsn,by omega,rfl⟩ (by omega) (by repeat' first|exact trivial|refine And.intro rfl ?_)
 ·obtain rfl:i=ps.length:=by omega
  rw [List.take_length] at hl
  rw [←hl] at hn ⊢
  repeat' (first|refine Sg.Y12 ?_|(apply S.condQ;apply rfl;all_goals intro _)|fail)
  refine T.call rfl rfl (Z8K hS hK hn) ?_
  rintro _ _ ⟨ad,cp,rfl,rfl⟩
  rw [Z17]
  repeat' (first|refine Sg.Y13 ?_|fail)
  exact ⟨_,by ((repeat (first|dsimp only [List.set_cons_zero]|dsimp only [List.set_cons_succ]));repeat' first|exact PSub.refl _|exact PSub.nil|(apply PSub.take;(repeat' first|(with_reducible exact Z0)|(with_reducible apply Z1)))|(with_reducible apply PSub.drop)|((apply PSub.take);(repeat' first|exact Z0|(apply Z1)))),_,_,rfl,rfl⟩
end Go.Proofs.YtjajcmedipjfhaaGreatDoor
/- The document's sum: turns, filling. -/
namespace Go.Proofs.YtjajcmedipjfhaaGreatDoor
open Sg Go Go.RowKit Go.IntWalk
set_option maxRecDepth 100000
set_option maxHeartbeats 2000000
theorem Z9G (x:UInt32) (n k:Nat) (h:n+k=32) (h0:0 < n) (hk:0 < k):PCall Tryz.prog 147 [wV x,.int .i64 (n:Int)] (wV (rot n x)):=by
 intro w
 unfold wV
 have e2:=Z81 x h h0 hk
 have hx:=UInt32.toNat_lt x
 generalize (rot (n:Int) x).toNat=r at *
 generalize x.toNat=m at *
 obtain rfl:k=32 - n:=by omega
 go_enter Tryz.func147,Tryz.ntmps147
 go_wp2
 go_ret
 exact ⟨rfl,rfl⟩
theorem Z0X (x:UInt32) (n:Int) (h:0 < n∧n < 32):PCall Tryz.prog 147 [wV x,.int .i64 n] (wV (rot n x)):=by
 obtain ⟨m,rfl⟩:∃ m:Nat,n=(m:Int):=⟨n.toNat,by omega⟩
 exact Z9G x m (32 - m) (by omega) (by omega) (by omega)
theorem turn7 (x:UInt32):PCall Tryz.prog 147 [wV x,.int .i64 7] (wV (rot 7 x)):=Z0X x 7 (by decide)
theorem turn18 (x:UInt32):PCall Tryz.prog 147 [wV x,.int .i64 18] (wV (rot 18 x)):=Z0X x 18 (by decide)
theorem turn17 (x:UInt32):PCall Tryz.prog 147 [wV x,.int .i64 17] (wV (rot 17 x)):=Z0X x 17 (by decide)
theorem turn19 (x:UInt32):PCall Tryz.prog 147 [wV x,.int .i64 19] (wV (rot 19 x)):=Z0X x 19 (by decide)
theorem turn6 (x:UInt32):PCall Tryz.prog 147 [wV x,.int .i64 6] (wV (rot 6 x)):=Z0X x 6 (by decide)
theorem turn11 (x:UInt32):PCall Tryz.prog 147 [wV x,.int .i64 11] (wV (rot 11 x)):=Z0X x 11 (by decide)
theorem turn25 (x:UInt32):PCall Tryz.prog 147 [wV x,.int .i64 25] (wV (rot 25 x)):=Z0X x 25 (by decide)
theorem turn2 (x:UInt32):PCall Tryz.prog 147 [wV x,.int .i64 2] (wV (rot 2 x)):=Z0X x 2 (by decide)
theorem turn13 (x:UInt32):PCall Tryz.prog 147 [wV x,.int .i64 13] (wV (rot 13 x)):=Z0X x 13 (by decide)
theorem turn22 (x:UInt32):PCall Tryz.prog 147 [wV x,.int .i64 22] (wV (rot 22 x)):=Z0X x 22 (by decide)
theorem Zac (m:Nat):UInt8.ofNat (m&&&255)=UInt8.ofNat m:=by
 apply UInt8.toNat_inj.1
 rw [UInt8.toNat_ofNat',UInt8.toNat_ofNat',show 255=2 ^ 8 - 1 from rfl,Nat.and_two_pow_sub_one_eq_mod]
 omega
theorem ZaS {n j:Nat} (h:j < 8):(bits8 n).take j++[UInt8.ofNat (((n*8:Nat):Int).toNat / 2 ^ (8*(7 - (j:Int))).toNat&&&255)]=(bits8 n).take (j+1):=by
 rw [Zac]
 exact Z8C h
theorem Z7u {F:World} {M:List Nat} {H:List Res} {sa:Option Addr} {bs:List UInt8} {c:Nat} (hR:Rd F M H sa (bs.map bV)) (hn:bs.length≤140737488355000) :
  Meets Tryz.prog 146 [.slice sa bs.length c,.int .i64 64] F M H (fun e H'=>∃ ad cp,e=.returned (.slice ad (padded bs).length cp)∧H'=.row ad cp 5 1 (padded bs).length ((padded bs).map bV)::H):=by
 refine Meets.enter Tryz.func146 rfl rfl ?_
 refine S.nilrowB 5 ?_
 have hz:=Z1T bs.length
 have hpl:∀ z,(padZ z).length=z+1:=fun z=>by simp [padZ]
 repeat' (first|(refine T.appendB (m:=128) rfl rfl inferInstance rfl ⟨by omega,by omega⟩ rfl ?_;intro na nc)|(apply T.appendBs;apply rfl;apply rfl;infer_instance;infer_instance;(first|rfl|assumption|exact beN_len _ _|(simp;done)|(simp;omega));omega;apply rfl;intro na nc)|(apply T.bs;(iterate 6 apply rfl);intro nb)|refine Sg.Y9 ?_|fail)
 rw [List.nil_append,Nat.zero_add,show bs.length+1=(bs++padZ 0).length by rw [List.length_append,hpl]]
 refine S.loopE 1 [0,1] (fun R b' μ H' e=>∃ (z:Nat) (pl:List UInt8) (ad:Option Addr) (cp:Nat),H'=.row ad cp 5 1 pl.length (pl.map bV)::R∧e=(5,.slice ad pl.length cp)::b'∧pl=bs++padZ z∧z≤zeros bs.length∧μ=zeros bs.length - z) rfl rfl ?_ _ _ ⟨0,bs++padZ 0,_,_,rfl,rfl,rfl,by omega,rfl⟩ (by repeat' first|exact trivial|refine And.intro rfl ?_)
 rintro _ _ _ ⟨z,pl,ad,cp,rfl,rfl,hpe,hzl,rfl⟩ ih
 have hp:pl.length=bs.length+z+1:=by rw [hpe,List.length_append,hpl,Nat.add_assoc]
 by_cases h1:z < zeros bs.length
 ·have hne:=Z3r bs.length z h1
  have hz1:pl++[0]=bs++padZ (z+1):=by rw [hpe,padZ,padZ,List.replicate_succ',List.append_assoc,List.cons_append]
  repeat' (first|((with_reducible apply T.remI64 (n:=64));apply rfl;apply rfl;omega;apply rfl)|(refine T.appendB (m:=0) rfl rfl inferInstance rfl ⟨by omega,by omega⟩ rfl ?_;intro na nc)|(apply T.bs;(iterate 6 apply rfl);intro nb)|refine Sg.Y8 ?_|(apply S.condQ;apply rfl;all_goals intro _)|fail)
  rw [show pl.length+1=(pl++[0]).length by simp]
  exact ih _ _ _ _ ⟨z+1,pl++[0],_,_,rfl,rfl,hz1,by omega,rfl⟩ (by omega) (by repeat' first|exact trivial|refine And.intro rfl ?_)
 ·obtain rfl:z=zeros bs.length:=by omega
  clear ih
  repeat' (first|((with_reducible apply T.remI64 (n:=64));apply rfl;apply rfl;omega;apply rfl)|((with_reducible apply T.mulU64N (n:=8));apply rfl;apply rfl;omega;apply rfl)|refine Sg.Y8 ?_|(apply S.condQ;apply rfl;all_goals intro _)|fail)
  refine S.loopE 1 [6] (fun R b' μ H' e=>∃ (j:Nat) (pl:List UInt8) (ad:Option Addr) (cp:Nat),H'=.row ad cp 5 1 pl.length (pl.map bV)::R∧e=(5,.slice ad pl.length cp)::(7,.int .i64 (7 - (j:Int)))::b'∧pl=bs++padZ (zeros bs.length)++(bits8 bs.length).take j∧j≤8∧μ=8 - j) rfl rfl ?_ _ _ ⟨0,pl,_,_,rfl,rfl,by rw [hpe,List.take_zero,List.append_nil],by omega,rfl⟩ (by repeat' first|exact trivial|refine And.intro rfl ?_)
  clear hpe hp
  rintro _ _ _ ⟨j,pl,ad,cp,rfl,rfl,hpe,hj,rfl⟩ ih
  have hpl2:pl.length=bs.length+zeros bs.length+1+j:=by rw [hpe,List.length_append,List.length_append,hpl,List.length_take];simp only [bits8,List.length_map,List.length_cons,List.length_nil];omega
  by_cases h2:j < 8
  ·have hdv:((bs.length*8:Nat):Int).toNat / 2 ^ (8*(7 - (j:Int))).toNat < 18446744073709551616:=Nat.lt_of_le_of_lt (Nat.div_le_self _ _) (by omega)
   repeat' (first|((with_reducible apply T.andU64 (n:=255));apply rfl;apply rfl;exact hdv;omega;apply rfl)|(apply T.bs;(iterate 6 apply rfl);intro nb)|(apply T.appendB;apply rfl;apply rfl;infer_instance;apply rfl;(constructor<;>omega);apply rfl;intro na nc)|refine Sg.Y8 ?_|(apply S.condQ;apply rfl;all_goals intro _)|fail)
   have he:=ZaS (n:=bs.length) h2
   generalize UInt8.ofNat (((bs.length*8:Nat):Int).toNat / 2 ^ (8*(7 - (j:Int))).toNat&&&255)=x at *
   rw [show (7 - (j:Int) - 1)=7 - ((j+1:Nat):Int) by omega,show pl.length+1=(pl++[x]).length by simp]
   exact ih _ _ _ _ ⟨j+1,pl++[x],_,_,rfl,rfl,by rw [hpe,List.append_assoc,he],by omega,rfl⟩ (by omega) (by repeat' first|exact trivial|refine And.intro rfl ?_)
  ·obtain rfl:j=8:=by omega
   have hpad:pl=padded bs:=by rw [hpe,List.append_assoc];rfl
   subst hpad
   repeat' (first|refine Sg.Y9 ?_|fail)
   exact ⟨_,PSub.refl _,_,_,rfl,rfl⟩
end Go.Proofs.YtjajcmedipjfhaaGreatDoor
