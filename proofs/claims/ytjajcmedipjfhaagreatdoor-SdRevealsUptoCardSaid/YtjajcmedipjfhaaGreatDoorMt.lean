/- Texts put together by a program: RvlF DsP. -/
import Derived.Test.YtjajcmedipjfhaaGreatDoorMm
import Derived.Test.YtjajcmedipjfhaaGreatDoorMp
import Derived.Test.YtjajcmedipjfhaaGreatDoorMs
import Derived.Test.YtjajcmedipjfhaaGreatDoorMr
import Derived.Test.YtjajcmedipjfhaaGreatDoorMg
import Derived.Lib.ValidLaws
import Derived.Lib.TrimUEq
/- The walk of the document's reading of a disclosure. -/
namespace Go.Proofs.YtjajcmedipjfhaaGreatDoor
open Sg Go.IntWalk
set_option maxRecDepth 100000
set_option maxHeartbeats 4000000
section
variable {F:World} {M:List Nat} {H:List Res} {t:List UInt8}
def RdT (H:List Res):Option Said→Ending→List Res→Prop
 | none=>fun e H'=>e=.returned (.tuple ⟨[.agg ⟨[sV [],sV [],.bool false,.slice none 0 0]⟩,.bool false]⟩)∧H'=H
 | some s=>fun e H'=>∃ va vc r,e=.returned (.tuple ⟨[.agg ⟨sdV ⟨s,va,vc⟩⟩,.bool true]⟩)∧(∀ F M X,Rd F M (r::X) va (s.value.flatMap ndV))∧VO s.value∧AllB s.value∧H'=r::H
theorem Z4S {x:List Nd} (h:Fo 1 x) (hk:(Z2 x).key=[]):ZJ x []=x:=Z92 h hk
theorem Z8Q (hT:ShT F M) (hn:t.length≤2200000):Meets Tryz.prog 32 [sV t] F M H (RdT H (Z12 t)):=by
 refine Meets.enter Tryz.func32 rfl rfl ?_
 unfold Z12
 generalize hQ:Z4m (Z03 t) (decO t)=Q
 repeat' (first|(apply T.alloc;apply rfl;intro nb)|refine Sg.Y1 ?_|fail)
 refine T.call rfl rfl (Z4l (s:=t) (by omega)) ?_
 rintro _ _ ⟨ad,cp,rfl,rfl⟩
 unfold decO at hQ
 by_cases h0:(decX t).2.1=0
 ·rw [if_pos h0] at hQ
  have hdl:(decX t).1.length≤t.length:=Z8u (by unfold decO;rw [if_pos h0])
  generalize (decX t).1=bs at *
  generalize (decX t).2.1=ce at *
  subst h0
  repeat' (first|refine Sg.Y1 ?_|fail)
  refine T.call rfl rfl (Z5t (t:=bs)) ?_
  unfold Z4m at hQ
  dsimp only at hQ
  cases hp:Z05 Z6 bs with
  | bad c a =>
   rw [hp] at hQ
   dsimp only at hQ
   subst hQ
   have hc:=Z4O hp
   rintro _ _ ⟨rfl,rfl⟩
   repeat' (first|refine Sg.Y3 ?_|(apply T.gcase;apply rfl;apply rfl;all_goals intro _)|fail)
   exact ⟨H,by repeat (first|exact PSub.refl _|apply PSub.drop),rfl,rfl⟩
  | ok a v =>
   rw [hp] at hQ
   dsimp only at hQ
   rintro _ _ ⟨va,vc,rfl,rfl⟩
   have hvo:VO v:=⟨_,_,Za6 hp⟩
   have hf:=hvo.fo
   have hg:=Z3M hp
   have ha:=IsAt.of_fo hf
   have hlt:=ha.lt
   have hvl:=hg.len
   have e0:Z2 v=v.getD 0 default:=by
    rw [←Z4 hlt]
    have:=Zj hf
    rw [←ZA,this]
   have hkl:=(Zu hf).2.2.2
   rw [e0] at hkl
   by_cases k6:(v.getD 0 default).kind=6
   ·have k6':(Z2 v).kind=6:=by rw [e0];exact k6
    have kn:=fun i=>Z8j (i:=i) hf
    have hkv:=hvo.kids
    have hol:(offs 1 (kidsOf v 0)).length=(kidsOf v 0).length:=Z0g ..
    have s2:=Z7W (dg:=Z03 t) (v:=v) k6'
    have s3:=Z4D (dg:=Z03 t) (v:=v) k6'
    have s4:=Z7X (dg:=Z03 t) (v:=v)
    rw [hQ] at s2 s3 s4
    by_cases l1:(v.getD 0 default).kids < 2
    ·rw [s4 (by omega) (by omega)]
     repeat' (first|refine Sg.Y3 ?_|(apply T.gcase;apply rfl;apply rfl;all_goals intro _)|fail)
     exact ⟨H,by repeat (first|exact PSub.refl _|apply PSub.drop),rfl,rfl⟩
    ·by_cases l4:3 < (v.getD 0 default).kids
     ·rw [s4 (by omega) (by omega)]
      repeat' (first|refine Sg.Y3 ?_|(apply S.condQ;apply rfl;all_goals intro _)|(apply T.gcase;apply rfl;apply rfl;all_goals intro _)|fail)
      exact ⟨H,by repeat (first|exact PSub.refl _|apply PSub.drop),rfl,rfl⟩
     ·refine Sr.capR (ad:=va) inferInstance (fun hcap=>?_)
      repeat' (first|refine Sg.Y3 ?_|(apply S.condQ;apply rfl;all_goals intro _)|(apply T.gcase;apply rfl;apply rfl;all_goals intro _)|fail)
      refine T.call rfl rfl (Z02 (v:=v) rfl hvl ha) ?_
      rintro _ _ ⟨ka,kc,rfl,rfl⟩
      rw [Nat.zero_add]
      repeat' (first|refine Sg.Y1 ?_|fail)
      refine T.call rfl rfl (Z4k hT (by omega)) ?_
      rintro _ _ ⟨rfl,hH⟩
      have hH2:=hH.symm
      subst hH2
      have kat:=fun i hi=>Z2i (v:=v) (q:=0) (i:=i) ha hi
      have kva:=fun i hi=>Z0A (v:=v) (q:=0) (i:=i) ha hi
      rw [Nat.zero_add] at kat kva
      have hno:=fun y hy=>hvo.noname (y:=y) k6' hy
      have hbv:=(Z6j hp).2.1
      have hkb:=hbv.kids hf
      generalize hks:kidsOf v 0=ks at *
      obtain ⟨q,hq⟩:∃ q,q=offs 1 ks:=⟨_,rfl⟩
      rw [←hq] at kn kat kva hol ⊢
      have hq0:q.length=ks.length:=hol
      by_cases l2:ks.length=2
      ·have s2:=s2 l2
       obtain ⟨kn1,kn2⟩:=kn 0 (by omega)
       rw [Z4 kn1] at kn2
       rw [←kn2] at s2
       have kn3:=(kn 1 (by omega)).1
       have hat:=kat 1 (by omega)
       have hva:=kva 1 (by omega)
       have hx1:=hkv ks[1] (List.getElem_mem (by omega))
       have hxn:=Z4S hx1.fo (hno ks[1] (List.getElem_mem (by omega)))
       have hxb:=hkb ks[1] (List.getElem_mem (by omega))
       have hxg:ks.getD 1 []=ks[1]:=by simp [List.getD,show 1 < ks.length by omega]
       rw [hxg] at s2
       rw [l2]
       repeat' (first|(apply T.subI;apply rfl;apply rfl;omega;apply rfl;rw [show ((2:Nat):Int) - 1=((1:Nat):Int) from rfl])|(apply T.alloc;apply rfl;intro nb)|refine Sg.Y1 ?_|fail)
       refine T.call rfl rfl (Z6i (v:=v) (p:=q.getD 1 0) rfl hvl hat hcap) ?_
       rintro _ _ ⟨pa,pc,rfl,rfl⟩
       rw [hva,hxn]
       by_cases c5:(v.getD (q.getD 0 0) default).kind=5
       ·rw [if_pos c5] at s2
        rw [s2]
        repeat' (first|refine Sg.Y3 ?_|(apply S.condQ;apply rfl;all_goals intro _)|fail)
        exact ⟨noR pa pc ks[1]::H,PSub.take Z0 (by repeat (first|exact PSub.refl _|apply PSub.drop)),pa,pc,noR pa pc ks[1],rfl,fun _ _ _=>Rd.row,hx1,hxb,rfl⟩
       ·rw [if_neg c5] at s2
        rw [s2]
        repeat' (first|refine Sg.Y3 ?_|(apply S.condQ;apply rfl;all_goals intro _)|fail)
        exact ⟨H,by repeat (first|exact PSub.refl _|apply PSub.drop),rfl,rfl⟩
      ·have l3:ks.length=3:=by omega
       have s3:=s3 l3
       obtain ⟨kn1,kn2⟩:=kn 0 (by omega)
       rw [Z4 kn1] at kn2
       rw [←kn2] at s3
       obtain ⟨kn4,kn5⟩:=kn 1 (by omega)
       rw [Z4 kn4] at kn5
       rw [←kn5] at s3
       have kn3:=(kn 2 (by omega)).1
       have hat:=kat 2 (by omega)
       have hva:=kva 2 (by omega)
       have hx1:=hkv ks[2] (List.getElem_mem (by omega))
       have hxn:=Z4S hx1.fo (hno ks[2] (List.getElem_mem (by omega)))
       have hxb:=hkb ks[2] (List.getElem_mem (by omega))
       have hxg:ks.getD 2 []=ks[2]:=by simp [List.getD,show 2 < ks.length by omega]
       rw [hxg] at s3
       rw [l3]
       repeat' (first|(apply T.subI;apply rfl;apply rfl;omega;apply rfl;rw [show ((3:Nat):Int) - 1=((2:Nat):Int) from rfl])|(apply T.alloc;apply rfl;intro nb)|refine Sg.Y1 ?_|fail)
       refine T.call rfl rfl (Z6i (v:=v) (p:=q.getD 2 0) rfl hvl hat hcap) ?_
       rintro _ _ ⟨pa,pc,rfl,rfl⟩
       rw [hva,hxn]
       by_cases c5:(v.getD (q.getD 0 0) default).kind=5
       ·by_cases c6:(v.getD (q.getD 1 0) default).kind=5
        ·by_cases c7:(v.getD (q.getD 1 0) default).text=[95,115,100]
         ·rw [if_neg (fun h=>h.2.2.1 c7)] at s3
          rw [s3]
          repeat' (first|(apply T.alloc;apply rfl;intro nb)|refine Sg.Y3 ?_|(apply S.condQ;apply rfl;all_goals intro _)|(apply T.gcase;apply rfl;apply rfl;all_goals intro _)|fail)
          exact ⟨H,by repeat (first|exact PSub.refl _|apply PSub.drop),rfl,rfl⟩
         ·by_cases c8:(v.getD (q.getD 1 0) default).text=[46,46,46]
          ·rw [if_neg (fun h=>h.2.2.2 c8)] at s3
           rw [s3]
           repeat' (first|(apply T.alloc;apply rfl;intro nb)|refine Sg.Y3 ?_|(apply S.condQ;apply rfl;all_goals intro _)|(apply T.gcase;apply rfl;apply rfl;all_goals intro _)|fail)
           exact ⟨H,by repeat (first|exact PSub.refl _|apply PSub.drop),rfl,rfl⟩
          ·rw [if_pos ⟨c5,c6,c7,c8⟩] at s3
           rw [s3]
           repeat' (first|(apply T.alloc;apply rfl;intro nb)|refine Sg.Y3 ?_|(apply S.condQ;apply rfl;all_goals intro _)|(apply T.gcase;apply rfl;apply rfl;all_goals intro _)|fail)
           exact ⟨noR pa pc ks[2]::H,PSub.drop (PSub.take Z0 (by repeat (first|exact PSub.refl _|apply PSub.drop))),pa,pc,noR pa pc ks[2],rfl,fun _ _ _=>Rd.row,hx1,hxb,rfl⟩
        ·rw [if_neg (fun h=>c6 h.2.1)] at s3
         rw [s3]
         repeat' (first|(apply T.alloc;apply rfl;intro nb)|refine Sg.Y3 ?_|(apply S.condQ;apply rfl;all_goals intro _)|(apply T.gcase;apply rfl;apply rfl;all_goals intro _)|fail)
         exact ⟨H,by repeat (first|exact PSub.refl _|apply PSub.drop),rfl,rfl⟩
       ·rw [if_neg (fun h=>c5 h.1)] at s3
        rw [s3]
        repeat' (first|refine Sg.Y3 ?_|(apply S.condQ;apply rfl;all_goals intro _)|fail)
        exact ⟨H,by repeat (first|exact PSub.refl _|apply PSub.drop),rfl,rfl⟩
   ·rw [Z62 (by rw [e0];exact k6)] at hQ
    subst hQ
    repeat' (first|refine Sg.Y3 ?_|(apply T.gcase;apply rfl;apply rfl;all_goals intro _)|fail)
    exact ⟨H,by repeat (first|exact PSub.refl _|apply PSub.drop),rfl,rfl⟩
 ·rw [if_neg h0] at hQ
  have hQ':Q=none:=hQ.symm
  subst hQ'
  repeat' (first|refine Sg.Y3 ?_|(apply S.condQ;apply rfl;all_goals intro _)|fail)
  exact ⟨H,by repeat (first|exact PSub.refl _|apply PSub.drop),rfl,rfl⟩
end
end Go.Proofs.YtjajcmedipjfhaaGreatDoor
/- The walks of the document's looks at nodes: is a text well formed, may a node stand there. -/
namespace Sg
open Go
theorem Z9x {t:List UInt8} {p:Nat} (hp:p < t.length) (h:128≤(t.getD p 0).toNat):match Z0G t p (t.getD p 0) with
  | .ok a _=>Lib.validD (t.drop p)=Lib.validD (t.drop a)∧p+2≤a∧a≤t.length
  | .bad e _=>Lib.validD (t.drop p)=false∧e≠0:=by
 have hc:t[p]?=some (t.getD p 0):=by simp [List.getD,hp]
 have h1:=Z5o hc h
 have hne:t.drop p≠[]:=fun e=>by
  have:=congrArg List.length e
  rw [List.length_drop,List.length_nil] at this
  omega
 have h2:=Lib.validD_step (t.drop p) hne
 have h3:=Lib.decodeL_N (t.drop p)
 rw [List.length_drop,Lib.getD_dropU,Lib.getD_dropU,Lib.getD_dropU,Lib.getD_dropU,Nat.add_zero] at h3
 cases hs:Z0G t p (t.getD p 0) with
 | ok a u =>
  rw [hs] at h1
  obtain ⟨h4,h5,h6⟩:=h1
  rw [←show Lib.decodeL (t.drop p)=Lib.decodeN (t.length - p) (t.getD p 0).toNat (bAt t (p+1)) (bAt t (p+2)) (bAt t (p+3)) from h3] at h4
  simp only
  rw [h2,if_neg (fun h=>by omega),h4,List.drop_drop,show p+(a - p)=a by omega]
  exact ⟨rfl,h5,h6⟩
 | bad e q =>
  rw [hs] at h1
  obtain ⟨h4,h5⟩:=h1
  rw [←show Lib.decodeL (t.drop p)=Lib.decodeN (t.length - p) (t.getD p 0).toNat (bAt t (p+1)) (bAt t (p+2)) (bAt t (p+3)) from h3] at h4
  simp only
  rw [h2,h4,if_pos ⟨rfl,rfl⟩]
  exact ⟨rfl,by omega⟩
theorem Z9y {t:List UInt8} {p:Nat} (hp:p < t.length) (h:(t.getD p 0).toNat < 128):Lib.validD (t.drop p)=Lib.validD (t.drop (p+1)):=by
 rw [List.drop_eq_getElem_cons hp]
 exact Lib.validD_cons _ _ (by simpa [List.getD,hp] using h)
end Sg
namespace Go.Proofs.YtjajcmedipjfhaaGreatDoor
open Sg Go.IntWalk
set_option maxRecDepth 100000
set_option maxHeartbeats 4000000
section
variable {F:World} {M:List Nat} {H:List Res} {t:List UInt8}
theorem Zz (hl:t.length≤1000000000):Meets Tryz.prog 85 [sV t] F M H (fun e H'=>e=.returned (.bool (Lib.validD t))∧H'=H):=by
 refine Meets.enter Tryz.func85 rfl rfl ?_
 generalize hQ:Lib.validD t=Q
 repeat' (first|refine Sg.Y1 ?_|fail)
 refine S.loopE 0 [0] (fun R b' μ H' e=>∃ p:Nat,H'=R∧e=(3,.int .i64 p)::b'∧(p≤t.length∧Lib.validD (t.drop p)=Q)∧μ=t.length - p) rfl rfl ?_ _ _ ⟨0,rfl,rfl,⟨Nat.zero_le _,hQ⟩,rfl⟩ (by repeat' first|exact trivial|refine And.intro rfl ?_)
 rintro _ _ _ ⟨p,hR1,rfl,⟨h1,h2⟩,rfl⟩ ih
 subst hR1
 by_cases h3:p < t.length
 ·by_cases h4:(t.getD p 0).toNat < 128
  ·have h5:=Z9y h3 h4
   repeat' (first|refine Sg.Y3 ?_|(apply S.condQ;apply rfl;all_goals intro _)|fail)
   exact ih _ _ _ _ ⟨p+1,rfl,rfl,⟨h3,by rw [←h5,h2]⟩,rfl⟩ (by omega) (by repeat' first|exact trivial|refine And.intro rfl ?_)
  ·have h5:=Z9x h3 (by omega)
   repeat' (first|refine Sg.Y3 ?_|(apply S.condQ;apply rfl;all_goals intro _)|fail)
   refine T.call rfl rfl (Z1y h3 hl) ?_
   cases hs:Z0G t p (t.getD p 0) with
   | ok a u =>
    rw [hs] at h5
    obtain ⟨h6,h7,h8⟩:=h5
    rintro _ _ ⟨rfl,rfl⟩
    repeat' (first|(apply T.alloc;apply rfl;intro nb)|refine Sg.Y1 ?_|fail)
    refine S.sublist ?_ (PSub.drop (PSub.refl _))
    exact ih _ _ _ _ ⟨a,rfl,rfl,⟨h8,by rw [←h6,h2]⟩,rfl⟩ (by omega) (by repeat' first|exact trivial|refine And.intro rfl ?_)
   | bad e q =>
    rw [hs] at h5
    obtain ⟨h6,h7⟩:=h5
    have h8:Q=false:=by rw [←h2,h6]
    subst h8
    rintro _ _ ⟨rfl,rfl⟩
    repeat' (first|(apply T.alloc;apply rfl;intro nb)|refine Sg.Y3 ?_|(apply S.condQ;apply rfl;all_goals intro _)|fail)
    exact ⟨_,PSub.drop (PSub.refl _),rfl,rfl⟩
 ·obtain rfl:p=t.length:=by omega
  have h8:Q=true:=by rw [←h2,List.drop_length];rfl
  subst h8
  repeat' (first|refine Sg.Y3 ?_|(apply S.condQ;apply rfl;all_goals intro _)|fail)
  exact ⟨_,PSub.refl _,rfl,rfl⟩
theorem Z2A (hl:t.length≤2200000):Meets Tryz.prog 113 [sV t] F M H (fun e H'=>e=.returned (.bool (numP t).isSome)∧H'=H):=by
 refine Meets.enter Tryz.func113 rfl rfl ?_
 repeat' (first|refine Sg.Y1 ?_|fail)
 refine T.call rfl rfl (Z33 hl) ?_
 rintro _ _ ⟨mi,pl,dn,w,da,ea,dm,dc,em,ec,off,rfl,hH,hx⟩
 have hH2:=hH.symm
 subst hH2
 repeat' (first|(apply T.alloc;apply rfl;intro nb)|refine Sg.Y1 ?_|fail)
 exact ⟨_,PSub.drop (PSub.refl _),rfl,rfl⟩
theorem Zw {n:Nd} (hl:n.text.length≤2200000):Meets Tryz.prog 84 [.agg ⟨ndV n⟩] F M H (fun e H'=>e=.returned (.bool (Zk Lib.validD n))∧H'=H):=by
 refine Meets.enter Tryz.func84 rfl rfl ?_
 unfold Zk
 by_cases h1:n.kind < 1∨7 < n.kind∨n.kids < 0∨(0 < n.kids∧n.kind≠6∧n.kind≠7)
 ·rw [if_pos h1]
  by_cases a1:n.kind < 1
  ·repeat' (first|(apply T.box;apply rfl;apply rfl;intro nb)|refine Sg.Y3 ?_|(apply T.gcase;apply rfl;apply rfl;all_goals intro _)|fail)
   exact ⟨_,PSub.drop (PSub.refl _),rfl,rfl⟩
  by_cases a2:7 < n.kind
  ·repeat' (first|(apply T.box;apply rfl;apply rfl;intro nb)|refine Sg.Y3 ?_|(apply T.gcase;apply rfl;apply rfl;all_goals intro _)|fail)
   exact ⟨_,PSub.drop (PSub.refl _),rfl,rfl⟩
  by_cases a3:n.kids < 0
  ·repeat' (first|(apply T.box;apply rfl;apply rfl;intro nb)|refine Sg.Y3 ?_|(apply T.gcase;apply rfl;apply rfl;all_goals intro _)|fail)
   exact ⟨_,PSub.drop (PSub.refl _),rfl,rfl⟩
  have a4:0 < n.kids:=by omega
  have a5:n.kind < 6:=by omega
  repeat' (first|(apply T.box;apply rfl;apply rfl;intro nb)|refine Sg.Y3 ?_|(apply S.condQ;apply rfl;all_goals intro _)|(apply T.gcase;apply rfl;apply rfl;all_goals intro _)|fail)
  exact ⟨_,PSub.drop (PSub.refl _),rfl,rfl⟩
 rw [if_neg h1]
 have b1:¬n.kind < 1:=fun h=>h1 (.inl h)
 have b2:¬7 < n.kind:=fun h=>h1 (.inr (.inl h))
 have b3:¬n.kids < 0:=fun h=>h1 (.inr (.inr (.inl h)))
 have b4:¬0 < n.kids∨¬n.kind < 6:=by omega
 have key:∀ {x:Bool},x=(if n.kind=4 then (numP n.text).isSome&&(n.whole==(Z6 n.text).2)&&decide (n.int=(Z6 n.text).1) else if n.whole=true∨n.int≠0 then false else if n.kind=5 then Lib.validD n.text else decide (n.text=[]))→x=(if n.kind=4 then (numP n.text).isSome&&(n.whole==(Z6 n.text).2)&&decide (n.int=(Z6 n.text).1) else if n.whole=true∨n.int≠0 then false else if n.kind=5 then Lib.validD n.text else decide (n.text=[])):=fun h=>h
 generalize hQ:(if n.kind=4 then (numP n.text).isSome&&(n.whole==(Z6 n.text).2)&&decide (n.int=(Z6 n.text).1) else if n.whole=true∨n.int≠0 then false else if n.kind=5 then Lib.validD n.text else decide (n.text=[]))=Q at *
 clear key
 by_cases c0:0 < n.kids
 ·have c6:¬n.kind < 6:=by omega
  have c4:¬n.kind=4:=by omega
  have c5:¬n.kind=5:=by omega
  rw [if_neg c4,if_neg c5] at hQ
  repeat' (first|(apply T.box;apply rfl;apply rfl;intro nb)|refine Sg.Y3 ?_|(apply S.condQ;apply rfl;all_goals intro _)|(apply T.gcase;apply rfl;apply rfl;all_goals intro _)|fail)
  refine T.call rfl rfl (Z1m hl) ?_
  rintro _ _ ⟨rfl,rfl⟩
  repeat' (first|refine Sg.Y1 ?_|fail)
  refine T.call rfl rfl (Z2A hl) ?_
  rintro _ _ ⟨rfl,rfl⟩
  repeat' (first|refine Sg.Y1 ?_|fail)
  refine T.call rfl rfl (Zz (by omega)) ?_
  rintro _ _ ⟨rfl,rfl⟩
  by_cases w1:n.whole=true
  ·rw [if_pos (.inl w1)] at hQ
   subst hQ
   repeat' (first|refine Sg.Y3 ?_|(apply S.condQ;apply rfl;all_goals intro _)|fail)
   rw [w1]
   repeat' (first|refine Sg.Y1 ?_|fail)
   exact ⟨_,PSub.drop (PSub.refl _),rfl,rfl⟩
  have w1':n.whole=false:=by simpa using w1
  by_cases w2:n.int=0
  ·rw [if_neg (by simp [w1',w2])] at hQ
   repeat' (first|refine Sg.Y3 ?_|(apply S.condQ;apply rfl;all_goals intro _)|fail)
   rw [w1']
   repeat' (first|refine Sg.Y3 ?_|(apply S.condQ;apply rfl;all_goals intro _)|fail)
   exact ⟨_,PSub.drop (PSub.refl _),by rw [←hQ],rfl⟩
  ·rw [if_pos (.inr w2)] at hQ
   subst hQ
   repeat' (first|refine Sg.Y3 ?_|(apply S.condQ;apply rfl;all_goals intro _)|fail)
   rw [w1']
   repeat' (first|refine Sg.Y3 ?_|(apply S.condQ;apply rfl;all_goals intro _)|fail)
   exact ⟨_,PSub.drop (PSub.refl _),rfl,rfl⟩
 ·repeat' (first|(apply T.box;apply rfl;apply rfl;intro nb)|refine Sg.Y3 ?_|(apply T.gcase;apply rfl;apply rfl;all_goals intro _)|fail)
  refine T.call rfl rfl (Z1m hl) ?_
  rintro _ _ ⟨rfl,rfl⟩
  repeat' (first|refine Sg.Y1 ?_|fail)
  refine T.call rfl rfl (Z2A hl) ?_
  rintro _ _ ⟨rfl,rfl⟩
  repeat' (first|refine Sg.Y1 ?_|fail)
  refine T.call rfl rfl (Zz (by omega)) ?_
  rintro _ _ ⟨rfl,rfl⟩
  by_cases c4:n.kind=4
  ·rw [if_pos c4] at hQ
   cases d1:(numP n.text).isSome with
   | false =>
    rw [d1] at hQ
    subst hQ
    repeat' (first|refine Sg.Y3 ?_|(apply S.condQ;apply rfl;all_goals intro _)|fail)
    exact ⟨_,PSub.drop (PSub.refl _),rfl,rfl⟩
   | true =>
    rw [d1] at hQ
    repeat' (first|refine Sg.Y3 ?_|(apply S.condQ;apply rfl;all_goals intro _)|fail)
    cases w1:n.whole<;>cases w2:(Z6 n.text).2
    all_goals
     rw [w1,w2] at hQ
     by_cases w3:n.int=(Z6 n.text).1
     ·repeat' (first|(apply T.eqlB;(iterate 3 apply rfl);first|rw [show (true==true)=true from rfl]|rw [show (false==false)=true from rfl]|rw [show (true==false)=false from rfl]|rw [show (false==true)=false from rfl])|refine Sg.Y2 ?_|fail)
      all_goals
       refine ⟨_,PSub.drop (PSub.refl _),?_,rfl⟩
       rw [←hQ]
       first|(simp [w3];done)|simp
     ·have w4:¬(Z6 n.text).1=n.int:=fun h=>w3 h.symm
      repeat' (first|(apply T.eqlB;(iterate 3 apply rfl);first|rw [show (true==true)=true from rfl]|rw [show (false==false)=true from rfl]|rw [show (true==false)=false from rfl]|rw [show (false==true)=false from rfl])|refine Sg.Y2 ?_|fail)
      all_goals
       refine ⟨_,PSub.drop (PSub.refl _),?_,rfl⟩
       rw [←hQ]
       first|(simp [w3,w4];done)|simp
  ·rw [if_neg c4] at hQ
   by_cases w1:n.whole=true
   ·rw [if_pos (.inl w1)] at hQ
    subst hQ
    repeat' (first|refine Sg.Y3 ?_|(apply S.condQ;apply rfl;all_goals intro _)|fail)
    rw [w1]
    repeat' (first|refine Sg.Y1 ?_|fail)
    exact ⟨_,PSub.drop (PSub.refl _),rfl,rfl⟩
   have w1':n.whole=false:=by simpa using w1
   by_cases w2:n.int=0
   ·rw [if_neg (by simp [w1',w2])] at hQ
    by_cases c5:n.kind=5
    ·rw [if_pos c5] at hQ
     repeat' (first|refine Sg.Y3 ?_|(apply S.condQ;apply rfl;all_goals intro _)|fail)
     rw [w1']
     repeat' (first|refine Sg.Y3 ?_|(apply S.condQ;apply rfl;all_goals intro _)|fail)
     exact ⟨_,PSub.drop (PSub.refl _),by rw [←hQ],rfl⟩
    ·rw [if_neg c5] at hQ
     repeat' (first|refine Sg.Y3 ?_|(apply S.condQ;apply rfl;all_goals intro _)|fail)
     rw [w1']
     repeat' (first|refine Sg.Y3 ?_|(apply S.condQ;apply rfl;all_goals intro _)|fail)
     exact ⟨_,PSub.drop (PSub.refl _),by rw [←hQ],rfl⟩
   ·rw [if_pos (.inr w2)] at hQ
    subst hQ
    repeat' (first|refine Sg.Y3 ?_|(apply S.condQ;apply rfl;all_goals intro _)|fail)
    rw [w1']
    repeat' (first|refine Sg.Y3 ?_|(apply S.condQ;apply rfl;all_goals intro _)|fail)
    exact ⟨_,PSub.drop (PSub.refl _),rfl,rfl⟩
end
end Go.Proofs.YtjajcmedipjfhaaGreatDoor
