/- Texts put together by a program: JsnF DecA DecB DecC JsnG. -/
import Derived.Test.YtophlopiigpbgaaGreatDoorMd
import Derived.Test.YtophlopiigpbgaaGreatDoorMc
import Derived.Test.YtophlopiigpbgaaGreatDoorMb
set_option linter.unusedVariables false
set_option linter.unusedSimpArgs false
/- The walks of the program's reader of JSON: strings. -/
namespace Go.Proofs.YtophlopiigpbgaaGreatDoor
open Sg Go.IntWalk
set_option maxRecDepth 100000
set_option maxHeartbeats 4000000
section
variable {F:World} {M:List Nat} {H:List Res} {p:Nat} {t:List UInt8} {o n m:Value} {a s:Nat} {k:List UInt8} {c b:Int}
def JrS (p:Nat) (t:List UInt8) (o n m:Value) (s:Nat) (k:List UInt8) (c b:Int) (H:List Res):Gt (List UInt8)→Ending→List Res→Prop
 | .ok a' x=>fun e H'=>e=.returned (.tuple ⟨[sV x,.bool true]⟩)∧H'=.blk p (jrV t o n m a' s k c b) 86::H
 | .bad c' b'=>fun e H'=>∃ a':Nat,e=.returned (.tuple ⟨[sV [],.bool false]⟩)∧H'=.blk p (jrV t o n m a' s k c' b') 86::H
theorem Z63 {f q:Nat} {acc:List UInt8} {ch:UInt8} (hc:t[q]?=some ch):ZD t (f+1) q acc=if ch.toNat < 32 then .bad 31 q else if ch.toNat=34 then .ok (q+1) acc else if ch.toNat=92 then (escX t q).bind fun a u=>ZD t f a (acc++utfL u) else
  if ch.toNat < 128 then ZD t f (q+1) (acc++[ch]) else (Z2D t q ch).bind fun a _=>ZD t f a (acc++(t.drop q).take (a - q)):=by
 have e1:(ch < 32)=(ch.toNat < 32):=rfl
 have e2:(ch=34)=(ch.toNat=34):=propext UInt8.toNat_inj.symm
 have e3:(ch=92)=(ch.toNat=92):=propext UInt8.toNat_inj.symm
 have e4:(ch < 128)=(ch.toNat < 128):=rfl
 rw [ZD,hc]
 simp only
 by_cases h1:ch.toNat < 32
 ·rw [if_pos h1,if_pos (e1 ▸ h1)]
 rw [if_neg h1,if_neg (by rw [e1];exact h1)]
 by_cases h2:ch.toNat=34
 ·rw [if_pos h2,if_pos (by rw [e2];exact h2)]
 rw [if_neg h2,if_neg (by rw [e2];exact h2)]
 by_cases h3:ch.toNat=92
 ·rw [if_pos h3,if_pos (by rw [e3];exact h3)]
 rw [if_neg h3,if_neg (by rw [e3];exact h3)]
 by_cases h4:ch.toNat < 128
 ·rw [if_pos h4,if_pos (by rw [e4];exact h4)]
 rw [if_neg h4,if_neg (by rw [e4];exact h4)]
theorem Z7A (u:Nat):1≤(utfL u).length∧(utfL u).length≤4:=by
 unfold utfL
 repeat' split
 all_goals simp
theorem Z3P (hT:Tabs F M) (ha:a < t.length) (hl:t.length≤262144):Meets Tryz.prog 97 [.pointer (some ⟨p,0,none⟩)] F M (.blk p (jrV t o n m a s k c b) 86::H) (JrS p t o n m s k c b H (ZL t (a+1))):=by
 refine Meets.enter Tryz.func97 rfl rfl ?_
 refine S.nilrow 5 1 ?_
 refine S.front p ?_
 repeat' (first|refine Sg.Y1 ?_|fail)
 refine S.loopE 2 [0] (fun R b' μ H' e=>∃ (q f:Nat) (acc:List UInt8) (ad:Option Addr) (cp nn:Nat),H'=.blk p (jrV t o n m q s k c b) 86::.row ad cp 5 1 nn (acc.map bV)::R∧e=(4,.slice ad nn cp)::b'∧(q≤t.length∧t.length < q+f∧acc.length=nn∧nn≤4*q∧ZL t (a+1)=ZD t f q acc)∧μ=t.length - q) rfl rfl ?_ _ _ ⟨a+1,t.length+1 - (a+1),[],none,0,0,rfl,rfl,⟨by omega,by omega,rfl,by omega,rfl⟩,rfl⟩ (by repeat' first|exact trivial|refine And.intro rfl ?_)
 rintro _ _ _ ⟨q,f,acc,ad,cp,nn,rfl,rfl,⟨h1,h2,h3,h4,h5⟩,rfl⟩ ih
 subst h3
 obtain ⟨f,rfl⟩:∃ g,f=g+1:=⟨f - 1,by omega⟩
 rcases Nat.lt_or_ge q t.length with h6|h6
 ·have hq:t[q]?=some (t.getD q 0):=by simp [List.getD,h6]
  have hu:=(t.getD q 0).toNat_lt
  rw [Z63 hq] at h5
  by_cases c1:(t.getD q 0).toNat < 32
  ·rw [if_pos c1] at h5
   rw [h5]
   repeat' (first|refine Sg.Y3 ?_|(apply S.condQ;apply rfl;all_goals intro _)|fail)
   refine T.call rfl rfl ZK ?_
   rintro _ _ ⟨rfl,rfl⟩
   repeat' (first|refine Sg.Y2 ?_|fail)
   exact ⟨_,by ((repeat (first|dsimp only [List.set_cons_zero]|dsimp only [List.set_cons_succ]));repeat' first|exact PSub.refl _|exact PSub.nil|(with_reducible apply PSub.app)|(apply PSub.take;(repeat' first|(with_reducible exact Z0)|(with_reducible apply Z1)))|(with_reducible apply PSub.drop)|((apply PSub.take);(repeat' first|exact Z0|(apply Z1)))),q,rfl,rfl⟩
  rw [if_neg c1] at h5
  by_cases c2:(t.getD q 0).toNat=34
  ·rw [if_pos c2] at h5
   rw [h5]
   repeat' (first|refine Sg.Y3 ?_|(apply S.condQ;apply rfl;all_goals intro _)|fail)
   exact ⟨_,PSub.take Z0 (PSub.drop (PSub.refl _)),rfl,rfl⟩
  rw [if_neg c2] at h5
  by_cases c3:(t.getD q 0).toNat=92
  ·rw [if_pos c3] at h5
   repeat' (first|refine Sg.Y3 ?_|(apply S.condQ;apply rfl;all_goals intro _)|fail)
   refine T.call rfl rfl (Z7g h6 (by omega)) ?_
   have hfit:=Z1V (t:=t) (fr:=q)
   have hrune:=fun a u=>Z6x (t:=t) (fr:=q) (a:=a) (u:=u)
   cases hx:escX t q with
   | bad e1 q1 =>
    rw [hx] at h5
    rw [h5]
    rintro _ _ ⟨a1,z,hz,rfl,rfl⟩
    repeat' (first|refine Sg.Y1 ?_|fail)
    exact ⟨_,by ((repeat (first|dsimp only [List.set_cons_zero]|dsimp only [List.set_cons_succ]));repeat' first|exact PSub.refl _|exact PSub.nil|(with_reducible apply PSub.app)|(apply PSub.take;(repeat' first|(with_reducible exact Z0)|(with_reducible apply Z1)))|(with_reducible apply PSub.drop)|((apply PSub.take);(repeat' first|exact Z0|(apply Z1)))),a1,rfl,rfl⟩
   | ok a1 u =>
    rw [hx] at h5
    obtain ⟨r1,r2⟩:=hrune a1 u hx
    obtain ⟨r3,r4⟩:=hfit a1 u hx
    rintro _ _ ⟨rfl,rfl⟩
    repeat' (first|refine Sg.Y1 ?_|fail)
    refine Sr.frontR ad ?_
    refine T.call rfl rfl (Z4x (by omega) r1 r2) ?_
    rintro _ _ ⟨ad',cp',mm,rfl,rfl,rfl⟩
    repeat' (first|refine Sg.Y2 ?_|fail)
    refine S.front p ?_
    have hle:=Z7A u
    exact ih _ _ _ _ ⟨a1,f,acc++utfL u,ad',cp',_,rfl,rfl,⟨r4,by omega,by rw [List.length_append],by omega,h5⟩,rfl⟩ (by omega) (by repeat' first|exact trivial|refine And.intro rfl ?_)
  rw [if_neg c3] at h5
  by_cases c4:(t.getD q 0).toNat < 128
  ·rw [if_pos c4] at h5
   repeat' (first|(apply T.bs;(iterate 6 apply rfl);intro nb)|(apply T.appendB;apply rfl;apply rfl;infer_instance;apply rfl;(constructor<;>omega);apply rfl;intro na nc)|refine Sg.Y3 ?_|(apply S.condQ;apply rfl;all_goals intro _)|fail)
   exact ih _ _ _ _ ⟨q+1,f,acc++[t.getD q 0],na,nc,_,rfl,rfl,⟨by omega,by omega,by simp,by omega,h5⟩,rfl⟩ (by omega) (by repeat' first|exact trivial|refine And.intro rfl ?_)
  rw [if_neg c4] at h5
  repeat' (first|refine Sg.Y3 ?_|(apply S.condQ;apply rfl;all_goals intro _)|fail)
  refine T.call rfl rfl (Z5h hT hq (by omega) (by omega)) ?_
  have hfit:=Z0E (t:=t) (p:=q) (c:=t.getD q 0) h6
  cases hx:Z2D t q (t.getD q 0) with
  | bad e1 q1 =>
   rw [hx] at h5
   rw [h5]
   rintro _ _ ⟨rfl,rfl⟩
   repeat' (first|refine Sg.Y1 ?_|fail)
   exact ⟨_,by ((repeat (first|dsimp only [List.set_cons_zero]|dsimp only [List.set_cons_succ]));repeat' first|exact PSub.refl _|exact PSub.nil|(with_reducible apply PSub.app)|(apply PSub.take;(repeat' first|(with_reducible exact Z0)|(with_reducible apply Z1)))|(with_reducible apply PSub.drop)|((apply PSub.take);(repeat' first|exact Z0|(apply Z1)))),q,rfl,rfl⟩
  | ok a1 u =>
   rw [hx] at h5
   obtain ⟨r3,r4⟩:=hfit a1 u hx
   rintro _ _ ⟨rfl,rfl⟩
   have e1:(q:Int)+((a1 - q:Nat):Int)=((a1:Nat):Int):=by omega
   have hl2:((t.drop q).take (a1 - q)).length=a1 - q:=by rw [List.length_take,List.length_drop];omega
   repeat' (first|refine Sg.Y1 ?_|fail)
   (apply S.draw;(case Hs=>exact .blk p (jrV t o n m q s k c b) 86::H);(case es=>exact  [16]);(case n=>exact  18);(case hn=>rfl))
   repeat' (first|(apply T.addI;apply rfl;apply rfl;omega;apply rfl;rw [e1])|(apply T.appendS;apply rfl;apply rfl;infer_instance;omega;apply rfl;intro na nc)|(apply SA.qn;(iterate 4 apply rfl);kernel_rfl)|(apply SA.done;apply rfl;kernel_rfl)|(apply SK.intro;(first|exact fun _ h=>h|exact fun _ h=>St.psub h (by ((repeat (first|dsimp only [List.set_cons_zero]|dsimp only [List.set_cons_succ]));repeat' first|exact PSub.refl _|exact PSub.nil|(apply PSub.take;(repeat' first|(with_reducible exact Z0)|(with_reducible apply Z1)))|(with_reducible apply PSub.drop)|((apply PSub.take);(repeat' first|exact Z0|(apply Z1)))))))|refine Sg.Y2 ?_|fail)
   exact ih _ _ _ _ ⟨a1,f,acc++(t.drop q).take (a1 - q),na,nc,_,rfl,rfl,⟨r4,by omega,by rw [List.length_append],by omega,h5⟩,rfl⟩ (by omega) (by repeat' first|exact trivial|refine And.intro rfl ?_)
 ·obtain rfl:q=t.length:=by omega
  have h7:ZD t (f+1) t.length acc=.bad 31 t.length:=by rw [ZD,List.getElem?_eq_none (Nat.le_refl _)]
  rw [h5,h7]
  repeat' (first|refine Sg.Y3 ?_|(apply S.condQ;apply rfl;all_goals intro _)|fail)
  refine T.call rfl rfl ZK ?_
  rintro _ _ ⟨rfl,rfl⟩
  repeat' (first|refine Sg.Y2 ?_|fail)
  exact ⟨_,by ((repeat (first|dsimp only [List.set_cons_zero]|dsimp only [List.set_cons_succ]));repeat' first|exact PSub.refl _|exact PSub.nil|(with_reducible apply PSub.app)|(apply PSub.take;(repeat' first|(with_reducible exact Z0)|(with_reducible apply Z1)))|(with_reducible apply PSub.drop)|((apply PSub.take);(repeat' first|exact Z0|(apply Z1)))),_,rfl,rfl⟩
end
end Go.Proofs.YtophlopiigpbgaaGreatDoor
/- The walks of the program's numbers: their parts, whole ones. -/
namespace Go.Proofs.YtophlopiigpbgaaGreatDoor
open Sg Go.IntWalk
set_option maxRecDepth 100000
set_option maxHeartbeats 2000000
section
variable {F:World} {M:List Nat} {H:List Res}
theorem Z4f {s pr:List UInt8} {c:UInt8} (hp:pr=[c]) (hl:s.length≤1000000000):Meets Tryz.prog 172 [sV s,sV pr] F M H (fun e H'=>e=.returned (.bool (cutP c s).2)∧H'=H):=by
 refine Meets.enter Tryz.func172 rfl rfl ?_
 have h1:pr.length=1:=by rw [hp];rfl
 have e2:s.length≠0→decide (s.take pr.length=pr)=(cutP c s).2:=by
  intro h0
  cases s with
  | nil=>exact absurd rfl h0
  | cons x r =>
   rw [hp]
   unfold cutP
   by_cases h:x=c
   ·simp [h]
   ·simp [h]
 have e3:s.length=0→(cutP c s).2=false:=by
  intro h0
  rw [List.length_eq_zero_iff.1 h0]
  rfl
 by_cases h0:s.length=0
 ·rw [e3 h0]
  repeat' (first|refine Sg.Y3 ?_|(apply T.gcase;apply rfl;apply rfl;all_goals intro _)|fail)
  exact ⟨_,PSub.refl _,rfl,rfl⟩
 ·rw [←e2 h0]
  repeat' (first|(refine T.ssliceH (j:=pr.length) rfl rfl (by omega) rfl ?_)|refine Sg.Y3 ?_|(apply T.gcase;apply rfl;apply rfl;all_goals intro _)|fail)
  all_goals exact ⟨_,PSub.refl _,rfl,rfl⟩
theorem Z1W {s pr:List UInt8} {c:UInt8} (hp:pr=[c]) (hl:s.length≤1000000000):Meets Tryz.prog 130 [sV s,sV pr] F M H (fun e H'=>e=.returned (.tuple ⟨[sV (cutP c s).1,.bool (cutP c s).2]⟩)∧H'=H):=by
 have h1:pr.length=1:=by rw [hp];rfl
 have inner:Meets Tryz.prog 155 [sV s,sV pr] F M H (fun e H'=>e=.returned (.tuple ⟨[sV (cutP c s).1,.bool (cutP c s).2]⟩)∧H'=H):=by
  refine Meets.enter Tryz.func155 rfl rfl ?_
  have c1:=Z4f (F:=F) (M:=M) (H:=H) hp hl
  cases hc:(cutP c s).2 with
  | false =>
   have h2:(cutP c s).1=s:=by
    unfold cutP at hc ⊢
    split at hc
    ·split at hc
     ·cases hc
     ·rename_i h
      rw [if_neg h]
    ·rfl
   rw [hc] at c1
   rw [h2]
   repeat' (first|refine Sg.Y1 ?_|fail)
   refine T.call rfl rfl c1 ?_
   rintro _ _ ⟨rfl,hH⟩
   have hH2:=hH.symm
   subst hH2
   repeat' (first|refine Sg.Y1 ?_|fail)
   exact ⟨_,PSub.refl _,rfl,rfl⟩
  | true =>
   have h2:(cutP c s).1=s.drop pr.length∧pr.length≤s.length:=by
    rw [h1]
    unfold cutP at hc ⊢
    split at hc
    ·split at hc
     ·rename_i h
      rw [if_pos h]
      exact ⟨rfl,by simp⟩
     ·cases hc
    ·cases hc
   rw [hc] at c1
   rw [h2.1]
   have h3:=h2.2
   repeat' (first|refine Sg.Y1 ?_|fail)
   refine T.call rfl rfl c1 ?_
   rintro _ _ ⟨rfl,hH⟩
   have hH2:=hH.symm
   subst hH2
   repeat' (first|(refine T.ssliceL (i:=pr.length) rfl rfl h3 rfl ?_)|refine Sg.Y1 ?_|fail)
   exact ⟨_,PSub.refl _,rfl,rfl⟩
 refine Meets.enter Tryz.func130 rfl rfl ?_
 repeat' (first|refine Sg.Y1 ?_|fail)
 refine T.call rfl rfl inner ?_
 rintro _ _ ⟨rfl,hH⟩
 have hH2:=hH.symm
 subst hH2
 repeat' (first|refine Sg.Y2 ?_|fail)
 exact ⟨_,PSub.refl _,rfl,rfl⟩
theorem Z2U {s:List UInt8} {c:UInt8} (hl:s.length≤1000000000):Meets Tryz.prog 156 [sV s,.int .u8 (c.toNat:Nat)] F M H (fun e H'=>∃ r,e=.returned (sV r)∧H'=H∧r.length≤s.length):=by
 refine Meets.enter Tryz.func156 rfl rfl ?_
 repeat' (first|refine Sg.Y1 ?_|fail)
 refine S.loopE 0 [1] (fun R b' μ H' e=>∃ r:List UInt8,H'=R∧e=(0,sV r)::b'∧r.length≤s.length∧μ=r.length) rfl rfl ?_ _ _ ⟨s,rfl,rfl,Nat.le_refl _,rfl⟩ (by repeat' first|exact trivial|refine And.intro rfl ?_)
 rintro _ _ _ ⟨r,rfl,rfl,h1,rfl⟩ ih
 by_cases h0:r.length=0
 ·repeat' (first|refine Sg.Y3 ?_|(apply T.gcase;apply rfl;apply rfl;all_goals intro _)|fail)
  exact ⟨_,PSub.refl _,r,rfl,rfl,h1⟩
 ·repeat' (first|(refine T.sidx (i:=0) rfl rfl (by omega) rfl ?_)|(refine T.ssliceL (i:=1) rfl rfl (by omega) rfl ?_)|refine Sg.Y3 ?_|(apply S.condQ;apply rfl;all_goals intro _)|(apply T.gcase;apply rfl;apply rfl;all_goals intro _)|fail)
  all_goals first
   | exact ⟨_,PSub.refl _,r,rfl,rfl,h1⟩
   | exact ih _ _ _ _ ⟨r.drop 1,rfl,rfl,by rw [List.length_drop];omega,rfl⟩ (by rw [List.length_drop];omega) (by repeat' first|exact trivial|refine And.intro rfl ?_)
theorem Z2B {s:List UInt8} {c:UInt8} (hl:s.length≤1000000000):Meets Tryz.prog 160 [sV s,.int .u8 (c.toNat:Nat)] F M H (fun e H'=>∃ r,e=.returned (sV r)∧H'=H∧r.length≤s.length):=by
 refine Meets.enter Tryz.func160 rfl rfl ?_
 repeat' (first|refine Sg.Y1 ?_|fail)
 refine S.loopE 0 [1] (fun R b' μ H' e=>∃ r:List UInt8,H'=R∧e=(0,sV r)::b'∧r.length≤s.length∧μ=r.length) rfl rfl ?_ _ _ ⟨s,rfl,rfl,Nat.le_refl _,rfl⟩ (by repeat' first|exact trivial|refine And.intro rfl ?_)
 rintro _ _ _ ⟨r,rfl,rfl,h1,rfl⟩ ih
 by_cases h0:r.length=0
 ·repeat' (first|refine Sg.Y3 ?_|(apply T.gcase;apply rfl;apply rfl;all_goals intro _)|fail)
  exact ⟨_,PSub.refl _,r,rfl,rfl,h1⟩
 ·have e1:(r.length:Int) - 1=((r.length - 1:Nat):Int):=by omega
  repeat' (first|(apply T.subI;apply rfl;apply rfl;omega;apply rfl;rw [e1])|(refine T.ssliceH (j:=r.length - 1) rfl rfl (by omega) rfl ?_)|refine Sg.Y3 ?_|(apply S.condQ;apply rfl;all_goals intro _)|(apply T.gcase;apply rfl;apply rfl;all_goals intro _)|fail)
  all_goals first
   | exact ⟨_,PSub.refl _,r,rfl,rfl,h1⟩
   | exact ih _ _ _ _ ⟨r.take (r.length - 1),rfl,rfl,by rw [List.length_take];omega,rfl⟩ (by rw [List.length_take];omega) (by repeat' first|exact trivial|refine And.intro rfl ?_)
theorem Z12 {s pr:List UInt8} {c:UInt8} (hp:pr=[c]) (hc:c.toNat < 128) (hl:s.length≤1000000000):Meets Tryz.prog 132 [sV s,sV pr] F M H (fun e H'=>∃ r,e=.returned (sV r)∧H'=H∧r.length≤s.length):=by
 refine Meets.enter Tryz.func132 rfl rfl ?_
 have h1:pr.length=1:=by rw [hp];rfl
 have h2:¬pr=[]:=by rw [hp];simp
 have h3:pr.getD 0 0=c:=by rw [hp];rfl
 by_cases h0:s=[]
 ·repeat' (first|refine Sg.Y3 ?_|(apply T.gcase;apply rfl;apply rfl;all_goals intro _)|fail)
  exact ⟨_,PSub.refl _,s,rfl,rfl,Nat.le_refl _⟩
 ·repeat' (first|(refine T.sidx (i:=0) rfl rfl (by omega) rfl ?_;rw [h3])|refine Sg.Y3 ?_|(apply S.condQ;apply rfl;all_goals intro _)|(apply T.gcase;apply rfl;apply rfl;all_goals intro _)|fail)
  all_goals
   refine T.call rfl rfl (Z2U hl) ?_
   rintro _ _ ⟨r,rfl,hH,hr⟩
   have hH2:=hH.symm
   subst hH2
   repeat' (first|refine Sg.Y2 ?_|fail)
   exact ⟨_,PSub.refl _,r,rfl,rfl,hr⟩
theorem Z3E {s pr:List UInt8} {c:UInt8} (hp:pr=[c]) (hc:c.toNat < 128) (hl:s.length≤1000000000):Meets Tryz.prog 133 [sV s,sV pr] F M H (fun e H'=>∃ r,e=.returned (sV r)∧H'=H∧r.length≤s.length):=by
 refine Meets.enter Tryz.func133 rfl rfl ?_
 have h1:pr.length=1:=by rw [hp];rfl
 have h2:¬pr=[]:=by rw [hp];simp
 have h3:pr.getD 0 0=c:=by rw [hp];rfl
 by_cases h0:s=[]
 ·repeat' (first|refine Sg.Y3 ?_|(apply T.gcase;apply rfl;apply rfl;all_goals intro _)|fail)
  exact ⟨_,PSub.refl _,s,rfl,rfl,Nat.le_refl _⟩
 ·repeat' (first|(refine T.sidx (i:=0) rfl rfl (by omega) rfl ?_;rw [h3])|refine Sg.Y3 ?_|(apply S.condQ;apply rfl;all_goals intro _)|(apply T.gcase;apply rfl;apply rfl;all_goals intro _)|fail)
  all_goals
   refine T.call rfl rfl (Z2B hl) ?_
   rintro _ _ ⟨r,rfl,hH,hr⟩
   have hH2:=hH.symm
   subst hH2
   repeat' (first|refine Sg.Y2 ?_|fail)
   exact ⟨_,PSub.refl _,r,rfl,rfl,hr⟩
theorem Z3p {s:List UInt8} (hl:s.length≤1000000000):Meets Tryz.prog 131 [sV s] F M H (fun e H'=>e=.returned (.int .i64 (runD s:Nat))∧H'=H):=by
 refine Meets.enter Tryz.func131 rfl rfl ?_
 have hr:runD s=Z1E s 0:=by unfold runD Z1E;simp
 rw [hr]
 repeat' (first|refine Sg.Y1 ?_|fail)
 refine S.loopE 0 [0] (fun R b' μ H' e=>∃ q:Nat,H'=R∧e=(3,.int .i64 q)::b'∧(q≤s.length∧Z1E s 0=Z1E s q)∧μ=s.length - q) rfl rfl ?_ _ _ ⟨0,rfl,rfl,⟨Nat.zero_le _,rfl⟩,rfl⟩ (by repeat' first|exact trivial|refine And.intro rfl ?_)
 rintro _ _ _ ⟨q,rfl,rfl,⟨h1,h2⟩,rfl⟩ ih
 have hb:bAt s q=(s.getD q 0).toNat:=rfl
 by_cases h3:q < s.length
 ·by_cases h4:48≤bAt s q∧bAt s q≤57
  ·have h5:=Z4s h4
   repeat' (first|refine Sg.Y3 ?_|(apply S.condQ;apply rfl;all_goals intro _)|(apply T.gcase;apply rfl;apply rfl;all_goals intro _)|fail)
   exact ih _ _ _ _ ⟨q+1,rfl,rfl,⟨by omega,h2.trans h5⟩,rfl⟩ (by omega) (by repeat' first|exact trivial|refine And.intro rfl ?_)
  ·rw [h2,Z3y h4]
   repeat' (first|refine Sg.Y3 ?_|(apply S.condQ;apply rfl;all_goals intro _)|(apply T.gcase;apply rfl;apply rfl;all_goals intro _)|fail)
   all_goals exact ⟨_,PSub.refl _,rfl,rfl⟩
 ·rw [h2,Z3y (by rw [Z5H (by omega)];omega)]
  repeat' (first|refine Sg.Y3 ?_|(apply T.gcase;apply rfl;apply rfl;all_goals intro _)|fail)
  exact ⟨_,PSub.refl _,rfl,rfl⟩
end
end Go.Proofs.YtophlopiigpbgaaGreatDoor
/- The walks of the program's numbers: read. -/
namespace Go.Proofs.YtophlopiigpbgaaGreatDoor
open Sg Go.IntWalk
set_option maxRecDepth 100000
set_option maxHeartbeats 4000000
section
variable {F:World} {M:List Nat} {H:List Res}
abbrev numV (mi:Bool) (w d:List UInt8) (pt:Int) (pl dn:Bool) (ex:List UInt8):List Value:=[.bool mi,sV w,sV d,.int .i64 pt,.bool pl,.bool dn,sV ex]
theorem Z42 {s:List UInt8} (h:s.length=0):s=[]:=List.length_eq_zero_iff.1 h
theorem ZbR {s:List UInt8} (h:s.getD 0 0|||32=101):expP s=if Z2h (s.drop 1)=[]∨runD (Z2h (s.drop 1))≠(Z2h (s.drop 1)).length then none else some ([],false):=by
 cases s with
 | nil=>exact absurd h (by decide)
 | cons x r =>
  have h1:=(Z7T x).1 h
  unfold expP
  simp only [h1,if_true]
  rfl
theorem Zd9 {s:List UInt8} (h:¬s.getD 0 0|||32=101):expP s=some (s,true):=by
 cases s with
 | nil=>rfl
 | cons x r =>
  have h1:¬(x=101∨x=69):=fun h2=>h ((Z7T x).2 h2)
  unfold expP
  simp only [h1,if_false]
theorem Z9x {s:List UInt8} (h:(s.getD 0 0).toNat=43∨(s.getD 0 0).toNat=45):Z2h s=s.drop 1:=by
 cases s with
 | nil=>rfl
 | cons x r =>
  have h1:x=43∨x=45:=h.imp (fun h=>UInt8.toNat_inj.1 h) (fun h=>UInt8.toNat_inj.1 h)
  unfold Z2h
  simp only [h1,if_true]
  rfl
theorem Zba {s:List UInt8} (h:¬((s.getD 0 0).toNat=43∨(s.getD 0 0).toNat=45)):Z2h s=s:=by
 cases s with
 | nil=>rfl
 | cons x r =>
  have h1:¬(x=43∨x=45):=fun h2=>h (h2.imp (fun h=>by rw [List.getD_cons_zero,h];rfl) (fun h=>by rw [List.getD_cons_zero,h];rfl))
  unfold Z2h
  simp only [h1,if_false]
theorem _root_.Sg.Y6 {P R:Prop} (k:R) (h:Sg.Kp R→P:=by intro k;(first|(apply T.sadd;apply rfl;apply rfl;(first|omega|(simp only [List.length_append,List.length_cons,List.length_nil];omega));apply rfl)|(apply T.sadd;apply rfl;apply rfl;decide;apply rfl)|(apply T.convBU64;apply rfl;apply rfl)|(apply T.ssliceH;apply rfl;apply rfl;omega;apply rfl)|(apply T.sslice;(iterate 3 apply rfl);omega;apply rfl)|(apply T.ssliceL;apply rfl;apply rfl;omega;apply rfl)|(apply T.ixN;apply rfl;apply rfl;infer_instance;omega;(first|omega|(simp only [List.length_map];omega)|(simp;omega));apply rfl)|(apply T.mapLook;apply rfl;apply rfl;infer_instance;(first|assumption|(simp only [maxLen];omega)|omega);apply rfl)|(apply T.convS;apply rfl;infer_instance;(first|rfl|assumption|exact beN_len _ _|(simp;done)|(simp;omega));apply rfl)|(apply T.neqP;apply rfl;apply rfl)|(apply T.neqP0;apply rfl;apply rfl)|(apply T.mv;apply rfl;apply rfl)|(apply T.asn;apply rfl;apply rfl)|(apply T.len;apply rfl;apply rfl)|(apply T.nilCheck;apply rfl;apply rfl)|(apply T.fieldAddrZ;apply rfl;apply rfl)|(apply T.load;apply rfl;apply rfl;infer_instance;apply rfl;apply rfl)|(apply T.lss;(iterate 3 apply rfl))|(apply T.eql;(iterate 3 apply rfl))|(apply T.addI;apply rfl;apply rfl;omega;apply rfl)|(apply T.extract;(iterate 3 apply rfl))|(apply T.ixF;apply rfl;apply rfl;infer_instance;exact (fun _=>rfl);apply rfl;omega;omega;apply rfl)|(apply T.fieldAddrF;apply rfl;infer_instance;exact (fun _=>rfl);apply rfl;omega;apply rfl)|(apply T.loadF;apply rfl;apply rfl;infer_instance;exact (fun _=>rfl);apply rfl;exact Zf (by omega);apply rfl;apply rfl)|(apply T.notB;apply rfl;apply rfl)|(apply T.pickT;(iterate 3 apply rfl))|(apply T.pickF;(iterate 3 apply rfl))|(apply T.buildL;(iterate 3 apply rfl))|(apply T.loadW;apply rfl;apply rfl;infer_instance;(first|rfl|(simp only [List.length_append,List.length_map,List.length_set,List.length_replicate,List.length_cons,List.length_nil];first|done|omega));apply rfl)|(apply T.sliceLC;apply rfl;omega;apply rfl)|(apply T.storeW;apply rfl;apply rfl;infer_instance;(first|rfl|(simp only [List.length_append,List.length_map,List.length_set,List.length_replicate,List.length_cons,List.length_nil];first|done|omega));(first|rfl|(simp only [List.length_append,List.length_map,List.length_set,List.length_replicate,List.length_cons,List.length_nil];first|done|omega));(first|rfl|(repeat' first|apply all_nV|apply Z11|apply all_iV|rfl|apply all_app)))|(apply T.store;apply rfl;apply rfl;infer_instance;(first|decide|(simp;omega)|simp);apply rfl)|(with_reducible refine Sr.nil ?_)|(with_reducible refine S.reg ?_)|(with_reducible refine S.skip ?_)|(with_reducible refine S.inBlock ?_)|(apply S.exit;apply rfl)|(apply T.ungV;apply rfl;(first|with_reducible rfl|decide))|(apply T.skip;apply rfl;(first|with_reducible rfl|decide);apply rfl)|(apply S.condTV;apply rfl;(first|with_reducible rfl|decide))|(apply S.condFV;apply rfl;(first|with_reducible rfl|decide))|(apply T.retW;apply rfl)|(apply T.doneW;apply rfl)|(with_reducible apply T.diesW)|(with_reducible apply T.ofRet)|(with_reducible apply T.ofPan)|(apply T.retC;apply rfl;((repeat' first|apply RV.nil|(apply RV.tmp;apply rfl)|(apply RV.cellW;apply rfl;apply rfl;infer_instance;(first|rfl|(simp only [List.length_append,List.length_map,List.length_set,List.length_replicate,List.length_cons,List.length_nil];first|done|omega)))|(apply RV.cellP;apply rfl;apply rfl;infer_instance;apply rfl)));apply rfl)|(apply SA.en;apply rfl;apply rfl;kernel_rfl)|fail);exact k.h):P:=h ⟨k⟩
theorem _root_.Sg.Y7 {P R:Prop} (k:R) (h:Sg.Kp R→P:=by intro k;(first|(apply T.ixN;apply rfl;apply rfl;infer_instance;omega;(first|omega|(simp only [List.length_map];omega)|(simp;omega));apply rfl)|(apply T.seql;(iterate 3 apply rfl))|(apply T.slen;apply rfl;apply rfl)|(apply T.sidx;apply rfl;apply rfl;omega;apply rfl)|(apply T.loadS;apply rfl;infer_instance;(first|omega|(simp only [List.length_map];omega));apply rfl)|(apply T.mv;apply rfl;apply rfl)|(apply T.asn;apply rfl;apply rfl)|(apply T.nilCheck;apply rfl;apply rfl)|(apply T.fieldAddrZ;apply rfl;apply rfl)|(apply T.load;apply rfl;apply rfl;infer_instance;apply rfl;apply rfl)|(apply T.eql;(iterate 3 apply rfl))|(apply T.neq;(iterate 3 apply rfl))|(apply T.addI;apply rfl;apply rfl;omega;apply rfl)|(apply T.pickF;(iterate 3 apply rfl))|(apply T.store;apply rfl;apply rfl;infer_instance;(first|decide|(simp;omega)|simp);apply rfl)|(with_reducible refine Sr.nil ?_)|(with_reducible refine S.reg ?_)|(with_reducible refine S.skip ?_)|(with_reducible refine S.inBlock ?_)|(apply T.ungV;apply rfl;(first|with_reducible rfl|decide))|(with_reducible apply T.ofRet)|(apply SA.en;apply rfl;apply rfl;kernel_rfl)|(apply S.condQ;apply rfl;intro _;rotate_left;intro _;exfalso;(first|omega|with_reducible contradiction))|(apply S.condQ;apply rfl;intro _;exfalso;(first|omega|with_reducible contradiction);intro _)|fail);exact k.h):P:=h ⟨k⟩
theorem Z62 {t:List UInt8} (hl:t.length≤2200000):Meets Tryz.prog 104 [sV t,.int .i64 0] F M H (fun e H'=>∃ (mi:Bool) (w d:List UInt8) (pt:Int) (pl dn:Bool) (ex:List UInt8),e=.returned (.tuple ⟨[.agg ⟨numV mi w d pt pl dn ex⟩,.bool (numP t).isSome]⟩)∧H'=H∧∀ x,numP t=some x→x=(mi,w,pl)):=by
 refine Meets.enter Tryz.func104 rfl rfl ?_
 have hc1:=Z5F 45 t
 have hN:numP t=if Z3h (cutP 45 t).1=true then none else
   match Z8S ((cutP 45 t).1.drop (runD (cutP 45 t).1)) with
   | none=>none
   | some (s3,p1)=>match expP s3 with
    | none=>none
    | some (s6,p2)=>if s6=[] then some ((cutP 45 t).2,(cutP 45 t).1.take (runD (cutP 45 t).1),p1&&p2) else none:=rfl
 generalize numP t=np at *
 refine S.seq ?_
 repeat' (first|(apply T.alloc;apply rfl;intro nb)|refine Sg.Y2 ?_|fail)
 revert nb
 intro b4
 refine S.seq ?_
 repeat' (first|(apply T.alloc;apply rfl;intro nb)|refine Sg.Y2 ?_|fail)
 revert nb
 intro b6
 refine S.seq ?_
 repeat' (first|refine Sg.Y2 ?_|fail)
 refine S.seq ?_
 refine S.seq ?_
 repeat' (first|refine Sg.Y2 ?_|fail)
 refine S.cut (fun H' e'=>∃ (mi:Bool) (w s6 bh:List UInt8) (pl dn:Bool) (ex:List UInt8),H'=.blk b6 (numV mi w [] 0 pl dn ex) 156::.blk b4 (numV false [] [] 0 false false []) 156::H∧e'=[(0,sV s6),(4,.pointer (some ⟨b4,0,none⟩)),(6,.pointer (some ⟨b6,0,none⟩)),(7,sV bh),(5,.bool false)]∧w.length≤2200000∧bh.length≤2200000∧ex.length≤2200000∧np=if s6=[] then some (mi,w,pl) else none) ?_ ?_
 ·intro k' hrest
  refine S.block ?_
  refine S.seq ?_
  refine S.cut (fun H' e'=>∃ (mi:Bool) (w s3 bh:List UInt8) (pl:Bool),H'=.blk b6 (numV mi w [] 0 pl false []) 156::.blk b4 (numV false [] [] 0 false false []) 156::H∧e'=[(0,sV s3),(4,.pointer (some ⟨b4,0,none⟩)),(6,.pointer (some ⟨b6,0,none⟩)),(7,sV bh),(5,.bool false)]∧w.length≤2200000∧bh.length≤2200000∧s3.length≤2200000∧np=match expP s3 with
   | none=>none
   | some (s6,p2)=>if s6=[] then some (mi,w,pl&&p2) else none) ?_ ?_
  ·intro k'' hmid
   repeat' (first|refine Sg.Y1 ?_|fail)
   refine T.call rfl rfl (Z1W (pr:=[45]) (c:=45) rfl (by omega)) ?_
   rintro _ _ ⟨rfl,hH⟩
   have hH2:=hH.symm
   subst hH2
   generalize (cutP 45 t).1=s1 at *
   generalize (cutP 45 t).2=mi at *
   have hk:=Z30 s1
   have u0:(s1.getD 0 0).toNat=bAt s1 0:=rfl
   repeat' (first|refine Sg.Y1 ?_|fail)
   refine T.call rfl rfl (Z3p (s:=s1) (by omega)) ?_
   rintro _ _ ⟨rfl,hH⟩
   have hH2:=hH.symm
   subst hH2
   by_cases hb:Z3h s1=true
   ·have hb':runD s1=0∨(1 < runD s1∧bAt s1 0=48):=by simpa [Z3h] using hb
    rw [if_pos hb] at hN
    subst hN
    repeat' (first|(refine T.sidx (i:=0) rfl rfl (by omega) rfl ?_)|refine Sg.Y3 ?_|(apply S.condQ;apply rfl;all_goals intro _)|(apply T.gcase;apply rfl;apply rfl;all_goals intro _)|fail)
    all_goals (exact ⟨_,PSub.drop (PSub.drop (PSub.refl _)),_,_,_,_,_,_,_,rfl,rfl,fun x hx=>by cases hx⟩)
   have hb':¬(runD s1=0∨(1 < runD s1∧bAt s1 0=48)):=by simpa [Z3h] using hb
   rw [if_neg hb] at hN
   clear hb
   have hl2:(s1.drop (runD s1)).length=s1.length - runD s1:=List.length_drop
   repeat' (first|(refine T.sidx (i:=0) rfl rfl (by omega) rfl ?_)|refine Sg.Y3 ?_|(apply S.condQ;apply rfl;all_goals intro _)|(apply T.gcase;apply rfl;apply rfl;all_goals intro _)|fail)
   all_goals
    (apply S.draw;(case Hs=>exact H);(case es=>exact  [7]);(case n=>exact  9);(case hn=>rfl))
    repeat' (first|(apply SA.qn;(iterate 4 apply rfl);kernel_rfl)|(apply SA.qz;(iterate 4 apply rfl);kernel_rfl)|(apply SA.qsn;(iterate 3 apply rfl);kernel_rfl;(first|exact fun _ h=>h|exact fun _ h=>St.psub h (by ((repeat (first|dsimp only [List.set_cons_zero]|dsimp only [List.set_cons_succ]));repeat' first|exact PSub.refl _|exact PSub.nil|(apply PSub.take;(repeat' first|(with_reducible exact Z0)|(with_reducible apply Z1)))|(with_reducible apply PSub.drop)|((apply PSub.take);(repeat' first|exact Z0|(apply Z1)))))))|(apply SA.done;apply rfl;kernel_rfl)|(apply SK.intro;(first|exact fun _ h=>h|exact fun _ h=>St.psub h (by ((repeat (first|dsimp only [List.set_cons_zero]|dsimp only [List.set_cons_succ]));repeat' first|exact PSub.refl _|exact PSub.nil|(apply PSub.take;(repeat' first|(with_reducible exact Z0)|(with_reducible apply Z1)))|(with_reducible apply PSub.drop)|((apply PSub.take);(repeat' first|exact Z0|(apply Z1)))))))|refine Sg.Y5 ?_|fail)
    refine T.call rfl rfl (Z1W (s:=s1.drop (runD s1)) (pr:=[46]) (c:=46) rfl (by omega)) ?_
    rintro _ _ ⟨rfl,hH⟩
    have hH2:=hH.symm
    subst hH2
    generalize s1.drop (runD s1)=s2 at *
    have hc2:=Z5F 46 s2
    unfold Z8S at hN
    cases hc46:(cutP 46 s2).2 with
    | true =>
     rw [hc46,if_pos rfl] at hN
     generalize (cutP 46 s2).1=rs at *
     have hkr:=Z30 rs
     repeat' (first|refine Sg.Y1 ?_|fail)
     refine T.call rfl rfl (Z3p (s:=rs) (by omega)) ?_
     rintro _ _ ⟨rfl,hH⟩
     have hH2:=hH.symm
     subst hH2
     by_cases hk0:runD rs=0
     ·rw [if_pos hk0] at hN
      subst hN
      repeat' (first|refine Sg.Y3 ?_|(apply S.condQ;apply rfl;all_goals intro _)|fail)
      (exact ⟨_,PSub.drop (PSub.drop (PSub.refl _)),_,_,_,_,_,_,_,rfl,rfl,fun x hx=>by cases hx⟩)
     ·rw [if_neg hk0] at hN
      have hl3:(rs.drop (runD rs)).length=rs.length - runD rs:=List.length_drop
      repeat' (first|refine Sg.Y3 ?_|(apply S.condQ;apply rfl;all_goals intro _)|fail)
      (apply S.draw;(case Hs=>exact H);(case es=>exact  [7]);(case n=>exact  10);(case hn=>rfl))
      repeat' (first|(apply SA.qn;(iterate 4 apply rfl);kernel_rfl)|(apply SA.qz;(iterate 4 apply rfl);kernel_rfl)|(apply SA.qsn;(iterate 3 apply rfl);kernel_rfl;(first|exact fun _ h=>h|exact fun _ h=>St.psub h (by ((repeat (first|dsimp only [List.set_cons_zero]|dsimp only [List.set_cons_succ]));repeat' first|exact PSub.refl _|exact PSub.nil|(apply PSub.take;(repeat' first|(with_reducible exact Z0)|(with_reducible apply Z1)))|(with_reducible apply PSub.drop)|((apply PSub.take);(repeat' first|exact Z0|(apply Z1)))))))|(apply SA.done;apply rfl;kernel_rfl)|(apply SK.intro;(first|exact fun _ h=>h|exact fun _ h=>St.psub h (by ((repeat (first|dsimp only [List.set_cons_zero]|dsimp only [List.set_cons_succ]));repeat' first|exact PSub.refl _|exact PSub.nil|(apply PSub.take;(repeat' first|(with_reducible exact Z0)|(with_reducible apply Z1)))|(with_reducible apply PSub.drop)|((apply PSub.take);(repeat' first|exact Z0|(apply Z1)))))))|refine Sg.Y6 ?_|fail)
      exact hmid _ _ _ ⟨mi,s1.take (runD s1),rs.drop (runD rs),rs.take (runD rs),false,rfl,rfl,by rw [List.length_take];omega,by rw [List.length_take];omega,by omega,hN⟩ (by repeat' first|exact trivial|refine And.intro rfl ?_)
    | false =>
     have hs2:s2.length≤2200000:=by omega
     rw [hc46,if_neg (by simp)] at hN
     repeat' (first|refine Sg.Y1 ?_|fail)
     exact hmid _ _ _ ⟨mi,s1.take (runD s1),s2,[],true,rfl,rfl,by rw [List.length_take];omega,by simp,hs2,hN⟩ (by repeat' first|exact trivial|refine And.intro rfl ?_)
  ·rintro _ _ ⟨mi,w,s3,bh,pl,rfl,rfl,hw,hbh,hs3,hN⟩
   by_cases he:s3.getD 0 0|||32=101
   ·have hl3:0 < s3.length:=by
     rcases Nat.eq_zero_or_pos s3.length with h|h
     ·rw [Z42 h] at he
      exact absurd he (by decide)
     ·exact h
    have hn3:¬s3=[]:=fun h=>by rw [h] at hl3;exact absurd hl3 (by decide)
    have he':((s3.getD 0 0|||32).toNat:Int)=101:=by rw [he];rfl
    rw [ZbR he] at hN
    have hl4:(s3.drop 1).length=s3.length - 1:=List.length_drop
    obtain ⟨s4,e4⟩:∃ s4,s3.drop 1=s4:=⟨_,rfl⟩
    rw [e4] at hN hl4
    by_cases hs:(s4.getD 0 0).toNat=43∨(s4.getD 0 0).toNat=45
    ·have h04:0 < s4.length:=by
      rcases Nat.eq_zero_or_pos s4.length with h|h
      ·rw [Z42 h] at hs
       exact absurd hs (by decide)
      ·exact h
     have hn4:¬s4=[]:=fun h=>by rw [h] at h04;exact absurd h04 (by decide)
     rw [Z9x hs] at hN
     obtain ⟨s5,e5⟩:∃ s5,s4.drop 1=s5:=⟨_,rfl⟩
     have hl5:s5.length=s4.length - 1:=by rw [←e5];exact List.length_drop
     rw [e5] at hN
     by_cases h5:s5=[]
     ·rw [if_pos (.inl h5)] at hN
      subst hN
      repeat' (first|(refine T.sidx (i:=0) rfl rfl (by omega) rfl ?_)|(refine T.ssliceL (i:=1) rfl rfl (by omega) rfl ?_;rw [e4])|(refine T.bor (b:=32) _ rfl rfl rfl ?_)|refine Sg.Y3 ?_|(apply S.condQ;apply rfl;all_goals intro _)|(apply T.gcase;apply rfl;apply rfl;all_goals intro _)|fail)
      all_goals
       (apply S.draw;(case Hs=>exact H);(case es=>exact  [6]);(case n=>exact  8);(case hn=>rfl))
       repeat' (first|(refine T.sidx (i:=0) rfl rfl (by omega) rfl ?_)|(refine T.ssliceL (i:=1) rfl rfl (by omega) rfl ?_;rw [e5])|(apply SA.qn;(iterate 4 apply rfl);kernel_rfl)|(apply SA.qz;(iterate 4 apply rfl);kernel_rfl)|(apply SA.qsn;(iterate 3 apply rfl);kernel_rfl;(first|exact fun _ h=>h|exact fun _ h=>St.psub h (by ((repeat (first|dsimp only [List.set_cons_zero]|dsimp only [List.set_cons_succ]));repeat' first|exact PSub.refl _|exact PSub.nil|(apply PSub.take;(repeat' first|(with_reducible exact Z0)|(with_reducible apply Z1)))|(with_reducible apply PSub.drop)|((apply PSub.take);(repeat' first|exact Z0|(apply Z1)))))))|(apply SA.done;apply rfl;kernel_rfl)|(apply SK.intro;(first|exact fun _ h=>h|exact fun _ h=>St.psub h (by ((repeat (first|dsimp only [List.set_cons_zero]|dsimp only [List.set_cons_succ]));repeat' first|exact PSub.refl _|exact PSub.nil|(apply PSub.take;(repeat' first|(with_reducible exact Z0)|(with_reducible apply Z1)))|(with_reducible apply PSub.drop)|((apply PSub.take);(repeat' first|exact Z0|(apply Z1)))))))|refine Sg.Y3 ?_|(apply T.gcase;apply rfl;apply rfl;all_goals intro _)|fail)
       (exact ⟨_,PSub.drop (PSub.drop (PSub.refl _)),_,_,_,_,_,_,_,rfl,rfl,fun x hx=>by cases hx⟩)
     ·have h05:0 < s5.length:=by
       rcases Nat.eq_zero_or_pos s5.length with h|h
       ·exact absurd (Z42 h) h5
       ·exact h
      have hr5:=Z30 s5
      repeat' (first|(refine T.sidx (i:=0) rfl rfl (by omega) rfl ?_)|(refine T.ssliceL (i:=1) rfl rfl (by omega) rfl ?_;rw [e4])|(refine T.bor (b:=32) _ rfl rfl rfl ?_)|refine Sg.Y3 ?_|(apply S.condQ;apply rfl;all_goals intro _)|(apply T.gcase;apply rfl;apply rfl;all_goals intro _)|fail)
      all_goals
       (apply S.draw;(case Hs=>exact H);(case es=>exact  [6]);(case n=>exact  8);(case hn=>rfl))
       repeat' (first|(refine T.sidx (i:=0) rfl rfl (by omega) rfl ?_)|(refine T.ssliceL (i:=1) rfl rfl (by omega) rfl ?_;rw [e5])|(apply SA.qn;(iterate 4 apply rfl);kernel_rfl)|(apply SA.qz;(iterate 4 apply rfl);kernel_rfl)|(apply SA.qsn;(iterate 3 apply rfl);kernel_rfl;(first|exact fun _ h=>h|exact fun _ h=>St.psub h (by ((repeat (first|dsimp only [List.set_cons_zero]|dsimp only [List.set_cons_succ]));repeat' first|exact PSub.refl _|exact PSub.nil|(apply PSub.take;(repeat' first|(with_reducible exact Z0)|(with_reducible apply Z1)))|(with_reducible apply PSub.drop)|((apply PSub.take);(repeat' first|exact Z0|(apply Z1)))))))|(apply SA.done;apply rfl;kernel_rfl)|(apply SK.intro;(first|exact fun _ h=>h|exact fun _ h=>St.psub h (by ((repeat (first|dsimp only [List.set_cons_zero]|dsimp only [List.set_cons_succ]));repeat' first|exact PSub.refl _|exact PSub.nil|(apply PSub.take;(repeat' first|(with_reducible exact Z0)|(with_reducible apply Z1)))|(with_reducible apply PSub.drop)|((apply PSub.take);(repeat' first|exact Z0|(apply Z1)))))))|refine Sg.Y3 ?_|(apply T.gcase;apply rfl;apply rfl;all_goals intro _)|fail)
       refine T.call rfl rfl (Z3p (s:=s5) (by omega)) ?_
       rintro _ _ ⟨rfl,hH⟩
       have hH2:=hH.symm
       subst hH2
       by_cases h6:runD s5=s5.length
       ·rw [if_neg (fun h=>h.elim h5 (fun h=>h h6))] at hN
        repeat' (first|refine Sg.Y7 ?_|(apply S.condQ;apply rfl;all_goals intro _)|fail)
        refine T.call rfl rfl (Z12 (pr:=[48]) (c:=48) rfl (by decide) (by omega)) ?_
        rintro _ _ ⟨r,rfl,hH,hr⟩
        have hH2:=hH.symm
        subst hH2
        repeat' (first|refine Sg.Y2 ?_|fail)
        exact hrest _ _ _ ⟨mi,w,[],bh,false,_,r,rfl,rfl,hw,hbh,by omega,by rw [hN];simp⟩ (by repeat' first|exact trivial|refine And.intro rfl ?_)
       ·rw [if_pos (.inr h6)] at hN
        subst hN
        repeat' (first|refine Sg.Y3 ?_|(apply S.condQ;apply rfl;all_goals intro _)|fail)
        all_goals (exact ⟨_,PSub.drop (PSub.drop (PSub.refl _)),_,_,_,_,_,_,_,rfl,rfl,fun x hx=>by cases hx⟩)
    ·rw [Zba hs] at hN
     have hs':¬((s4.getD 0 0).toNat=43)∧¬((s4.getD 0 0).toNat=45):=not_or.1 hs
     obtain ⟨hs1,hs2⟩:=hs'
     by_cases hn4:s4=[]
     ·repeat' (first|(refine T.sidx (i:=0) rfl rfl (by omega) rfl ?_)|(refine T.ssliceL (i:=1) rfl rfl (by omega) rfl ?_;rw [e4])|(refine T.bor (b:=32) _ rfl rfl rfl ?_)|refine Sg.Y3 ?_|(apply S.condQ;apply rfl;all_goals intro _)|(apply T.gcase;apply rfl;apply rfl;all_goals intro _)|fail)
      rw [if_pos (.inl hn4)] at hN
      subst hN
      (exact ⟨_,PSub.drop (PSub.drop (PSub.refl _)),_,_,_,_,_,_,_,rfl,rfl,fun x hx=>by cases hx⟩)
     ·have h04:0 < s4.length:=by
       rcases Nat.eq_zero_or_pos s4.length with h|h
       ·exact absurd (Z42 h) hn4
       ·exact h
      have hr7:=Z30 s4
      have h7:=hn4
      repeat' (first|(refine T.sidx (i:=0) rfl rfl (by omega) rfl ?_)|(refine T.ssliceL (i:=1) rfl rfl (by omega) rfl ?_;rw [e4])|(refine T.bor (b:=32) _ rfl rfl rfl ?_)|refine Sg.Y3 ?_|(apply S.condQ;apply rfl;all_goals intro _)|(apply T.gcase;apply rfl;apply rfl;all_goals intro _)|fail)
      refine T.call rfl rfl (Z3p (s:=s4) (by omega)) ?_
      rintro _ _ ⟨rfl,hH⟩
      have hH2:=hH.symm
      subst hH2
      by_cases h6:runD s4=s4.length
      ·rw [if_neg (fun h=>h.elim h7 (fun h=>h h6))] at hN
       repeat' (first|refine Sg.Y7 ?_|(apply S.condQ;apply rfl;all_goals intro _)|fail)
       refine T.call rfl rfl (Z12 (pr:=[48]) (c:=48) rfl (by decide) (by omega)) ?_
       rintro _ _ ⟨r,rfl,hH,hr⟩
       have hH2:=hH.symm
       subst hH2
       repeat' (first|refine Sg.Y2 ?_|fail)
       exact hrest _ _ _ ⟨mi,w,[],bh,false,_,r,rfl,rfl,hw,hbh,by omega,by rw [hN];simp⟩ (by repeat' first|exact trivial|refine And.intro rfl ?_)
      ·rw [if_pos (.inr h6)] at hN
       subst hN
       repeat' (first|refine Sg.Y3 ?_|(apply S.condQ;apply rfl;all_goals intro _)|fail)
       all_goals (exact ⟨_,PSub.drop (PSub.drop (PSub.refl _)),_,_,_,_,_,_,_,rfl,rfl,fun x hx=>by cases hx⟩)
   ·have he':¬((s3.getD 0 0|||32).toNat:Int)=101:=fun h=>he (UInt8.toNat_inj.1 (Int.ofNat.inj h))
    rw [Zd9 he] at hN
    by_cases hn3:s3=[]
    ·repeat' (first|refine Sg.Y3 ?_|(apply T.gcase;apply rfl;apply rfl;all_goals intro _)|fail)
     exact hrest _ _ _ ⟨mi,w,s3,bh,pl,false,[],rfl,rfl,hw,hbh,by simp,by rw [hN];simp only [Bool.and_true]⟩ (by repeat' first|exact trivial|refine And.intro rfl ?_)
    ·have hl3:0 < s3.length:=by
      rcases Nat.eq_zero_or_pos s3.length with h|h
      ·exact absurd (Z42 h) hn3
      ·exact h
     repeat' (first|(refine T.sidx (i:=0) rfl rfl (by omega) rfl ?_)|(refine T.bor (b:=32) _ rfl rfl rfl ?_)|refine Sg.Y3 ?_|(apply S.condQ;apply rfl;all_goals intro _)|(apply T.gcase;apply rfl;apply rfl;all_goals intro _)|fail)
     exact hrest _ _ _ ⟨mi,w,s3,bh,pl,false,[],rfl,rfl,hw,hbh,by simp,by rw [hN];simp only [Bool.and_true]⟩ (by repeat' first|exact trivial|refine And.intro rfl ?_)
 ·rintro _ _ ⟨mi,w,s6,bh,pl,dn,ex,rfl,rfl,h1,h2,h3,h4⟩
  repeat' (first|refine Sg.Y1 ?_|fail)
  refine T.call rfl rfl (Z12 (c:=48) rfl (by decide) (by rw [List.length_append];omega)) ?_
  rintro _ _ ⟨d,rfl,rfl,hd⟩
  rw [List.length_append] at hd
  have hla:(w++bh).length=w.length+bh.length:=List.length_append
  repeat' (first|refine Sg.Y1 ?_|fail)
  refine T.call rfl rfl (Z3E (c:=48) rfl (by decide) (by omega)) ?_
  rintro _ _ ⟨d2,rfl,rfl,hd2⟩
  repeat' (first|refine Sg.Y3 ?_|(apply S.condQ;apply rfl;all_goals intro _)|fail)
  all_goals
   by_cases h5:s6=[]
   ·rw [if_pos h5] at h4
    subst h4
    rw [decide_eq_true h5]
    exact ⟨_,PSub.drop (PSub.drop (PSub.refl _)),mi,w,d2,_,pl,_,ex,rfl,rfl,fun x hx=>by cases hx;rfl⟩
   ·rw [if_neg h5] at h4
    subst h4
    rw [decide_eq_false h5]
    exact ⟨_,PSub.drop (PSub.drop (PSub.refl _)),mi,w,d2,_,pl,_,ex,rfl,rfl,fun x hx=>by cases hx⟩
end
end Go.Proofs.YtophlopiigpbgaaGreatDoor
/- The walks of the program's numbers: whole ones, valid ones. -/
namespace Go.Proofs.YtophlopiigpbgaaGreatDoor
open Sg Go.IntWalk
set_option maxRecDepth 100000
set_option maxHeartbeats 2000000
section
variable {F:World} {M:List Nat} {H:List Res}
theorem Z76 {t:List UInt8} {mi pl:Bool} {w:List UInt8} (h:numP t=some (mi,w,pl)):(∀ j,j < w.length→48≤bAt w j∧bAt w j≤57)∧w.length≤t.length:=by
 have h1:w=(cutP 45 t).1.take (runD (cutP 45 t).1):=by
  unfold numP at h
  split at h
  ·cases h
  ·split at h
   ·cases h
   ·split at h
    ·cases h
    ·split at h
     ·simp only [Option.some.injEq,Prod.mk.injEq] at h
      exact h.2.1.symm
     ·cases h
 have h2:=Z30 (cutP 45 t).1
 have h3:=Z5F 45 t
 subst h1
 refine ⟨fun j hj=>?_,by rw [List.length_take];omega⟩
 rw [List.length_take] at hj
 have h4:bAt ((cutP 45 t).1.take (runD (cutP 45 t).1)) j=bAt (cutP 45 t).1 j:=by
  unfold bAt
  simp only [List.getD]
  rw [List.getElem?_take_of_lt (by omega)]
 rw [h4]
 exact Z8x (by omega)
theorem Z8o {t:List UInt8} (hl:t.length≤2200000):Meets Tryz.prog 72 [sV t] F M H (fun e H'=>e=.returned (.bool (numP t).isSome)∧H'=H):=by
 refine Meets.enter Tryz.func72 rfl rfl ?_
 repeat' (first|refine Sg.Y1 ?_|fail)
 refine T.call rfl rfl (Z62 hl) ?_
 rintro _ _ ⟨mi,w,d,pt,pl,dn,ex,rfl,hH,hx⟩
 have hH2:=hH.symm
 subst hH2
 repeat' (first|(apply T.alloc;apply rfl;intro nb)|refine Sg.Y1 ?_|fail)
 exact ⟨_,PSub.drop (PSub.refl _),rfl,rfl⟩
theorem Z4G {t:List UInt8} (hl:t.length≤2200000):Meets Tryz.prog 71 [sV t] F M H (fun e H'=>e=.returned (.tuple ⟨[.int .i64 (Zb t).1,.bool (Zb t).2]⟩)∧H'=H):=by
 refine Meets.enter Tryz.func71 rfl rfl ?_
 repeat' (first|refine Sg.Y1 ?_|fail)
 refine T.call rfl rfl (Z62 hl) ?_
 rintro _ _ ⟨mi,w,d,pt,pl,dn,ex,rfl,hH,hx⟩
 have hH2:=hH.symm
 subst hH2
 unfold Zb
 cases hn:numP t with
 | none =>
  repeat' (first|(apply T.alloc;apply rfl;intro nb)|refine Sg.Y1 ?_|fail)
  exact ⟨_,PSub.drop (PSub.refl _),rfl,rfl⟩
 | some x =>
  obtain rfl:=hx x hn
  obtain ⟨hd,hw⟩:=Z76 hn
  cases pl with
  | false =>
   repeat' (first|(apply T.alloc;apply rfl;intro nb)|refine Sg.Y1 ?_|fail)
   exact ⟨_,PSub.drop (PSub.refl _),rfl,rfl⟩
  | true =>
   simp only
   repeat' (first|(apply T.alloc;apply rfl;intro nb)|refine Sg.Y1 ?_|fail)
   refine S.loopE 1 [0,4,5,23] (fun R b' μ H' e=>∃ i:Nat,H'=.blk nb (numV mi w d pt true dn ex) 156::R∧e=(6,.int .u64 (decV (w.take i):Nat))::(24,.int .i64 i)::b'∧(i≤w.length∧decV (w.take i)≤9223372036854775808)∧μ=w.length - i) rfl rfl ?_ _ _ ⟨0,rfl,rfl,⟨Nat.zero_le _,by simp [decV]⟩,rfl⟩ (by repeat' first|exact trivial|refine And.intro rfl ?_)
   rintro _ _ _ ⟨i,rfl,rfl,⟨h1,h2⟩,rfl⟩ ih
   by_cases h3:i < w.length
   ·have hdi:=hd i h3
    have hb:(w.getD i 0).toNat=bAt w i:=rfl
    have hstep:decV (w.take (i+1))=10*decV (w.take i)+(bAt w i - 48):=by
     have hg:w[i]=w.getD i 0:=by simp [List.getD,h3]
     rw [List.take_succ_eq_append_getElem h3,Z6D,hg,hb]
    have hmono:=ZaG (l:=w) (i:=i+1) (by omega)
    by_cases h4:decV (w.take (i+1))≤9223372036854775808
    ·have e9:(10*decV (w.take i)+((w.getD i 0).toNat - 48):Nat)=decV (w.take (i+1)):=by rw [hstep,hb]
     repeat' (first|((with_reducible apply T.subU8N (n:=48));apply rfl;apply rfl;omega;apply rfl)|(refine T.subU64N (m:=9223372036854775808) rfl rfl (by omega) rfl ?_)|(refine T.quoU64 10 rfl rfl (by omega) rfl ?_)|(refine T.mulU64N (m:=10) rfl rfl (by omega) rfl ?_)|(refine T.addU64N rfl rfl (by omega) rfl ?_;rw [e9])|refine Sg.Y3 ?_|(apply S.condQ;apply rfl;all_goals intro _)|fail)
     exact ih _ _ _ _ ⟨i+1,rfl,rfl,⟨by omega,h4⟩,rfl⟩ (by omega) (by repeat' first|exact trivial|refine And.intro rfl ?_)
    ·have hv:whole64 mi (decV w)=(0,false):=by
      unfold whole64
      cases mi
      ·rw [if_neg (by simp),if_neg (by omega)]
      ·rw [if_pos rfl,if_neg (by omega)]
     rw [hv]
     repeat' (first|((with_reducible apply T.subU8N (n:=48));apply rfl;apply rfl;omega;apply rfl)|(refine T.subU64N (m:=9223372036854775808) rfl rfl (by omega) rfl ?_)|(refine T.quoU64 10 rfl rfl (by omega) rfl ?_)|refine Sg.Y3 ?_|(apply S.condQ;apply rfl;all_goals intro _)|fail)
     exact ⟨_,PSub.drop (PSub.refl _),rfl,rfl⟩
   ·obtain rfl:i=w.length:=by omega
    rw [List.take_length] at h2 ⊢
    unfold whole64
    cases mi with
    | true =>
     rw [if_pos rfl,if_pos h2]
     repeat' (first|(refine T.convNeg rfl h2 rfl ?_)|refine Sg.Y4 ?_|(apply S.condQ;apply rfl;all_goals intro _)|fail)
     exact ⟨_,PSub.drop (PSub.refl _),rfl,rfl⟩
    | false =>
     rw [if_neg (by simp)]
     by_cases h5:decV w < 9223372036854775808
     ·rw [if_pos h5]
      repeat' (first|refine Sg.Y3 ?_|(apply S.condQ;apply rfl;all_goals intro _)|fail)
      exact ⟨_,PSub.drop (PSub.refl _),rfl,rfl⟩
     ·rw [if_neg h5]
      repeat' (first|refine Sg.Y3 ?_|(apply S.condQ;apply rfl;all_goals intro _)|fail)
      exact ⟨_,PSub.drop (PSub.refl _),rfl,rfl⟩
end
end Go.Proofs.YtophlopiigpbgaaGreatDoor
/- The walks of the program's reader of JSON: nodes put down, lists and objects opened and closed. -/
namespace Go.Proofs.YtophlopiigpbgaaGreatDoor
open Sg Go.IntWalk
set_option maxRecDepth 100000
set_option maxHeartbeats 4000000
instance:Inhabited Nd:=⟨nd 0⟩
abbrev ndV (n:Nd):List Value:=[.int .i64 n.kind,sV n.key,sV n.text,.bool n.whole,.int .i64 n.int,.int .i64 n.kids]
def Z03 (out:List Nd):List Nat→List Nd
 | []=>out
 | i::_=>out.modify i Nd.more
theorem ZaJ (out:List Nd) (stk:List (Nat × Option (List (List UInt8)))):bump out stk=Z03 out (stk.map (·.1)):=by
 cases stk<;>rfl
def upL {α:Type} (f:α→Value) (l:List α):List Value:=(l.map f).reverse
theorem Z6J {α:Type} (f:α→Value) (l:List α):(upL f l).length=l.length:=by simp [upL]
theorem Z6I {α:Type} (f:α→Value) (x:α) (r:List α):(upL f (x::r))[r.length]?=some (f x):=by simp [upL]
theorem Z2z {α:Type} (f:α→Value) (x:α) (r:List α):upL f (x::r)=upL f r++[f x]:=by simp [upL]
abbrev inV (n:Nat):Value:=.int .i64 (n:Int)
theorem Z4X {α:Type} [Inhabited α] (l:List α) (i:Nat) (f:α→α) (h:i < l.length):l.modify i f=l.set i (f (l.getD i default)):=by
 induction l generalizing i with
 | nil=>simp at h
 | cons a l ih =>
  cases i with
  | zero=>rfl
  | succ i =>
   simp only [List.modify_succ_cons,List.set_cons_succ,List.getD_cons_succ]
   rw [ih i (by simpa using h)]
section
variable {F:World} {M:List Nat} {H:List Res} {p:Nat} {t:List UInt8} {m:Value} {a s:Nat} {k:List UInt8} {c b:Int}
abbrev ouR (oa:Option Addr) (oc:Nat) (out:List Nd):Res:=.row oa oc 34 6 out.length (out.flatMap ndV)
abbrev opR (na:Option Addr) (nc:Nat) (is:List Nat):Res:=.row na nc 3 1 is.length (upL inV is)
theorem _root_.Sg.Y8 {P R:Prop} (k:R) (h:Sg.Kp R→P:=by intro k;(first|(apply T.ixN;apply rfl;apply rfl;infer_instance;omega;(first|omega|(simp only [List.length_map];omega)|(simp;omega));apply rfl)|(apply T.addU64N;apply rfl;apply rfl;omega;apply rfl)|(apply T.neqP;apply rfl;apply rfl)|(apply T.mv;apply rfl;apply rfl)|(apply T.asn;apply rfl;apply rfl)|(apply T.len;apply rfl;apply rfl)|(apply T.nilCheck;apply rfl;apply rfl)|(apply T.fieldAddrZ;apply rfl;apply rfl)|(apply T.load;apply rfl;apply rfl;infer_instance;apply rfl;apply rfl)|(apply T.lss;(iterate 3 apply rfl))|(apply T.leq;(iterate 3 apply rfl))|(apply T.gtr;(iterate 3 apply rfl))|(apply T.geq;(iterate 3 apply rfl))|(apply T.eql;(iterate 3 apply rfl))|(apply T.neq;(iterate 3 apply rfl))|(apply T.addI;apply rfl;apply rfl;omega;apply rfl)|(apply T.ixF;apply rfl;apply rfl;infer_instance;exact (fun _=>rfl);apply rfl;omega;omega;apply rfl)|(apply T.fieldAddrF;apply rfl;infer_instance;exact (fun _=>rfl);apply rfl;omega;apply rfl)|(apply T.loadF;apply rfl;apply rfl;infer_instance;exact (fun _=>rfl);apply rfl;exact Zf (by omega);apply rfl;apply rfl)|(apply T.loadFN;apply rfl;apply rfl;infer_instance;exact (fun _=>rfl);apply rfl;exact Zf (by omega);apply rfl)|(apply T.loadNat;apply rfl;infer_instance;(first|omega|(simp only [List.length_map];omega)|(simp;omega));apply rfl)|(apply T.not;apply rfl;apply rfl)|(apply T.pickT;(iterate 3 apply rfl))|(apply T.pickF;(iterate 3 apply rfl))|(apply T.convI64;apply rfl;omega;apply rfl)|(apply T.convU64;apply rfl;omega;apply rfl)|(apply T.sliceLK;apply rfl;apply rfl;omega;apply rfl)|(apply T.store;apply rfl;apply rfl;infer_instance;(first|decide|(simp;omega)|simp);apply rfl)|(with_reducible refine Sr.nil ?_)|(with_reducible refine S.seq ?_)|(with_reducible refine S.block ?_)|(with_reducible refine S.reg ?_)|(with_reducible refine S.skip ?_)|(with_reducible refine S.inBlock ?_)|(apply S.exit;apply rfl)|(apply S.quiet;apply rfl;kernel_rfl)|(apply T.ungV;apply rfl;(first|with_reducible rfl|decide))|(apply T.skip;apply rfl;(first|with_reducible rfl|decide);apply rfl)|(apply T.skipU;apply rfl;apply rfl)|(apply S.condTV;apply rfl;(first|with_reducible rfl|decide))|(apply S.condFV;apply rfl;(first|with_reducible rfl|decide))|(apply T.retW;apply rfl)|(apply T.doneW;apply rfl)|(with_reducible apply T.ofRet)|(apply S.condQ;apply rfl;intro _;rotate_left;intro _;exfalso;(first|omega|with_reducible contradiction))|(apply S.condQ;apply rfl;intro _;exfalso;(first|omega|with_reducible contradiction);intro _)|(apply T.gcase;apply rfl;apply rfl;intro _;rotate_left;intro _;exfalso;(first|omega|with_reducible contradiction))|(apply T.gcase;apply rfl;apply rfl;intro _;exfalso;(first|omega|with_reducible contradiction);intro _)|fail);exact k.h):P:=h ⟨k⟩
theorem Z1w {o:Value} {na:Option Addr} {nc l:Nat}:Meets Tryz.prog 95 [.pointer (some ⟨p,0,none⟩)] F M (.blk p (jrV t o (.slice na l nc) m a s k c b) 86::H) (fun e H'=>e=.returned (.tuple ⟨[]⟩)∧H'=.blk p (jrV t o (.slice na l nc) m a (if l=0 then 6 else 5) k c b) 86::H):=by
 refine Meets.enter Tryz.func95 rfl rfl ?_
 by_cases h:l=0
 ·rw [if_pos h]
  repeat' (first|refine Sg.Y8 ?_|(apply S.condQ;apply rfl;all_goals intro _)|fail)
  exact ⟨_,PSub.refl _,rfl,rfl⟩
 ·rw [if_neg h]
  repeat' (first|refine Sg.Y8 ?_|(apply S.condQ;apply rfl;all_goals intro _)|fail)
  exact ⟨_,PSub.refl _,rfl,rfl⟩
theorem _root_.Sg.Y9 {P R:Prop} (k:R) (h:Sg.Kp R→P:=by intro k;(first|(apply T.eqlP;apply rfl;apply rfl)|(apply T.eqlP0;apply rfl;apply rfl)|(apply T.neqP0;apply rfl;apply rfl)|(apply T.mv;apply rfl;apply rfl)|(apply T.asn;apply rfl;apply rfl)|(apply T.len;apply rfl;apply rfl)|(apply T.nilCheck;apply rfl;apply rfl)|(apply T.fieldAddrZ;apply rfl;apply rfl)|(apply T.load;apply rfl;apply rfl;infer_instance;apply rfl;apply rfl)|(apply T.lss;(iterate 3 apply rfl))|(apply T.gtr;(iterate 3 apply rfl))|(apply T.eql;(iterate 3 apply rfl))|(apply T.addI;apply rfl;apply rfl;omega;apply rfl)|(apply T.extract;(iterate 3 apply rfl))|(apply T.ixF;apply rfl;apply rfl;infer_instance;exact (fun _=>rfl);apply rfl;omega;omega;apply rfl)|(apply T.fieldAddrF;apply rfl;infer_instance;exact (fun _=>rfl);apply rfl;omega;apply rfl)|(apply T.loadF;apply rfl;apply rfl;infer_instance;exact (fun _=>rfl);apply rfl;exact Zf (by omega);apply rfl;apply rfl)|(apply T.notB;apply rfl;apply rfl)|(apply T.pickT;(iterate 3 apply rfl))|(apply T.pickF;(iterate 3 apply rfl))|(apply T.buildL;(iterate 3 apply rfl))|(apply T.storeW;apply rfl;apply rfl;infer_instance;(first|rfl|(simp only [List.length_append,List.length_map,List.length_set,List.length_replicate,List.length_cons,List.length_nil];first|done|omega));(first|rfl|(simp only [List.length_append,List.length_map,List.length_set,List.length_replicate,List.length_cons,List.length_nil];first|done|omega));(first|rfl|(repeat' first|apply all_nV|apply Z11|apply all_iV|rfl|apply all_app)))|(apply T.store;apply rfl;apply rfl;infer_instance;(first|decide|(simp;omega)|simp);apply rfl)|(with_reducible refine Sr.nil ?_)|(with_reducible refine S.seq ?_)|(with_reducible refine S.block ?_)|(with_reducible refine S.reg ?_)|(with_reducible refine S.skip ?_)|(with_reducible refine S.inBlock ?_)|(apply S.exit;apply rfl)|(apply T.ungV;apply rfl;(first|with_reducible rfl|decide))|(apply T.skip;apply rfl;(first|with_reducible rfl|decide);apply rfl)|(apply S.condTV;apply rfl;(first|with_reducible rfl|decide))|(apply S.condFV;apply rfl;(first|with_reducible rfl|decide))|(apply T.retW;apply rfl)|(apply T.doneW;apply rfl)|(with_reducible apply T.ofRet)|(apply T.retC;apply rfl;((repeat' first|apply RV.nil|(apply RV.tmp;apply rfl)|(apply RV.cellW;apply rfl;apply rfl;infer_instance;(first|rfl|(simp only [List.length_append,List.length_map,List.length_set,List.length_replicate,List.length_cons,List.length_nil];first|done|omega)))|(apply RV.cellP;apply rfl;apply rfl;infer_instance;apply rfl)));apply rfl)|(apply S.condT;apply rfl)|(apply S.condF;apply rfl)|fail);exact k.h):P:=h ⟨k⟩
theorem _root_.Sg.Y10 {P R:Prop} (k:R) (h:Sg.Kp R→P:=by intro k;(first|(apply T.ixN;apply rfl;apply rfl;infer_instance;omega;(first|omega|(simp only [List.length_map];omega)|(simp;omega));apply rfl)|(apply T.mv;apply rfl;apply rfl)|(apply T.asn;apply rfl;apply rfl)|(apply T.len;apply rfl;apply rfl)|(apply T.nilCheck;apply rfl;apply rfl)|(apply T.fieldAddrZ;apply rfl;apply rfl)|(apply T.load;apply rfl;apply rfl;infer_instance;apply rfl;apply rfl)|(apply T.addI;apply rfl;apply rfl;omega;apply rfl)|(apply T.ixF;apply rfl;apply rfl;infer_instance;exact (fun _=>rfl);apply rfl;omega;omega;apply rfl)|(apply T.fieldAddrF;apply rfl;infer_instance;exact (fun _=>rfl);apply rfl;omega;apply rfl)|(apply T.loadF;apply rfl;apply rfl;infer_instance;exact (fun _=>rfl);apply rfl;exact Zf (by omega);apply rfl;apply rfl)|(apply T.loadW;apply rfl;apply rfl;infer_instance;(first|rfl|(simp only [List.length_append,List.length_map,List.length_set,List.length_replicate,List.length_cons,List.length_nil];first|done|omega));apply rfl)|(apply T.store;apply rfl;apply rfl;infer_instance;(first|decide|(simp;omega)|simp);apply rfl)|(with_reducible refine Sr.nil ?_)|(with_reducible refine S.reg ?_)|(with_reducible refine S.inBlock ?_)|(apply T.retW;apply rfl)|(apply T.doneW;apply rfl)|(with_reducible apply T.diesW)|(with_reducible apply T.ofRet)|(with_reducible apply T.ofPan)|(apply SA.en;apply rfl;apply rfl;kernel_rfl)|fail);exact k.h):P:=h ⟨k⟩
theorem Z5t {oa na:Option Addr} {oc nc:Nat} {out:List Nd} {is:List Nat} {n:Nd} (hi:∀ i r,is=i::r→i < out.length) (hl:out.length≤1000000) (hs:is.length≤1000000) (hkid:∀ x∈out,0≤x.kids∧x.kids≤1000000) :
  Meets Tryz.prog 98 [.pointer (some ⟨p,0,none⟩),.agg ⟨ndV n⟩] F M (.blk p (jrV t (.slice oa out.length oc) (.slice na is.length nc) m a s k c b) 86::ouR oa oc out::opR na nc is::H)
   (fun e H'=>∃ oa' oc',e=.returned (.tuple ⟨[]⟩)∧H'=.blk p (jrV t (.slice oa' (Z03 out is++[n.named k]).length oc') (.slice na is.length nc) m a s [] c b) 86::ouR oa' oc' (Z03 out is++[n.named k])::opR na nc is::H):=by
 refine Meets.enter Tryz.func98 rfl rfl ?_
 cases is with
 | nil =>
  repeat' (first|(apply T.box;apply rfl;apply rfl;intro nb)|refine Sg.Y9 ?_|fail)
  (apply S.drawL;(case Hs=>exact [.blk nb ((ndV n).set 1 (sV k)) 34,.blk p ((jrV t (.slice oa out.length oc) (.slice na ([]:List Nat).length nc) m a s k c b).set 6 (.string ⟨#[]⟩)) 86]);(case es=>exact  [6,7,10]);(case lt=>exact  [10]);(case n=>exact  11);(case hn=>rfl))
  repeat' (first|(refine T.appendF (g:=ndV) (n.named k) rfl rfl rfl inferInstance (fun _=>rfl) rfl rfl rfl (by constructor<;>omega) rfl ?_;intro oa' oc')|(apply T.bsL;(iterate 5 apply rfl);intro nb)|(apply SA.qn;(iterate 4 apply rfl);kernel_rfl)|(apply SA.qz;(iterate 4 apply rfl);kernel_rfl)|(apply SA.qsn;(iterate 3 apply rfl);kernel_rfl;(first|exact fun _ h=>h|exact fun _ h=>St.psub h (by ((repeat (first|dsimp only [List.set_cons_zero]|dsimp only [List.set_cons_succ]));repeat' first|exact PSub.refl _|exact PSub.nil|(apply PSub.take;(repeat' first|(with_reducible exact Z0)|(with_reducible apply Z1)))|(with_reducible apply PSub.drop)|((apply PSub.take);(repeat' first|exact Z0|(apply Z1)))))))|(apply SA.done;apply rfl;kernel_rfl)|(apply SK.late;decide)|(apply SK.intro;(first|exact fun _ h=>h|exact fun _ h=>St.psub h (by ((repeat (first|dsimp only [List.set_cons_zero]|dsimp only [List.set_cons_succ]));repeat' first|exact PSub.refl _|exact PSub.nil|(apply PSub.take;(repeat' first|(with_reducible exact Z0)|(with_reducible apply Z1)))|(with_reducible apply PSub.drop)|((apply PSub.take);(repeat' first|exact Z0|(apply Z1)))))))|refine Sg.Y10 ?_|fail)
  have hL:(Z03 out []++[n.named k]).length=out.length+1:=by simp [Z03]
  dsimp only [ouR]
  rw [hL]
  exact ⟨_,PSub.drop (PSub.refl _),oa',oc',rfl,rfl⟩
 | cons i r =>
  have h1:=hi i r rfl
  have hlen:(i::r).length=r.length+1:=rfl
  have e1:(((i::r).length:Nat):Int) - 1=((r.length:Nat):Int):=by rw [hlen];omega
  have hbl:(out.modify i Nd.more).length=out.length:=List.length_modify ..
  have hkd:=hkid (out.getD i default) (by rw [List.getD_eq_getElem?_getD,List.getElem?_eq_getElem h1,Option.getD_some];exact List.getElem_mem h1)
  have hget:out[i]?=some (out.getD i default):=Zf h1
  have hset:out.set i (out.getD i default).more=out.modify i Nd.more:=(Z4X out i Nd.more h1).symm
  have htop:=Z6I inV i r
  have hupl:(upL inV (i::r)).length=r.length+1:=by rw [Z6J];rfl
  repeat' (first|(apply T.box;apply rfl;apply rfl;intro nb)|refine Sg.Y8 ?_|(apply S.condQ;apply rfl;all_goals intro _)|fail)
  (apply S.draw;(case Hs=>exact .blk nb ((ndV n).set 1 (sV k)) 34::opR na nc (i::r)::H);(case es=>exact  [22]);(case n=>exact  23);(case hn=>rfl))
  repeat' (first|(apply T.subI;apply rfl;apply rfl;omega;apply rfl;rw [e1])|(apply T.loadE;apply rfl;apply rfl;infer_instance;exact htop;apply rfl)|(refine T.storeF (g:=ndV) (out.getD i default).more rfl rfl inferInstance (fun _=>rfl) rfl hget rfl rfl ?_)|(apply SA.qn;(iterate 4 apply rfl);kernel_rfl)|(apply SA.done;apply rfl;kernel_rfl)|(apply SK.intro;(first|exact fun _ h=>h|exact fun _ h=>St.psub h (by ((repeat (first|dsimp only [List.set_cons_zero]|dsimp only [List.set_cons_succ]));repeat' first|exact PSub.refl _|exact PSub.nil|(apply PSub.take;(repeat' first|(with_reducible exact Z0)|(with_reducible apply Z1)))|(with_reducible apply PSub.drop)|((apply PSub.take);(repeat' first|exact Z0|(apply Z1)))))))|refine Sg.Y10 ?_|fail)
  rw [hset]
  have hb:Z03 out (i::r)=out.modify i Nd.more:=rfl
  have hL:(Z03 out (i::r)++[n.named k]).length=out.length+1:=by rw [List.length_append,hb,hbl];rfl
  dsimp only [ouR]
  rw [hL,hb]
  (apply S.drawL;(case Hs=>exact [.blk nb ((ndV n).set 1 (sV k)) 34,.blk p ((jrV t (.slice oa out.length oc) (.slice na (i::r).length nc) m a s k c b).set 6 (.string ⟨#[]⟩)) 86]);(case es=>exact  [6,7,10]);(case lt=>exact  [10]);(case n=>exact  11);(case hn=>rfl))
  repeat' (first|(refine T.appendF (g:=ndV) (n.named k) rfl rfl rfl inferInstance (fun _=>rfl) rfl rfl rfl (by constructor<;>omega) rfl ?_;intro oa' oc')|(apply T.bsL;(iterate 5 apply rfl);intro nb)|(apply SA.qn;(iterate 4 apply rfl);kernel_rfl)|(apply SA.qz;(iterate 4 apply rfl);kernel_rfl)|(apply SA.qsn;(iterate 3 apply rfl);kernel_rfl;(first|exact fun _ h=>h|exact fun _ h=>St.psub h (by ((repeat (first|dsimp only [List.set_cons_zero]|dsimp only [List.set_cons_succ]));repeat' first|exact PSub.refl _|exact PSub.nil|(apply PSub.take;(repeat' first|(with_reducible exact Z0)|(with_reducible apply Z1)))|(with_reducible apply PSub.drop)|((apply PSub.take);(repeat' first|exact Z0|(apply Z1)))))))|(apply SA.done;apply rfl;kernel_rfl)|(apply SK.late;decide)|(apply SK.intro;(first|exact fun _ h=>h|exact fun _ h=>St.psub h (by ((repeat (first|dsimp only [List.set_cons_zero]|dsimp only [List.set_cons_succ]));repeat' first|exact PSub.refl _|exact PSub.nil|(apply PSub.take;(repeat' first|(with_reducible exact Z0)|(with_reducible apply Z1)))|(with_reducible apply PSub.drop)|((apply PSub.take);(repeat' first|exact Z0|(apply Z1)))))))|refine Sg.Y10 ?_|fail)
  exact ⟨_,PSub.drop (PSub.refl _),oa',oc',rfl,rfl⟩
end
end Go.Proofs.YtophlopiigpbgaaGreatDoor
