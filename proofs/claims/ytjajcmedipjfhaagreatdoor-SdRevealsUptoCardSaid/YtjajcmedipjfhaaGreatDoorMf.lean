/- Texts put together by a program: JsnJ JsnL JsnN JsnO JsnV JsnW JsnX. -/
import Derived.Test.YtjajcmedipjfhaaGreatDoorMe
import Derived.Test.YtjajcmedipjfhaaGreatDoorMb
/- The walks of the program's reader of JSON: numbers put down. -/
namespace Go.Proofs.YtjajcmedipjfhaaGreatDoor
open Sg Go.IntWalk
set_option maxRecDepth 100000
set_option maxHeartbeats 4000000
section
variable {F:World} {M:List Nat} {H:List Res} {p:Nat} {t:List UInt8} {m:Value} {a s:Nat} {k:List UInt8} {c b:Int} {oa na:Option Addr} {oc nc:Nat} {out:List Nd} {is:List Nat}
def pmN (t:List UInt8) (q:Nat):Nat:=if bAt t q=45 then q+1 else q
theorem Zag (q:Nat):Z19 t q=if bAt t q=48 then .ok (q+1) () else Z07 t q:=by
 unfold Z19
 rw [ZO (by decide)]
 simp only [decide_eq_true_eq]
 rfl
theorem Z91 (q:Nat):Z0w t q=if bAt t q=46 then Z07 t (q+1) else .ok q ():=by
 unfold Z0w
 rw [ZO (by decide)]
 simp only [decide_eq_true_eq]
 rfl
theorem Z8Z (q:Nat):Z0n t q=if bAt t q=43∨bAt t q=45 then q+1 else q:=by
 unfold Z0n
 rw [ZO (by decide),ZO (by decide)]
 simp only [Bool.or_eq_true,decide_eq_true_eq]
 rfl
theorem Zah (q:Nat):Z1a t q=if bAt t q=101∨bAt t q=69 then Z07 t (Z0n t (q+1)) else .ok q ():=by
 unfold Z1a
 rw [ZO (by decide),ZO (by decide)]
 simp only [Bool.or_eq_true,decide_eq_true_eq]
 rfl
theorem ZcV (q:Nat):numX t q=(Z19 t (pmN t q)).bind fun a _=>(Z0w t a).bind fun b _=>Z1a t b:=by
 unfold numX pmN
 rw [ZO (by decide)]
 simp only [decide_eq_true_eq]
 rfl
def Zaf (t:List UInt8) (a a':Nat):Nd:={ nd 4 with text:=sl t a a',int:=(Z6 (sl t a a')).1,whole:=(Z6 (sl t a a')).2 }
theorem Z7k (ha:a < t.length) (hl:t.length≤262144) (hi:∀ i r,is=i::r→i < out.length) (hol:out.length≤1000000) (hs:is.length≤1000000) (hkid:∀ x∈out,0≤x.kids∧x.kids≤1000000) :
  Meets Tryz.prog 108 [.pointer (some ⟨p,0,none⟩)] F M (.blk p (jrV t (.slice oa out.length oc) (.slice na is.length nc) m a s k c b) 98::ouR oa oc out::opR na nc is::H)
   (match numX t a with
    | .ok a' _=>Zdj p t na nc m is out k c b H a' (Zaf t a a')
    | .bad c' b'=>Zb7 p t (ouR oa oc out::opR na nc is::H) c' b'):=by
 refine Meets.enter Tryz.func108 rfl rfl ?_
 have hX:=ZcV (t:=t) a
 have hfit:=Z2D (t:=t) (p:=a) (by omega)
 generalize numX t a=X at *
 refine S.seq ?_
 repeat' (first|refine Sg.Y2 ?_|fail)
 refine S.seq ?_
 repeat' (first|refine Sg.Y2 ?_|fail)
 refine S.seq ?_
 have hu:=fun q=>Z2k t q
 have h0:∀ q,bAt t q≠0→q < t.length:=fun q=>Zd
 refine S.cut (fun H' e'=>H'=.blk p (jrV t (.slice oa out.length oc) (.slice na is.length nc) m (pmN t a) s k c b) 98::ouR oa oc out::opR na nc is::H∧e'=[(0,.pointer (some ⟨p,0,none⟩)),(3,.int .i64 a)]) ?_ ?_
 ·intro k' hrest
  have hua:=hu a
  repeat' (first|refine Sg.Y1 ?_|fail)
  refine T.call rfl rfl ZV ?_
  rintro _ _ ⟨rfl,rfl⟩
  unfold pmN at hrest
  by_cases h1:bAt t a=45
  ·rw [if_pos h1] at hrest
   repeat' (first|refine Sg.Y7 ?_|(apply S.condQ;apply rfl;all_goals intro _)|fail)
   exact hrest _ _ _ ⟨rfl,rfl⟩ (by repeat' first|exact trivial|refine And.intro rfl ?_)
  ·rw [if_neg h1] at hrest
   repeat' (first|refine Sg.Y7 ?_|(apply S.condQ;apply rfl;all_goals intro _)|fail)
   exact hrest _ _ _ ⟨rfl,rfl⟩ (by repeat' first|exact trivial|refine And.intro rfl ?_)
 rintro _ _ ⟨rfl,rfl⟩
 have hpm:pmN t a≤t.length:=by
  unfold pmN
  split
  ·have:=h0 a (by omega);omega
  ·omega
 generalize pmN t a=q1 at *
 refine S.seq ?_
 refine S.cut (fun H' e'=>∃ q2,Z19 t q1=.ok q2 ()∧H'=.blk p (jrV t (.slice oa out.length oc) (.slice na is.length nc) m q2 s k c b) 98::ouR oa oc out::opR na nc is::H∧e'=[(0,.pointer (some ⟨p,0,none⟩)),(3,.int .i64 a)]∧q2≤t.length) ?_ ?_
 ·intro k' hrest
  have hua:=hu q1
  have hn:=Zag (t:=t) q1
  repeat' (first|refine Sg.Y1 ?_|fail)
  refine T.call rfl rfl ZV ?_
  rintro _ _ ⟨rfl,rfl⟩
  by_cases h1:bAt t q1=48
  ·rw [if_pos h1] at hn
   have:=h0 q1 (by omega)
   repeat' (first|refine Sg.Y7 ?_|(apply S.condQ;apply rfl;all_goals intro _)|fail)
   exact hrest _ _ _ ⟨q1+1,hn,rfl,rfl,by omega⟩ (by repeat' first|exact trivial|refine And.intro rfl ?_)
  ·rw [if_neg h1] at hn
   repeat' (first|refine Sg.Y3 ?_|(apply S.condQ;apply rfl;all_goals intro _)|fail)
   refine T.call rfl rfl (Z1u hpm (by omega)) ?_
   have hd:=ZR (t:=t) (p:=q1) hpm
   cases hx:Z07 t q1 with
   | ok q2 u =>
    rintro _ _ ⟨rfl,rfl⟩
    repeat' (first|refine Sg.Y2 ?_|fail)
    exact hrest _ _ _ ⟨q2,hn.trans hx,rfl,rfl,(hd q2 u hx).2⟩ (by repeat' first|exact trivial|refine And.intro rfl ?_)
   | bad e1 r1 =>
    rintro _ _ ⟨a1,rfl,rfl⟩
    rw [hn,hx] at hX
    subst hX
    repeat' (first|refine Sg.Y1 ?_|fail)
    exact ⟨_,PSub.refl _,_,_,_,_,_,_,rfl,rfl⟩
 rintro _ _ ⟨q2,hq2,rfl,rfl,hl2⟩
 rw [hq2] at hX
 refine S.seq ?_
 refine S.cut (fun H' e'=>∃ q3,Z0w t q2=.ok q3 ()∧H'=.blk p (jrV t (.slice oa out.length oc) (.slice na is.length nc) m q3 s k c b) 98::ouR oa oc out::opR na nc is::H∧e'=[(0,.pointer (some ⟨p,0,none⟩)),(3,.int .i64 a)]∧q3≤t.length) ?_ ?_
 ·intro k' hrest
  have hua:=hu q2
  have hn:=Z91 (t:=t) q2
  repeat' (first|refine Sg.Y1 ?_|fail)
  refine T.call rfl rfl ZV ?_
  rintro _ _ ⟨rfl,rfl⟩
  by_cases h1:bAt t q2=46
  ·rw [if_pos h1] at hn
   have h4:=h0 q2 (by omega)
   repeat' (first|refine Sg.Y3 ?_|(apply S.condQ;apply rfl;all_goals intro _)|fail)
   refine T.call rfl rfl (Z1u (a:=q2+1) (by omega) (by omega)) ?_
   have hd:=ZR (t:=t) (p:=q2+1) (by omega)
   cases hx:Z07 t (q2+1) with
   | ok q3 u =>
    rintro _ _ ⟨rfl,rfl⟩
    repeat' (first|refine Sg.Y2 ?_|fail)
    exact hrest _ _ _ ⟨q3,hn.trans hx,rfl,rfl,(hd q3 u hx).2⟩ (by repeat' first|exact trivial|refine And.intro rfl ?_)
   | bad e1 r1 =>
    rintro _ _ ⟨a1,rfl,rfl⟩
    simp only [Gt.bind] at hX
    rw [hn,hx] at hX
    simp only at hX
    subst hX
    repeat' (first|refine Sg.Y1 ?_|fail)
    exact ⟨_,PSub.refl _,_,_,_,_,_,_,rfl,rfl⟩
  ·rw [if_neg h1] at hn
   repeat' (first|refine Sg.Y7 ?_|(apply S.condQ;apply rfl;all_goals intro _)|fail)
   exact hrest _ _ _ ⟨q2,hn,rfl,rfl,hl2⟩ (by repeat' first|exact trivial|refine And.intro rfl ?_)
 rintro _ _ ⟨q3,hq3,rfl,rfl,hl3⟩
 simp only [Gt.bind] at hX
 rw [hq3] at hX
 simp only at hX
 refine S.seq ?_
 refine S.cut (fun H' e'=>∃ q4,Z1a t q3=.ok q4 ()∧H'=.blk p (jrV t (.slice oa out.length oc) (.slice na is.length nc) m q4 s k c b) 98::ouR oa oc out::opR na nc is::H∧e'=[(0,.pointer (some ⟨p,0,none⟩)),(3,.int .i64 a)]∧q4≤t.length) ?_ ?_
 ·intro k' hrest
  have hua:=hu q3
  have hub:=hu (q3+1)
  have hn:=Zah (t:=t) q3
  repeat' (first|refine Sg.Y1 ?_|fail)
  refine T.call rfl rfl ZV ?_
  rintro _ _ ⟨rfl,rfl⟩
  by_cases h1:bAt t q3=101∨bAt t q3=69
  ·rw [if_pos h1,Z8Z] at hn
   have h4:=h0 q3 (by omega)
   repeat' (first|refine Sg.Y3 ?_|(apply S.condQ;apply rfl;all_goals intro _)|(apply T.gcase;apply rfl;apply rfl;all_goals intro _)|fail)
   all_goals
    refine T.call rfl rfl (ZV (a:=q3+1)) ?_
    rintro _ _ ⟨rfl,rfl⟩
    by_cases h5:bAt t (q3+1)=43∨bAt t (q3+1)=45
    ·rw [if_pos h5] at hn
     have h6:=h0 (q3+1) (by omega)
     repeat' (first|refine Sg.Y3 ?_|(apply S.condQ;apply rfl;all_goals intro _)|(apply T.gcase;apply rfl;apply rfl;all_goals intro _)|fail)
     all_goals
      refine T.call rfl rfl (Z1u (a:=q3+1+1) (by omega) (by omega)) ?_
      have hd:=ZR (t:=t) (p:=q3+1+1) (by omega)
      cases hx:Z07 t (q3+1+1) with
      | ok q4 u =>
       rintro _ _ ⟨rfl,rfl⟩
       repeat' (first|refine Sg.Y2 ?_|fail)
       exact hrest _ _ _ ⟨q4,hn.trans hx,rfl,rfl,(hd q4 u hx).2⟩ (by repeat' first|exact trivial|refine And.intro rfl ?_)
      | bad e1 r1 =>
       rintro _ _ ⟨a1,rfl,rfl⟩
       rw [hn,hx] at hX
       subst hX
       repeat' (first|refine Sg.Y1 ?_|fail)
       exact ⟨_,PSub.refl _,_,_,_,_,_,_,rfl,rfl⟩
    ·rw [if_neg h5] at hn
     have h7:¬bAt t (q3+1)=43∧¬bAt t (q3+1)=45:=not_or.1 h5
     repeat' (first|refine Sg.Y3 ?_|(apply S.condQ;apply rfl;all_goals intro _)|(apply T.gcase;apply rfl;apply rfl;all_goals intro _)|fail)
     refine T.call rfl rfl (Z1u (a:=q3+1) (by omega) (by omega)) ?_
     have hd:=ZR (t:=t) (p:=q3+1) (by omega)
     cases hx:Z07 t (q3+1) with
     | ok q4 u =>
      rintro _ _ ⟨rfl,rfl⟩
      repeat' (first|refine Sg.Y2 ?_|fail)
      exact hrest _ _ _ ⟨q4,hn.trans hx,rfl,rfl,(hd q4 u hx).2⟩ (by repeat' first|exact trivial|refine And.intro rfl ?_)
     | bad e1 r1 =>
      rintro _ _ ⟨a1,rfl,rfl⟩
      rw [hn,hx] at hX
      subst hX
      repeat' (first|refine Sg.Y1 ?_|fail)
      exact ⟨_,PSub.refl _,_,_,_,_,_,_,rfl,rfl⟩
  ·rw [if_neg h1] at hn
   have h7:¬bAt t q3=101∧¬bAt t q3=69:=not_or.1 h1
   repeat' (first|refine Sg.Y3 ?_|(apply S.condQ;apply rfl;all_goals intro _)|(apply T.gcase;apply rfl;apply rfl;all_goals intro _)|fail)
   exact hrest _ _ _ ⟨q3,hn,rfl,rfl,hl3⟩ (by repeat' first|exact trivial|refine And.intro rfl ?_)
 rintro _ _ ⟨q4,hq4,rfl,rfl,hl4⟩
 rw [hq4] at hX
 subst hX
 obtain ⟨hf1,hf2⟩:=hfit q4 () rfl
 simp only
 have hsl:(sl t a q4).length≤262144:=by
  unfold sl
  rw [List.length_take,List.length_drop]
  omega
 refine S.seq ?_
 (apply S.draw;(case Hs=>exact .blk p (jrV t (.slice oa out.length oc) (.slice na is.length nc) m q4 s k c b) 98::ouR oa oc out::opR na nc is::H);(case es=>exact  [11,12]);(case n=>exact  13);(case hn=>rfl))
 repeat' (first|(apply T.alloc;apply rfl;intro nb)|(apply SA.qz;(iterate 4 apply rfl);kernel_rfl)|(apply SA.qsn;(iterate 3 apply rfl);kernel_rfl;(first|exact fun _ h=>h|exact fun _ h=>St.psub h (by ((repeat (first|dsimp only [List.set_cons_zero]|dsimp only [List.set_cons_succ]));repeat' first|exact PSub.refl _|exact PSub.nil|(apply PSub.take;(repeat' first|(with_reducible exact Z0)|(with_reducible apply Z1)))|(with_reducible apply PSub.drop)|((apply PSub.take);(repeat' first|exact Z0|(apply Z1)))))))|(apply SA.done;apply rfl;kernel_rfl)|(apply SK.intro;(first|exact fun _ h=>h|exact fun _ h=>St.psub h (by ((repeat (first|dsimp only [List.set_cons_zero]|dsimp only [List.set_cons_succ]));repeat' first|exact PSub.refl _|exact PSub.nil|(apply PSub.take;(repeat' first|(with_reducible exact Z0)|(with_reducible apply Z1)))|(with_reducible apply PSub.drop)|((apply PSub.take);(repeat' first|exact Z0|(apply Z1)))))))|refine Sg.Y1 ?_|fail)
 refine T.call rfl rfl (Z4v (t:=sl t a q4) (by omega)) ?_
 rintro _ _ ⟨rfl,hH⟩
 have hH2:=hH.symm
 subst hH2
 repeat' (first|refine Sg.Y1 ?_|fail)
 refine Sr.drop ?_
 refine T.call rfl rfl (Z3T (n:=Zaf t a q4) hi hol hs hkid) ?_
 rintro _ _ ⟨oa',oc',rfl,rfl⟩
 repeat' (first|refine Sg.Y1 ?_|fail)
 refine T.call rfl rfl Z1v ?_
 rintro _ _ ⟨rfl,rfl⟩
 repeat' (first|refine Sg.Y1 ?_|fail)
 exact ⟨_,PSub.refl _,oa',oc',rfl,rfl⟩
end
end Go.Proofs.YtjajcmedipjfhaaGreatDoor
/- The walks of the program's reader of JSON: its state and the plain machine's. -/
namespace Go.Proofs.YtjajcmedipjfhaaGreatDoor
open Sg Go.IntWalk
set_option maxRecDepth 100000
set_option maxHeartbeats 4000000
def OptR:Option (Nat × Ents)→Option (List (List UInt8))→Prop
 | none,none=>True
 | some y,some ns=>∀ x,eget y.2 x=if x∈ns then some 1 else none
 | _,_=>False
def StR:Stk→List (Nat × Option (List (List UInt8)))→Prop
 | [],[]=>True
 | x::r,z::q=>x.1=z.1∧OptR x.2 z.2∧StR r q
 | _,_=>False
structure Inv (t:List UInt8) (C:Jc):Prop where
 at_:C.a≤t.length
 outl:C.out.length≤C.a
 kids:∀ x∈C.out,0≤x.kids∧x.kids≤C.out.length
 idx:∀ x∈C.st,x.1 < C.out.length
 kind:∀ x∈C.st,(C.out.getD x.1 default).kind=if x.2.isSome=true then 7 else 6
 maps:∀ x∈C.st,∀ y,x.2=some y→y.2.length≤C.a
 dep:C.st.length≤32
structure Rel (C:Jc) (c:Cf):Prop where
 p:C.a=c.p
 s:C.s=c.s
 out:C.out=c.out
 key:C.k=c.key
 stk:StR C.st c.stk
theorem StR.len:∀ {a:Stk} {b:List (Nat × Option (List (List UInt8)))},StR a b→a.length=b.length
 | [],[],_=>rfl
 | _::_,_::_,h=>by rw [List.length_cons,List.length_cons,StR.len h.2.2]
 | [],_::_,h=>h.elim
 | _::_,[],h=>h.elim
theorem StR.fst:∀ {a:Stk} {b:List (Nat × Option (List (List UInt8)))},StR a b→a.map (·.1)=b.map (·.1)
 | [],[],_=>rfl
 | _::_,_::_,h=>by rw [List.map_cons,List.map_cons,h.1,StR.fst h.2.2]
 | [],_::_,h=>h.elim
 | _::_,[],h=>h.elim
theorem StR.beh {a:Stk} {b:List (Nat × Option (List (List UInt8)))} (h:StR a b):(if a.length=0 then 6 else 5)=behS b:=by
 cases a with
 | nil=>cases b with
  | nil=>rfl
  | cons _ _=>exact h.elim
 | cons _ _=>cases b with
  | nil=>exact h.elim
  | cons _ _=>rfl
theorem Z0h (H:List Res):∀ st:Stk,PSub H (ZC st H)
 | []=>PSub.refl _
 | (_,none)::r=>Z0h H r
 | (_,some _)::r=>PSub.drop (Z0h H r)
def StepP (p:Nat) (t:List UInt8) (H:List Res):Nx→Ending→List Res→Prop
 | .go c'=>fun e H'=>∃ C':Jc,e=.returned (.bool true)∧H'=C'.res p t H∧Rel C' c'∧Inv t C'
 | .stop code at_=>fun e H'=>∃ (o n m:Value) (a s:Nat) (k:List UInt8),e=.returned (.bool false)∧H'=.blk p (jrV t o n m a s k code at_) 98::H
theorem StepP.bool {p:Nat} {t:List UInt8} {H H':List Res} {r:Nx} {e:Ending} (h:StepP p t H r e H'):∃ v,e=.returned (.bool v):=by
 cases r with
 | go c' =>
  obtain ⟨C',h1,_⟩:=h
  exact ⟨_,h1⟩
 | stop c a =>
  obtain ⟨_,_,_,_,_,_,h1,_⟩:=h
  exact ⟨_,h1⟩
theorem Z9l {out:List Nd} {is:List Nat} {L:Nat} (h:∀ x∈out,0≤x.kids∧x.kids≤L):∀ x∈Z08 out is,0≤x.kids∧x.kids≤L+1:=by
 intro x hx
 cases is with
 | nil =>
  have:=h x hx
  omega
 | cons i r =>
  rcases Nat.lt_or_ge i out.length with hi|hi
  ·rw [Z08,Z4T out i Nd.more hi] at hx
   rcases List.mem_or_eq_of_mem_set hx with hx|rfl
   ·have:=h x hx
    omega
   ·have:=h (out.getD i default) (by rw [List.getD_eq_getElem?_getD,List.getElem?_eq_getElem hi,Option.getD_some];exact List.getElem_mem hi)
    show 0≤(out.getD i default).kids+1∧(out.getD i default).kids+1≤L+1
    omega
  ·have h1:Z08 out (i::r)=out:=by
    rw [Z08]
    exact List.modify_eq_self (by omega)
   rw [h1] at hx
   have:=h x hx
   omega
theorem Zav {out:List Nd} {is:List Nat} {n:Nd} {j:Nat} (h:j < out.length):((Z08 out is++[n]).getD j default).kind=(out.getD j default).kind:=by
 have h1:j < (Z08 out is).length:=by rw [Z2K];exact h
 rw [List.getD_eq_getElem?_getD,List.getElem?_append_left h1,←List.getD_eq_getElem?_getD]
 cases is with
 | nil=>rfl
 | cons i r =>
  rw [Z08]
  simp only [List.getD_eq_getElem?_getD,List.getElem?_modify]
  by_cases hij:i=j
  ·subst hij
   rw [List.getElem?_eq_getElem h]
   simp [Nd.more]
  ·cases out[j]?<;>simp [hij]
section
variable {F:World} {M:List Nat} {H:List Res} {p:Nat} {t:List UInt8} {C:Jc} {c:Cf}
theorem Inv.laid (hi:Inv t C) {n:Nd} (hn:n.kids=0) {a':Nat} (h1:C.a < a') (h2:a'≤t.length) {oa':Option Addr} {oc' s':Nat} {k':List UInt8} :
  Inv t { C with oa:=oa',oc:=oc',out:=Z08 C.out (C.st.map (·.1))++[n.named C.k],a:=a',s:=s',k:=k' } where
 at_:=h2
 outl:=by
  have:=hi.outl
  show (Z08 C.out (C.st.map (·.1))++[n.named C.k]).length≤a'
  rw [Z21]
  omega
 kids:=fun x hx=>by
  show 0≤x.kids∧x.kids≤((Z08 C.out (C.st.map (·.1))++[n.named C.k]).length:Nat)
  rw [Z21]
  rcases List.mem_append.1 hx with hx|hx
  ·exact Z9l hi.kids x hx
  ·rw [List.mem_singleton] at hx
   subst hx
   show 0≤n.kids∧n.kids≤_
   rw [hn]
   omega
 idx:=fun x hx=>by
  have:=hi.idx x hx
  show x.1 < (Z08 C.out (C.st.map (·.1))++[n.named C.k]).length
  rw [Z21]
  omega
 kind:=fun x hx=>(Zav (hi.idx x hx)).trans (hi.kind x hx)
 maps:=fun x hx y hy=>by
  have:=hi.maps x hx y hy
  show y.2.length≤a'
  omega
 dep:=hi.dep
theorem Z3U (hr:Rel C c) (hi:Inv t C) {n:Nd} (hn:n.kids=0) {a':Nat} (h1:C.a < a') (h2:a'≤t.length) {e:Ending} {H':List Res}
  (h:Zdj p t C.na C.nc (.slice C.ma C.st.length C.mc) (C.st.map (·.1)) C.out C.k 0 0 (nmR C.ma C.mc C.st::ZC C.st H) a' n e H'):StepP p t H (.go (Cf.behind (Cf.lay { c with p:=a' } n))) e H':=by
 obtain ⟨oa',oc',rfl,rfl⟩:=h
 refine ⟨{ C with oa:=oa',oc:=oc',out:=Z08 C.out (C.st.map (·.1))++[n.named C.k],a:=a',s:=if C.st.length=0 then 6 else 5,k:=[] },rfl,?_,⟨rfl,hr.stk.beh,?_,rfl,hr.stk⟩,hi.laid hn h1 h2⟩
 ·unfold Jc.res Jc.cells
  dsimp only [ouR,opR,opS]
  rw [Z21,List.length_map]
 ·show Z08 C.out (C.st.map (·.1))++[n.named C.k]=bump c.out c.stk++[n.named c.key]
  rw [ZaP,hr.out,hr.key,hr.stk.fst]
theorem Z51 {code:Int} {at_:Nat} {e:Ending} {H' H₀:List Res} (hp:PSub H H₀) (h:Zb7 p t H₀ code at_ e H') {w:World} (hw:St F M w H'):∃ H'',StepP p t H (.stop code at_) e H''∧St F M w H'':=by
 obtain ⟨o,n,m,a,s,k,rfl,rfl⟩:=h
 exact ⟨_,⟨o,n,m,a,s,k,rfl,rfl⟩,hw.psub (PSub.take Z0 hp)⟩
theorem Meets.of_st {P:Program} {g:FuncId} {args:List Value} {H:List Res} {post post':Ending→List Res→Prop} (h:Meets P g args F M H post) (hp:∀ e H' w,post e H'→St F M w H'→∃ H'',post' e H''∧St F M w H''):Meets P g args F M H post':=fun w hw =>
 (h w hw).mono fun e w' ⟨H',h1,h2⟩=>hp e H' w' h1 h2
theorem Z1J {w:List UInt8} {kd:Nat} (hw:∀ x∈w,x≠0) (hwl:w.length≤100) (h0:0 < w.length) (hr:Rel C c) (hi:Inv t C) (hl:t.length≤262144) :
  Meets Tryz.prog 109 [.pointer (some ⟨p,0,none⟩),sV w,.int .i64 kd] F M (C.res p t H) (StepP p t H (match (Z0t t c.p w).bind (fun a _=>Gt.ok a [nd kd]) with
   | .bad e a=>.stop e a
   | .ok a l=>.go (Cf.behind (Cf.lay { c with p:=a } (l.headD (nd 0)))))):=by
 have hk:∀ x∈C.out,0≤x.kids∧x.kids≤1000000:=fun x hx=>by
  have:=hi.kids x hx
  have:=hi.outl
  have:=hi.at_
  omega
 have ho:=hi.outl
 have ha:=hi.at_
 have hd:=hi.dep
 have hx:∀ i r,C.st.map (·.1)=i::r→i < C.out.length:=fun i r h=>by
  cases hs:C.st with
  | nil=>rw [hs] at h;cases h
  | cons x q =>
   rw [hs] at h
   simp only [List.map_cons,List.cons.injEq] at h
   have:=hi.idx x (by rw [hs];exact List.mem_cons_self ..)
   omega
 have h:=Z6v (F:=F) (M:=M) (p:=p) (t:=t) (H:=nmR C.ma C.mc C.st::ZC C.st H) (m:=.slice C.ma C.st.length C.mc) (a:=C.a) (s:=C.s) (k:=C.k) (c:=0) (b:=0) (oa:=C.oa) (na:=C.na) (oc:=C.oc) (nc:=C.nc) (out:=C.out) (is:=C.st.map (·.1)) (w:=w) (kd:=kd) hw hwl hi.at_ hl hx (by omega) (by rw [List.length_map];omega) hk
 have hfit:=Z15 (t:=t) (ws:=w) hi.at_
 rw [hr.p] at h hfit
 have hml:(C.st.map (·.1)).length=C.st.length:=List.length_map _
 cases hx:Z0t t c.p w with
 | ok a' u =>
  rw [hx] at h
  obtain ⟨f1,f2⟩:=hfit a' u hx
  refine (show Meets _ _ _ F M (C.res p t H) _ from ?_)
  have h':=h.mono (post':=StepP p t H (.go (Cf.behind (Cf.lay { c with p:=a' } (nd kd))))) (fun e H' hL=>Z3U hr hi rfl (by rw [hr.p];omega) f2 hL)
  unfold Jc.res Jc.cells
  dsimp only [opR,opS] at h' ⊢
  rw [hml,←hr.p] at h'
  exact h'
 | bad e1 q1 =>
  rw [hx] at h
  have h':=Meets.of_st (post':=StepP p t H (.stop e1 q1)) h (fun e H' w hF hw=>Z51 (PSub.drop (PSub.drop (PSub.drop (Z0h H C.st)))) hF hw)
  unfold Jc.res Jc.cells
  dsimp only [opR,opS] at h' ⊢
  rw [hml,←hr.p] at h'
  exact h'
end
end Go.Proofs.YtjajcmedipjfhaaGreatDoor
/- The walks of the program's reader of JSON: single steps. -/
namespace Go.Proofs.YtjajcmedipjfhaaGreatDoor
open Sg Go.IntWalk
set_option maxRecDepth 100000
set_option maxHeartbeats 4000000
section
variable {F:World} {M:List Nat} {H:List Res} {p:Nat} {t:List UInt8} {C:Jc} {c:Cf}
theorem Inv.kid2 (hi:Inv t C) (hl:t.length≤262144):∀ x∈C.out,0≤x.kids∧x.kids≤1000000:=fun x hx=>by
 have:=hi.kids x hx
 have:=hi.outl
 have:=hi.at_
 omega
theorem Inv.idx2 (hi:Inv t C):∀ i r,C.st.map (·.1)=i::r→i < C.out.length:=fun i r h=>by
 cases hs:C.st with
 | nil=>rw [hs] at h;cases h
 | cons x q =>
  rw [hs] at h
  simp only [List.map_cons,List.cons.injEq] at h
  have:=hi.idx x (by rw [hs];exact List.mem_cons_self ..)
  omega
theorem Z7j (ha:C.a < t.length) (hr:Rel C c) (hi:Inv t C) (hl:t.length≤262144) :
  Meets Tryz.prog 108 [.pointer (some ⟨p,0,none⟩)] F M (C.res p t H) (StepP p t H (match (numX t c.p).bind (fun a _=>Gt.ok a [Zaf t c.p a]) with
   | .bad e a=>.stop e a
   | .ok a l=>.go (Cf.behind (Cf.lay { c with p:=a } (l.headD (nd 0)))))):=by
 have ho:=hi.outl
 have hd:=hi.dep
 have h:=Z7k (F:=F) (M:=M) (p:=p) (t:=t) (H:=nmR C.ma C.mc C.st::ZC C.st H) (m:=.slice C.ma C.st.length C.mc) (a:=C.a) (s:=C.s) (k:=C.k) (c:=0) (b:=0) (oa:=C.oa) (na:=C.na) (oc:=C.oc) (nc:=C.nc) (out:=C.out) (is:=C.st.map (·.1)) ha hl hi.idx2 (by omega) (by rw [List.length_map];omega) (hi.kid2 hl)
 have hfit:=Z2D (t:=t) (p:=C.a) (by omega)
 rw [hr.p] at h hfit
 have hml:(C.st.map (·.1)).length=C.st.length:=List.length_map _
 cases hx:numX t c.p with
 | ok a' u =>
  rw [hx] at h
  obtain ⟨f1,f2⟩:=hfit a' u hx
  refine (show Meets _ _ _ F M (C.res p t H) _ from ?_)
  have h':=h.mono (post':=StepP p t H (.go (Cf.behind (Cf.lay { c with p:=a' } (Zaf t c.p a'))))) (fun e H' hL=>Z3U hr hi rfl (by rw [hr.p];omega) f2 hL)
  unfold Jc.res Jc.cells
  dsimp only [opR,opS] at h' ⊢
  rw [hml,←hr.p] at h'
  rw [←hr.p]
  exact h'
 | bad e1 q1 =>
  rw [hx] at h
  have h':=Meets.of_st (post':=StepP p t H (.stop e1 q1)) h (fun e H' w hF hw=>Z51 (PSub.drop (PSub.drop (PSub.drop (Z0h H C.st)))) hF hw)
  unfold Jc.res Jc.cells
  dsimp only [opR,opS] at h' ⊢
  rw [hml,←hr.p] at h'
  exact h'
theorem Z8s (ha:C.a < t.length) (hr:Rel C c) (hi:Inv t C) (hl:t.length≤262144) (hne:C.st≠[]) :
  Meets Tryz.prog 75 [.pointer (some ⟨p,0,none⟩)] F M (C.res p t H) (StepP p t H (.go (endC c))):=by
 obtain ⟨oa,oc,na,nc,ma,mc,out,st,a,s,k⟩:=C
 cases st with
 | nil=>exact absurd rfl hne
 | cons x r =>
  have hd:=hi.dep
  simp only [List.length_cons] at hd
  refine (ZbQ (F:=F) (M:=M) (p:=p) (t:=t) (H:=H) (o:=.slice oa out.length oc) (a:=a) (s:=s) (k:=k) (c:=0) (b:=0) (na:=na) (ma:=ma) (nc:=nc) (mc:=mc) (x:=x) (r:=r) (Ho:=ouR oa oc out) (by have:=hi.at_;simp only at this;omega) (by omega)).mono ?_
  rintro e H' ⟨rfl,rfl⟩
  have hst:=hr.stk
  obtain ⟨cp,cs,co,ck,ckey⟩:=c
  cases ck with
  | nil=>exact hst.elim
  | cons z q =>
   refine ⟨⟨oa,oc,na,nc,ma,mc,out,r,a+1,if r.length=0 then 6 else 5,k⟩,rfl,rfl,⟨?_,hst.2.2.beh,hr.out,hr.key,hst.2.2⟩,⟨?_,?_,hi.kids,fun y hy=>hi.idx y (List.mem_cons_of_mem _ hy),fun y hy=>hi.kind y (List.mem_cons_of_mem _ hy),fun y hy z hz=>?_,(show r.length≤32 by omega)⟩⟩
   ·have:=hr.p
    simp only at this
    subst this
    rfl
   ·simp only at ha ⊢
    omega
   ·have:=hi.outl
    simp only at this ⊢
    omega
   ·have:=hi.maps y (List.mem_cons_of_mem _ hy) z hz
    simp only at this ⊢
    omega
theorem Z9n {ch:UInt8} (hch:ch=91∨ch=123) (ha:C.a < t.length) (hr:Rel C c) (hi:Inv t C) (hl:t.length≤262144) :
  Meets Tryz.prog 105 [.pointer (some ⟨p,0,none⟩),.int .u8 (ch.toNat:Nat)] F M (C.res p t H) (StepP p t H (begC c ch)):=by
 obtain ⟨oa,oc,na,nc,ma,mc,out,st,a,s,k⟩:=C
 have hd:=hi.dep
 have ho:=hi.outl
 simp only at hd ho ha
 refine Meets.of_st (Z9o (F:=F) (M:=M) (p:=p) (t:=t) (H:=H) (a:=a) (s:=s) (k:=k) (c:=0) (b:=0) (oa:=oa) (pa:=na) (ma:=ma) (oc:=oc) (pc:=nc) (mc:=mc) (out:=out) (st:=st) (ch:=ch) (by rcases hch with rfl|rfl<;>decide) (by omega) hi.idx2 (by omega) (by omega) (hi.kid2 hl)) ?_
 intro e H' w hp hw
 have hlen:=hr.stk.len
 simp only at hlen
 unfold begC
 have h123:(ch=123)=(ch.toNat=123):=propext UInt8.toNat_inj.symm
 by_cases h32:st.length=32
 ·rw [if_pos h32] at hp
  obtain ⟨rfl,rfl⟩:=hp
  rw [if_pos (by omega)]
  have hcp:=hr.p
  simp only at hcp
  refine ⟨_,⟨.slice oa out.length oc,.slice na st.length nc,.slice ma st.length mc,a,s,k,rfl,rfl⟩,?_⟩
  rw [←hcp]
  exact hw.psub (PSub.take Z0 (PSub.drop (PSub.drop (PSub.drop (Z0h H st)))))
 ·rw [if_neg h32] at hp
  rw [if_neg (by omega)]
  obtain ⟨oa',oc',na',nc',ma',mc',y,rfl,hy,rfl⟩:=hp
  have hfst:=hr.stk.fst
  simp only at hfst
  have hb:bump c.out c.stk=Z08 out (st.map (·.1)):=by
   have:=hr.out
   simp only at this
   rw [ZaP,this,hfst]
  have hL:=Z21 out (st.map (·.1)) ((nd (if ch.toNat=123 then 7 else 6)).named k)
  refine ⟨_,⟨⟨oa',oc',na',nc',ma',mc',Z08 out (st.map (·.1))++[(nd (if ch.toNat=123 then 7 else 6)).named k],(out.length,y)::st,a+1,if ch.toNat=123 then 3 else 1,[]⟩,rfl,?_,?_,?_⟩,hw⟩
  ·unfold Jc.res Jc.cells
   simp only
   rw [hL]
   rfl
  ·have e1:=hr.p
   have e2:=hr.key
   simp only at e1 e2
   refine ⟨by rw [←e1],?_,?_,rfl,?_⟩
   ·simp only [h123]
   ·simp only [h123]
    rw [hb,e2]
   ·refine ⟨by rw [hb,Z2K],?_,hr.stk⟩
    simp only [h123]
    by_cases h7:ch.toNat=123
    ·rw [if_pos h7] at hy ⊢
     obtain ⟨mb,rfl⟩:=hy
     exact fun x=>rfl
    ·rw [if_neg h7] at hy ⊢
     subst hy
     trivial
  ·have hI:=hi.laid (n:=nd (if ch.toNat=123 then 7 else 6)) rfl (a':=a+1) (by simp only;omega) (by omega) (oa':=oa') (oc':=oc') (s':=if ch.toNat=123 then 3 else 1) (k':=[])
   refine ⟨hI.at_,hI.outl,hI.kids,?_,?_,?_,by simp only [List.length_cons];omega⟩
   ·intro x hx
    rcases List.mem_cons.1 hx with rfl|hx
    ·show out.length < _
     rw [hL]
     omega
    ·exact hI.idx x hx
   ·intro x hx
    rcases List.mem_cons.1 hx with rfl|hx
    ·show ((Z08 out (st.map (·.1))++[(nd (if ch.toNat=123 then 7 else 6)).named k]).getD out.length default).kind=_
     have:(Z08 out (st.map (·.1))).length=out.length:=Z2K ..
     rw [List.getD_eq_getElem?_getD,List.getElem?_append_right (by omega),this]
     simp only [Nat.sub_self,List.getElem?_cons_zero,Option.getD_some]
     by_cases h7:ch.toNat=123
     ·rw [if_pos h7] at hy ⊢
      obtain ⟨mb,rfl⟩:=hy
      rfl
     ·rw [if_neg h7] at hy ⊢
      subst hy
      rfl
    ·exact hI.kind x hx
   ·intro x hx z hz
    rcases List.mem_cons.1 hx with rfl|hx
    ·by_cases h7:ch.toNat=123
     ·rw [if_pos h7] at hy
      obtain ⟨mb,rfl⟩:=hy
      cases hz
      exact Nat.zero_le _
     ·rw [if_neg h7] at hy
      subst hy
      cases hz
    ·exact hI.maps x hx z hz
end
end Go.Proofs.YtjajcmedipjfhaaGreatDoor
/- The walks of the program's reader of JSON: values. -/
namespace Go.Proofs.YtjajcmedipjfhaaGreatDoor
open Sg Go.IntWalk
set_option maxRecDepth 100000
set_option maxHeartbeats 4000000
section
variable {F:World} {M:List Nat} {H:List Res} {p:Nat} {t:List UInt8} {C:Jc} {c:Cf}
theorem ZbF {n:Nd} {a':Nat} (hi:Inv t C) (hl:t.length≤262144) :
  Meets Tryz.prog 107 [.pointer (some ⟨p,0,none⟩),.agg ⟨ndV n⟩] F M (.blk p (jrV t (.slice C.oa C.out.length C.oc) (.slice C.na C.st.length C.nc) (.slice C.ma C.st.length C.mc) a' C.s C.k 0 0) 98::ouR C.oa C.oc C.out::opS C.na C.nc C.st::nmR C.ma C.mc C.st::ZC C.st H)
   (fun e H'=>∃ oa' oc',e=.returned (.tuple ⟨[]⟩)∧H'=.blk p (jrV t (.slice oa' (C.out.length+1) oc') (.slice C.na C.st.length C.nc) (.slice C.ma C.st.length C.mc) a' C.s [] 0 0) 98::ouR oa' oc' (Z08 C.out (C.st.map (·.1))++[n.named C.k])::opS C.na C.nc C.st::nmR C.ma C.mc C.st::ZC C.st H):=by
 have ho:=hi.outl
 have hat:=hi.at_
 have hd:=hi.dep
 have h:=Z3T (F:=F) (M:=M) (p:=p) (t:=t) (H:=nmR C.ma C.mc C.st::ZC C.st H) (m:=.slice C.ma C.st.length C.mc) (a:=a') (s:=C.s) (k:=C.k) (c:=0) (b:=0) (oa:=C.oa) (na:=C.na) (oc:=C.oc) (nc:=C.nc) (out:=C.out) (is:=C.st.map (·.1)) (n:=n) hi.idx2 (by omega) (by rw [List.length_map];omega) (hi.kid2 hl)
 have hml:(C.st.map (·.1)).length=C.st.length:=List.length_map _
 dsimp only [opR,opS] at h ⊢
 rw [hml] at h
 exact h
theorem Zd0 (hr:Rel C c) (hi:Inv t C) {n:Nd} (hn:n.kids=0) {a':Nat} (h1:C.a < a') (h2:a'≤t.length) (oa':Option Addr) (oc':Nat) :
  StepP p t H (.go (Cf.behind (Cf.lay { c with p:=a' } n))) (.returned (.bool true)) (.blk p (jrV t (.slice oa' (C.out.length+1) oc') (.slice C.na C.st.length C.nc) (.slice C.ma C.st.length C.mc) a' (if C.st.length=0 then 6 else 5) [] 0 0) 98::ouR oa' oc' (Z08 C.out (C.st.map (·.1))++[n.named C.k])::opS C.na C.nc C.st::nmR C.ma C.mc C.st::ZC C.st H):=by
 refine Z3U hr hi hn h1 h2 ⟨oa',oc',rfl,?_⟩
 dsimp only [opR,opS]
 rw [List.length_map]
theorem ZbL {q:Nat} {ch:UInt8} (h:ch.toNat=45∨48≤ch.toNat∧ch.toNat≤57):Z0m Z6 t q ch=(numX t q).bind fun a _=>.ok a [Zaf t q a]:=by
 have e1:∀ n:UInt8,(ch=n)↔(ch.toNat=n.toNat):=fun n=>UInt8.toNat_inj.symm
 have e3:(ZQ ch=true)↔(48≤ch.toNat∧ch.toNat≤57):=by
  unfold ZQ
  simp only [Bool.and_eq_true,decide_eq_true_eq]
  rfl
 have k1:¬ch=34:=fun hh=>by
  have:=(e1 34).1 hh
  have h34:(34:UInt8).toNat=34:=rfl
  omega
 unfold Z0m
 rw [if_neg k1,if_pos (by rw [e1,e3];exact h)]
 rfl
theorem ZbK {q:Nat} {ch:UInt8} (h:¬(ch.toNat=45∨48≤ch.toNat∧ch.toNat≤57)):Z0m Z6 t q ch=if ch.toNat=34 then (ZB t (q+1)).bind fun a s=>.ok a [{ nd 5 with text:=s }] else if ch.toNat=110 then (Z0t t q [110,117,108,108]).bind fun a _=>.ok a [nd 1] else
  if ch.toNat=102 then (Z0t t q [102,97,108,115,101]).bind fun a _=>.ok a [nd 2] else if ch.toNat=116 then (Z0t t q [116,114,117,101]).bind fun a _=>.ok a [nd 3] else .bad 31 q:=by
 have e1:∀ n:UInt8,(ch=n)↔(ch.toNat=n.toNat):=fun n=>UInt8.toNat_inj.symm
 have e3:(ZQ ch=true)↔(48≤ch.toNat∧ch.toNat≤57):=by
  unfold ZQ
  simp only [Bool.and_eq_true,decide_eq_true_eq]
  rfl
 unfold Z0m
 by_cases h34:ch.toNat=34
 ·rw [if_pos h34,if_pos ((e1 34).2 h34)]
 rw [if_neg h34,if_neg (fun hh=>h34 ((e1 34).1 hh)),if_neg (fun hh=>h (hh.imp (e1 45).1 e3.1))]
 by_cases h110:ch.toNat=110
 ·rw [if_pos h110,if_pos ((e1 110).2 h110)]
 rw [if_neg h110,if_neg (fun hh=>h110 ((e1 110).1 hh))]
 by_cases h102:ch.toNat=102
 ·rw [if_pos h102,if_pos ((e1 102).2 h102)]
 rw [if_neg h102,if_neg (fun hh=>h102 ((e1 102).1 hh))]
 by_cases h116:ch.toNat=116
 ·rw [if_pos h116,if_pos ((e1 116).2 h116)]
 rw [if_neg h116,if_neg (fun hh=>h116 ((e1 116).1 hh))]
theorem Z8H (hT:Tabs F M) {ch:UInt8} (ha:C.a < t.length) (hr:Rel C c) (hi:Inv t C) (hl:t.length≤262144) :
  Meets Tryz.prog 76 [.pointer (some ⟨p,0,none⟩),.int .u8 (ch.toNat:Nat)] F M (C.res p t H) (StepP p t H (valC Z6 t c ch)):=by
 have hu:=ch.toNat_lt
 have e1:∀ n:UInt8,(ch=n)↔(ch.toNat=n.toNat):=fun n=>UInt8.toNat_inj.symm
 have hval:valC Z6 t c ch=if ch.toNat=91∨ch.toNat=123 then begC c ch else (match Z0m Z6 t c.p ch with
  | .bad e a=>.stop e a
  | .ok a l=>.go (Cf.behind (Cf.lay { c with p:=a } (l.headD (nd 0))))):=by
  unfold valC
  by_cases hh:ch.toNat=91∨ch.toNat=123
  ·rw [if_pos hh,if_pos (by rw [e1,e1];exact hh)]
  ·rw [if_neg hh,if_neg (by rw [e1,e1];exact hh)]
   rfl
 rw [hval]
 refine Meets.enter Tryz.func76 rfl rfl ?_
 by_cases h91:ch.toNat=91∨ch.toNat=123
 ·rw [if_pos h91]
  have hb:=Z9n (F:=F) (M:=M) (p:=p) (H:=H) (ch:=ch) (by rw [e1,e1];exact h91) ha hr hi hl
  by_cases h9:ch.toNat=91
  ·repeat' (first|refine Sg.Y8 ?_|(apply T.gcase;apply rfl;apply rfl;all_goals intro _)|fail)
   refine T.call rfl rfl hb ?_
   intro e H' hS
   obtain ⟨v,rfl⟩:=hS.bool
   repeat' (first|refine Sg.Y10 ?_|fail)
   exact ⟨_,PSub.refl _,hS⟩
  ·have h12:ch.toNat=123:=h91.resolve_left h9
   repeat' (first|refine Sg.Y8 ?_|(apply S.condQ;apply rfl;all_goals intro _)|(apply T.gcase;apply rfl;apply rfl;all_goals intro _)|fail)
   refine T.call rfl rfl hb ?_
   intro e H' hS
   obtain ⟨v,rfl⟩:=hS.bool
   repeat' (first|refine Sg.Y10 ?_|fail)
   exact ⟨_,PSub.refl _,hS⟩
 rw [if_neg h91]
 have h9:¬ch.toNat=91:=fun h=>h91 (.inl h)
 have h12:¬ch.toNat=123:=fun h=>h91 (.inr h)
 clear h91 hval
 by_cases hnum:ch.toNat=45∨48≤ch.toNat∧ch.toNat≤57
 ·rw [ZbL hnum]
  have hb:=Z7j (F:=F) (M:=M) (p:=p) (H:=H) ha hr hi hl
  have h34:¬ch.toNat=34:=by omega
  by_cases h45:ch.toNat=45
  ·repeat' (first|refine Sg.Y8 ?_|(apply S.condQ;apply rfl;all_goals intro _)|(apply T.gcase;apply rfl;apply rfl;all_goals intro _)|fail)
   refine T.call rfl rfl hb ?_
   intro e H' hS
   obtain ⟨v,rfl⟩:=hS.bool
   repeat' (first|refine Sg.Y10 ?_|fail)
   exact ⟨_,PSub.refl _,hS⟩
  ·obtain ⟨h48,h57⟩:=hnum.resolve_left h45
   repeat' (first|refine Sg.Y8 ?_|(apply S.condQ;apply rfl;all_goals intro _)|(apply T.gcase;apply rfl;apply rfl;all_goals intro _)|fail)
   refine T.call rfl rfl hb ?_
   intro e H' hS
   obtain ⟨v,rfl⟩:=hS.bool
   repeat' (first|refine Sg.Y10 ?_|fail)
   exact ⟨_,PSub.refl _,hS⟩
 rw [ZbK hnum]
 have h45:¬ch.toNat=45:=fun h=>hnum (.inl h)
 by_cases h34:ch.toNat=34
 ·rw [if_pos h34]
  clear hnum
  unfold Jc.res Jc.cells
  repeat' (first|refine Sg.Y8 ?_|(apply S.condQ;apply rfl;all_goals intro _)|(apply T.gcase;apply rfl;apply rfl;all_goals intro _)|fail)
  refine T.call rfl rfl (Z3I hT (by exact ha) hl) ?_
  have hfit:=ZF (t:=t) (p:=C.a+1) (by omega)
  rw [hr.p] at hfit ⊢
  cases hx:ZB t (c.p+1) with
  | bad e1 q1 =>
   rintro _ _ ⟨a',rfl,rfl⟩
   repeat' (first|refine Sg.Y9 ?_|fail)
   exact ⟨_,PSub.take Z0 (PSub.drop (PSub.drop (PSub.drop (Z0h H C.st)))),_,_,_,_,_,_,rfl,rfl⟩
  | ok a' x =>
   obtain ⟨f1,f2⟩:=hfit a' x hx
   rintro _ _ ⟨rfl,rfl⟩
   repeat' (first|refine Sg.Y9 ?_|fail)
   refine T.call rfl rfl (ZbF (n:={ nd 5 with text:=x }) hi hl) ?_
   rintro _ _ ⟨oa',oc',rfl,rfl⟩
   repeat' (first|refine Sg.Y10 ?_|fail)
   refine T.call rfl rfl Z1v ?_
   rintro _ _ ⟨rfl,rfl⟩
   repeat' (first|refine Sg.Y9 ?_|fail)
   exact ⟨_,PSub.refl _,Zd0 hr hi rfl (by rw [hr.p];omega) f2 oa' oc'⟩
 rw [if_neg h34]
 have hlo:¬(48≤ch.toNat∧ch.toNat≤57):=fun h=>hnum (.inr h)
 clear hnum
 by_cases h110:ch.toNat=110
 ·rw [if_pos h110]
  have h57:¬ch.toNat≤57:=by omega
  have h48:48≤ch.toNat:=by omega
  have hb:=Z1J (F:=F) (M:=M) (p:=p) (H:=H) (w:=[110,117,108,108]) (kd:=1) (by decide) (by decide) (by decide) hr hi hl
  repeat' (first|refine Sg.Y8 ?_|(apply S.condQ;apply rfl;all_goals intro _)|(apply T.gcase;apply rfl;apply rfl;all_goals intro _)|fail)
  refine T.call rfl rfl hb ?_
  intro e H' hS
  obtain ⟨v,rfl⟩:=hS.bool
  repeat' (first|refine Sg.Y10 ?_|fail)
  exact ⟨_,PSub.refl _,hS⟩
 rw [if_neg h110]
 by_cases h102:ch.toNat=102
 ·rw [if_pos h102]
  have h57:¬ch.toNat≤57:=by omega
  have h48:48≤ch.toNat:=by omega
  have hb:=Z1J (F:=F) (M:=M) (p:=p) (H:=H) (w:=[102,97,108,115,101]) (kd:=2) (by decide) (by decide) (by decide) hr hi hl
  repeat' (first|refine Sg.Y8 ?_|(apply S.condQ;apply rfl;all_goals intro _)|(apply T.gcase;apply rfl;apply rfl;all_goals intro _)|fail)
  refine T.call rfl rfl hb ?_
  intro e H' hS
  obtain ⟨v,rfl⟩:=hS.bool
  repeat' (first|refine Sg.Y10 ?_|fail)
  exact ⟨_,PSub.refl _,hS⟩
 rw [if_neg h102]
 by_cases h116:ch.toNat=116
 ·rw [if_pos h116]
  have h57:¬ch.toNat≤57:=by omega
  have h48:48≤ch.toNat:=by omega
  have hb:=Z1J (F:=F) (M:=M) (p:=p) (H:=H) (w:=[116,114,117,101]) (kd:=3) (by decide) (by decide) (by decide) hr hi hl
  repeat' (first|refine Sg.Y8 ?_|(apply S.condQ;apply rfl;all_goals intro _)|(apply T.gcase;apply rfl;apply rfl;all_goals intro _)|fail)
  refine T.call rfl rfl hb ?_
  intro e H' hS
  obtain ⟨v,rfl⟩:=hS.bool
  repeat' (first|refine Sg.Y10 ?_|fail)
  exact ⟨_,PSub.refl _,hS⟩
 rw [if_neg h116]
 unfold Jc.res Jc.cells
 rw [hr.p]
 by_cases h48:48≤ch.toNat
 ·have h57:¬ch.toNat≤57:=by omega
  repeat' (first|refine Sg.Y8 ?_|(apply S.condQ;apply rfl;all_goals intro _)|(apply T.gcase;apply rfl;apply rfl;all_goals intro _)|fail)
  refine T.call rfl rfl ZG ?_
  rintro _ _ ⟨rfl,rfl⟩
  repeat' (first|refine Sg.Y10 ?_|fail)
  exact ⟨_,PSub.take Z0 (PSub.drop (PSub.drop (PSub.drop (Z0h H C.st)))),_,_,_,_,_,_,rfl,rfl⟩
 ·repeat' (first|refine Sg.Y8 ?_|(apply S.condQ;apply rfl;all_goals intro _)|(apply T.gcase;apply rfl;apply rfl;all_goals intro _)|fail)
  refine T.call rfl rfl ZG ?_
  rintro _ _ ⟨rfl,rfl⟩
  repeat' (first|refine Sg.Y10 ?_|fail)
  exact ⟨_,PSub.take Z0 (PSub.drop (PSub.drop (PSub.drop (Z0h H C.st)))),_,_,_,_,_,_,rfl,rfl⟩
end
end Go.Proofs.YtjajcmedipjfhaaGreatDoor
/- The walks of the program's reader of JSON: names. -/
namespace Go.Proofs.YtjajcmedipjfhaaGreatDoor
open Sg Go.IntWalk
set_option maxRecDepth 100000
set_option maxHeartbeats 4000000
section
variable {F:World} {M:List Nat} {H:List Res} {p:Nat} {t:List UInt8} {C:Jc} {c:Cf}
theorem Z2C {t:List UInt8}:∀ {f q a:Nat} {acc x:List UInt8},q≤t.length→Z0c t f q acc=.ok a x→x.length+4*q≤acc.length+4*a
 | 0,q,a,acc,x,_,h=>by rw [Z0c] at h;cases h
 | f+1,q,a,acc,x,hq,h=>by
  rcases Nat.lt_or_ge q t.length with h6|h6
  ·have hc:t[q]?=some (t.getD q 0):=by simp [List.getD,h6]
   rw [Z3K hc] at h
   split at h
   ·cases h
   ·split at h
    ·cases h
     omega
    ·split at h
     ·cases hx:escX t q with
      | bad e1 q1=>rw [hx] at h;cases h
      | ok a1 u =>
       rw [hx] at h
       have hf:=Z1h (t:=t) (fr:=q) a1 u hx
       have:=Z2C (q:=a1) (by omega) h
       have:=Z5g u
       rw [List.length_append] at *
       omega
     ·split at h
      ·have:=Z2C (q:=q+1) (by omega) h
       rw [List.length_append] at this
       simp only [List.length_cons,List.length_nil] at this
       omega
      ·cases hx:Z0G t q (t.getD q 0) with
       | bad e1 q1=>rw [hx] at h;cases h
       | ok a1 u =>
        rw [hx] at h
        have hf:=Z0K (t:=t) (p:=q) (c:=t.getD q 0) h6 a1 u hx
        have:=Z2C (q:=a1) (by omega) h
        rw [List.length_append,List.length_take] at this
        omega
  ·rw [Z0c,List.getElem?_eq_none h6] at h
   cases h
theorem Zal {o n:Value} {a s:Nat} {k:List UInt8} {c b:Int} {Ho Hn:Res} {ma:Option Addr} {mc i mb:Nat} {m:Ents} {r:Stk} (hT:Tabs F M) (ha:a < t.length) (hl:t.length≤262144) (hs:r.length≤1000000) (hm:m.length≤1000000) :
  Meets Tryz.prog 78 [.pointer (some ⟨p,0,none⟩)] F M (.blk p (jrV t o n (.slice ma (r.length+1) mc) a s k c b) 98::Ho::Hn::nmR ma mc ((i,some (mb,m))::r)::mpR mb m::H)
   (match ZB t (a+1) with
    | .bad c1 q1=>fun e H'=>∃ a':Nat,e=.returned (.bool false)∧H'=.blk p (jrV t o n (.slice ma (r.length+1) mc) a' s k c1 q1) 98::Ho::Hn::nmR ma mc ((i,some (mb,m))::r)::mpR mb m::H
    | .ok a' x=>if 0 < (eget m x).getD 0 then fun e H'=>e=.returned (.bool false)∧H'=.blk p (jrV t o n (.slice ma (r.length+1) mc) a' s k 34 a) 98::Ho::Hn::nmR ma mc ((i,some (mb,m))::r)::mpR mb m::H
     else fun e H'=>e=.returned (.bool true)∧H'=.blk p (jrV t o n (.slice ma (r.length+1) mc) a' 4 x c b) 98::Ho::Hn::nmR ma mc ((i,some (mb,m))::r)::mpR mb (eput m x 1)::H):=by
 have e1:(((r.length+1:Nat)):Int) - 1=((r.length:Nat):Int):=by omega
 have htop:=Z6V mpV (i,some (mb,m)) r
 have hupl:(upL mpV ((i,some (mb,m))::r)).length=r.length+1:=by rw [Z6W];rfl
 refine Meets.enter Tryz.func78 rfl rfl ?_
 repeat' (first|refine Sg.Y1 ?_|fail)
 refine T.call rfl rfl (Z3I hT ha hl) ?_
 have hfit:=ZF (t:=t) (p:=a+1) (by omega)
 have hlen:=fun a' x=>Z2C (t:=t) (f:=t.length+1 - (a+1)) (q:=a+1) (a:=a') (x:=x) (acc:=[]) (by omega)
 cases hx:ZB t (a+1) with
 | bad c1 q1 =>
  rintro _ _ ⟨a',rfl,rfl⟩
  repeat' (first|refine Sg.Y1 ?_|fail)
  exact ⟨_,PSub.refl _,a',rfl,rfl⟩
 | ok a' x =>
  obtain ⟨f1,f2⟩:=hfit a' x hx
  have hxl:x.length≤maxLen:=by
   have:=hlen a' x hx
   simp only [List.length_nil,maxLen] at this ⊢
   omega
  have hml:m.length < maxLen:=by simp only [maxLen];omega
  rintro _ _ ⟨rfl,rfl⟩
  simp only
  by_cases hg:0 < (eget m x).getD 0
  ·rw [if_pos hg]
   repeat' (first|(apply T.subI;apply rfl;apply rfl;omega;apply rfl;rw [e1])|(apply T.loadE;apply rfl;apply rfl;infer_instance;exact htop;apply rfl)|refine Sg.Y3 ?_|(apply S.condQ;apply rfl;all_goals intro _)|fail)
   refine T.call rfl rfl ZX ?_
   rintro _ _ ⟨rfl,rfl⟩
   repeat' (first|refine Sg.Y2 ?_|fail)
   exact ⟨_,PSub.refl _,rfl,rfl⟩
  ·rw [if_neg hg]
   repeat' (first|(apply T.subI;apply rfl;apply rfl;omega;apply rfl;rw [e1])|(apply T.loadE;apply rfl;apply rfl;infer_instance;exact htop;apply rfl)|refine Sg.Y3 ?_|(apply S.condQ;apply rfl;all_goals intro _)|fail)
   refine Sr.front mb ?_
   refine T.mapPutT rfl rfl rfl hxl hml rfl ?_
   refine Sr.front p ?_
   repeat' (first|refine Sg.Y1 ?_|fail)
   exact ⟨_,PSub.take Z0 (PSub.take (Z1 Z0) (PSub.take (Z1 Z0) (PSub.take (Z1 Z0) (PSub.take Z0 (PSub.refl _))))),rfl,rfl⟩
end
end Go.Proofs.YtjajcmedipjfhaaGreatDoor
/- The walks of the program's reader of JSON: names and what stands behind an item, as steps. -/
namespace Go.Proofs.YtjajcmedipjfhaaGreatDoor
open Sg Go.IntWalk
set_option maxRecDepth 100000
set_option maxHeartbeats 4000000
section
variable {F:World} {M:List Nat} {H:List Res} {p:Nat} {t:List UInt8} {C:Jc} {c:Cf}
theorem Zak (hT:Tabs F M) {i:Nat} {y:Nat × Ents} {r:Stk} (ha:C.a < t.length) (hr:Rel C c) (hi:Inv t C) (hl:t.length≤262144) (hst:C.st=(i,some y)::r) :
  Meets Tryz.prog 78 [.pointer (some ⟨p,0,none⟩)] F M (C.res p t H) (StepP p t H (namC t c 34)):=by
 obtain ⟨oa,oc,na,nc,ma,mc,out,st,a,s,k⟩:=C
 obtain ⟨mb,m⟩:=y
 simp only at hst
 subst hst
 have hs:=hr.stk
 obtain ⟨cp,cs,co,ck,ckey⟩:=c
 cases ck with
 | nil=>exact hs.elim
 | cons z q =>
  obtain ⟨zi,zo⟩:=z
  cases zo with
  | none=>exact hs.2.1.elim
  | some ns =>
   have hcp:=hr.p
   have hout:=hr.out
   simp only at hcp ha hout
   subst hcp
   subst hout
   have hns:∀ x,eget m x=if x∈ns then some 1 else none:=hs.2.1
   have hd:=hi.dep
   simp only [List.length_cons] at hd
   have hmm:=hi.maps (i,some (mb,m)) (List.mem_cons_self ..) _ rfl
   simp only at hmm
   have hat:=hi.at_
   have hol:=hi.outl
   simp only at hat hol
   have h:=Zal (F:=F) (M:=M) (H:=ZC r H) (p:=p) (t:=t) (o:=.slice oa out.length oc) (n:=.slice na (r.length+1) nc) (a:=a) (s:=s) (k:=k) (c:=0) (b:=0) (Ho:=ouR oa oc out) (Hn:=opS na nc ((i,some (mb,m))::r)) (ma:=ma) (mc:=mc) (i:=i) (mb:=mb) (m:=m) (r:=r) hT ha hl (by omega) (by omega)
   have hsub:PSub H (ouR oa oc out::opS na nc ((i,some (mb,m))::r)::nmR ma mc ((i,some (mb,m))::r)::mpR mb m::ZC r H):=PSub.drop (PSub.drop (PSub.drop (PSub.drop (Z0h H r))))
   unfold namC
   rw [if_pos rfl]
   refine Meets.of_st h ?_
   clear h
   have hfit:=ZF (t:=t) (p:=a+1) (by omega)
   cases hx:ZB t (a+1) with
   | bad c1 q1 =>
    rintro e H' w ⟨a',rfl,rfl⟩ hw
    exact ⟨_,⟨_,.slice na (r.length+1) nc,.slice ma (r.length+1) mc,a',s,k,rfl,rfl⟩,hw.psub (PSub.take Z0 hsub)⟩
   | ok a' x =>
    obtain ⟨f1,f2⟩:=hfit a' x hx
    simp only
    by_cases hxn:x∈ns
    ·have hg:0 < (eget m x).getD 0:=by rw [hns,if_pos hxn];decide
     rw [if_pos hg,if_pos hxn]
     rintro e H' w ⟨rfl,rfl⟩ hw
     exact ⟨_,⟨_,.slice na (r.length+1) nc,.slice ma (r.length+1) mc,a',s,k,rfl,rfl⟩,hw.psub (PSub.take Z0 hsub)⟩
    ·have hg:¬0 < (eget m x).getD 0:=by rw [hns,if_neg hxn];decide
     rw [if_neg hg,if_neg hxn]
     rintro e H' w ⟨rfl,rfl⟩ hw
     refine ⟨_,⟨⟨oa,oc,na,nc,ma,mc,out,(i,some (mb,eput m x 1))::r,a',4,x⟩,rfl,rfl,⟨rfl,rfl,rfl,rfl,hs.1,?_,hs.2.2⟩,⟨f2,?_,hi.kids,?_,?_,?_,hi.dep⟩⟩,hw⟩
     ·intro x'
      rw [Z1t]
      by_cases hxx:x=x'
      ·rw [if_pos hxx,if_pos (by rw [hxx];exact List.mem_cons_self ..)]
      ·rw [if_neg hxx,hns]
       by_cases hm:x'∈ns
       ·rw [if_pos hm,if_pos (List.mem_cons_of_mem _ hm)]
       ·rw [if_neg hm,if_neg (by rw [List.mem_cons];exact fun hh=>hh.elim (fun e=>hxx e.symm) hm)]
     ·show out.length≤a'
      omega
     ·intro z hz
      rcases List.mem_cons.1 hz with rfl|hz
      ·exact hi.idx (i,some (mb,m)) (List.mem_cons_self ..)
      ·exact hi.idx z (List.mem_cons_of_mem _ hz)
     ·intro z hz
      rcases List.mem_cons.1 hz with rfl|hz
      ·exact hi.kind (i,some (mb,m)) (List.mem_cons_self ..)
      ·exact hi.kind z (List.mem_cons_of_mem _ hz)
     ·intro z hz y hy
      rcases List.mem_cons.1 hz with rfl|hz
      ·cases hy
       have:=Z0R m x 1
       show (eput m x 1).length≤a'
       omega
      ·have:=hi.maps z (List.mem_cons_of_mem _ hz) y hy
       simp only at this
       show y.2.length≤a'
       omega
theorem Z9J (hr:Rel C c) (hi:Inv t C) (ha:C.a < t.length) (s':Nat):StepP p t H (.go { c with p:=c.p+1,s:=s' }) (.returned (.bool true)) (({ C with a:=C.a+1,s:=s' }:Jc).res p t H):=by
 refine ⟨_,rfl,rfl,⟨?_,rfl,hr.out,hr.key,hr.stk⟩,⟨?_,?_,hi.kids,hi.idx,hi.kind,fun z hz y hy=>?_,hi.dep⟩⟩
 ·show C.a+1=c.p+1
  rw [hr.p]
 ·show C.a+1≤t.length
  omega
 ·have:=hi.outl
  show C.out.length≤C.a+1
  omega
 ·have:=hi.maps z hz y hy
  show y.2.length≤C.a+1
  omega
theorem Z8d (hr:Rel C c):∀ {e:Ending} {H':List Res},(e=.returned (.bool false)∧H'=.blk p (C.cells t 31 C.a) 98::ouR C.oa C.oc C.out::opS C.na C.nc C.st::nmR C.ma C.mc C.st::ZC C.st H)→∃ H'',PSub H'' H'∧StepP p t H (.stop 31 c.p) e H'':=by
 rintro _ _ ⟨rfl,rfl⟩
 refine ⟨_,PSub.take Z0 (PSub.drop (PSub.drop (PSub.drop (Z0h H C.st)))),.slice C.oa C.out.length C.oc,.slice C.na C.st.length C.nc,.slice C.ma C.st.length C.mc,C.a,C.s,C.k,rfl,?_⟩
 rw [←hr.p]
 rfl
theorem Zan {ch:UInt8} {x:Nat × Option (Nat × Ents)} {r:Stk} (ha:C.a < t.length) (hr:Rel C c) (hi:Inv t C) (hl:t.length≤262144) (hst:C.st=x::r) :
  Meets Tryz.prog 79 [.pointer (some ⟨p,0,none⟩),.int .u8 (ch.toNat:Nat)] F M (C.res p t H) (StepP p t H (morC c ch)):=by
 have hu:=ch.toNat_lt
 have e1:∀ n:UInt8,(ch=n)↔(ch.toNat=n.toNat):=fun n=>UInt8.toNat_inj.symm
 have hend:=Z8s (F:=F) (M:=M) (p:=p) (H:=H) ha hr hi hl (by rw [hst];exact List.cons_ne_nil _ _)
 have hon:=fun s'=>Z9J (p:=p) (H:=H) hr hi ha s'
 have hodd:=fun e H'=>Z8d (p:=p) (t:=t) (H:=H) hr (e:=e) (H':=H')
 have hat:=hi.at_
 have hol:=hi.outl
 have hd:=hi.dep
 have hix:=hi.idx x (by rw [hst];exact List.mem_cons_self ..)
 have hkk:=hi.kind x (by rw [hst];exact List.mem_cons_self ..)
 have hlen:C.st.length=r.length+1:=by rw [hst];rfl
 have htop:(upL inV (C.st.map (·.1)))[r.length]?=some (inV x.1):=by
  rw [hst]
  have:=Z6V inV x.1 (r.map (·.1))
  rw [List.length_map] at this
  exact this
 have hupl:(upL inV (C.st.map (·.1))).length=C.st.length:=by rw [Z6W,List.length_map]
 have hobj:Z1x c.stk=x.2.isSome:=by
  have hs:=hr.stk
  rw [hst] at hs
  cases hck:c.stk with
  | nil=>rw [hck] at hs;exact hs.elim
  | cons z q =>
   rw [hck] at hs
   obtain ⟨zi,zo⟩:=z
   obtain ⟨xi,xo⟩:=x
   cases zo<;>cases xo
   ·rfl
   ·exact hs.2.1.elim
   ·exact hs.2.1.elim
   ·rfl
 have hget:C.out[x.1]?=some (C.out.getD x.1 default):=Zb hix
 have e2:((C.st.length:Nat):Int) - 1=((r.length:Nat):Int):=by omega
 have key:∀ (obj:Bool),x.2.isSome=obj→Meets Tryz.prog 79 [.pointer (some ⟨p,0,none⟩),.int .u8 (ch.toNat:Nat)] F M (C.res p t H) (StepP p t H (if ch.toNat=44 then .go { c with p:=c.p+1,s:=if obj then 2 else 0 } else if ch.toNat=(if obj then 125 else 93) then .go (endC c) else .stop 31 c.p)):=by
  intro obj ho
  rw [ho] at hkk
  refine Meets.enter Tryz.func79 rfl rfl ?_
  have hen2:=hend
  unfold Jc.res Jc.cells at hon ⊢
  unfold Jc.cells at hodd
  unfold Jc.res Jc.cells at hen2
  cases obj with
  | true =>
   simp only [if_true] at hkk ⊢
   by_cases h44:ch.toNat=44
   ·rw [if_pos h44]
    repeat' (first|(apply T.subI;apply rfl;apply rfl;omega;apply rfl;rw [e2])|(apply T.loadE;apply rfl;apply rfl;infer_instance;exact htop;apply rfl)|refine Sg.Y8 ?_|(apply S.condQ;apply rfl;all_goals intro _)|(apply T.gcase;apply rfl;apply rfl;all_goals intro _)|fail)
    exact ⟨_,PSub.refl _,hon 2⟩
   ·rw [if_neg h44]
    by_cases h125:ch.toNat=125
    ·rw [if_pos h125]
     repeat' (first|(apply T.subI;apply rfl;apply rfl;omega;apply rfl;rw [e2])|(apply T.loadE;apply rfl;apply rfl;infer_instance;exact htop;apply rfl)|refine Sg.Y8 ?_|(apply S.condQ;apply rfl;all_goals intro _)|(apply T.gcase;apply rfl;apply rfl;all_goals intro _)|fail)
     refine T.call rfl rfl hen2 ?_
     intro e H' hS
     obtain ⟨v,rfl⟩:=hS.bool
     repeat' (first|refine Sg.Y10 ?_|fail)
     exact ⟨_,PSub.refl _,hS⟩
    ·rw [if_neg h125]
     repeat' (first|(apply T.subI;apply rfl;apply rfl;omega;apply rfl;rw [e2])|(apply T.loadE;apply rfl;apply rfl;infer_instance;exact htop;apply rfl)|refine Sg.Y8 ?_|(apply S.condQ;apply rfl;all_goals intro _)|(apply T.gcase;apply rfl;apply rfl;all_goals intro _)|fail)
     all_goals
      refine T.call rfl rfl ZG ?_
      rintro _ _ ⟨rfl,rfl⟩
      repeat' (first|refine Sg.Y10 ?_|fail)
      exact hodd _ _ ⟨rfl,rfl⟩
  | false =>
   simp only [if_false,Bool.false_eq_true] at hkk ⊢
   have hk7:¬(C.out.getD x.1 default).kind=7:=by omega
   by_cases h44:ch.toNat=44
   ·rw [if_pos h44]
    repeat' (first|(apply T.subI;apply rfl;apply rfl;omega;apply rfl;rw [e2])|(apply T.loadE;apply rfl;apply rfl;infer_instance;exact htop;apply rfl)|refine Sg.Y8 ?_|(apply S.condQ;apply rfl;all_goals intro _)|(apply T.gcase;apply rfl;apply rfl;all_goals intro _)|fail)
    exact ⟨_,PSub.refl _,hon 0⟩
   ·rw [if_neg h44]
    by_cases h93:ch.toNat=93
    ·rw [if_pos h93]
     repeat' (first|(apply T.subI;apply rfl;apply rfl;omega;apply rfl;rw [e2])|(apply T.loadE;apply rfl;apply rfl;infer_instance;exact htop;apply rfl)|refine Sg.Y8 ?_|(apply S.condQ;apply rfl;all_goals intro _)|(apply T.gcase;apply rfl;apply rfl;all_goals intro _)|fail)
     refine T.call rfl rfl hen2 ?_
     intro e H' hS
     obtain ⟨v,rfl⟩:=hS.bool
     repeat' (first|refine Sg.Y10 ?_|fail)
     exact ⟨_,PSub.refl _,hS⟩
    ·rw [if_neg h93]
     repeat' (first|(apply T.subI;apply rfl;apply rfl;omega;apply rfl;rw [e2])|(apply T.loadE;apply rfl;apply rfl;infer_instance;exact htop;apply rfl)|refine Sg.Y8 ?_|(apply S.condQ;apply rfl;all_goals intro _)|(apply T.gcase;apply rfl;apply rfl;all_goals intro _)|fail)
     all_goals
      refine T.call rfl rfl ZG ?_
      rintro _ _ ⟨rfl,rfl⟩
      repeat' (first|refine Sg.Y10 ?_|fail)
      exact hodd _ _ ⟨rfl,rfl⟩
 have hmc:morC c ch=if ch.toNat=44 then .go { c with p:=c.p+1,s:=if x.2.isSome then 2 else 0 } else if ch.toNat=(if x.2.isSome then 125 else 93) then .go (endC c) else .stop 31 c.p:=by
  unfold morC
  rw [hobj]
  by_cases h44:ch.toNat=44
  ·rw [if_pos h44,if_pos ((e1 44).2 h44)]
  ·rw [if_neg h44,if_neg (fun hh=>h44 ((e1 44).1 hh))]
   cases x.2.isSome with
   | true =>
    simp only [if_true]
    by_cases h:ch.toNat=125
    ·rw [if_pos h,if_pos ((e1 125).2 h)]
    ·rw [if_neg h,if_neg (fun hh=>h ((e1 125).1 hh))]
   | false =>
    simp only [if_false,Bool.false_eq_true]
    by_cases h:ch.toNat=93
    ·rw [if_pos h,if_pos ((e1 93).2 h)]
    ·rw [if_neg h,if_neg (fun hh=>h ((e1 93).1 hh))]
 rw [hmc]
 exact key _ rfl
end
end Go.Proofs.YtjajcmedipjfhaaGreatDoor
/- The walks of the program's reader of JSON: a step. -/
namespace Sg
structure GoodC (c:Cf):Prop where
 one:c.s=1∨c.s=3∨c.s=5→c.stk≠[]
 top:c.s=2∨c.s=3→Z1x c.stk=true
 le:c.s≤6
section
variable {wh:List UInt8→Int × Bool} {t:List UInt8} {c c':Cf} {ch:UInt8}
theorem GoodC.behind (c:Cf):GoodC c.behind:=by
 unfold Cf.behind
 cases h:c.stk with
 | nil=>exact ⟨fun h=>by simp only [behS] at h;omega,fun h=>by simp only [behS] at h;omega,Nat.le_refl _⟩
 | cons a r=>exact ⟨fun _=>List.cons_ne_nil _ _,fun h=>by simp only [behS] at h;omega,(by decide:5≤6)⟩
theorem Zdf (h:begC c ch=.go c'):GoodC c'∧c'.p=c.p+1:=by
 unfold begC at h
 split at h
 ·cases h
 ·cases h
  refine ⟨⟨fun _=>List.cons_ne_nil _ _,fun h=>?_,?_⟩,rfl⟩
  ·by_cases h1:ch=123
   ·simp only [h1,if_true]
    rfl
   ·simp only [h1,if_false] at h
    omega
  ·show (if ch=123 then 3 else 1)≤6
   split<;>decide
theorem Z9C (hp:c.p < t.length) (h:valC wh t c ch=.go c'):GoodC c'∧c.p < c'.p:=by
 unfold valC at h
 split at h
 ·have:=Zdf h
  exact ⟨this.1,by omega⟩
 ·have hfit:=Z1f (wh:=wh) (c:=ch) hp
  cases hx:Z0m wh t c.p ch with
  | bad e a=>rw [hx] at h;cases h
  | ok a l =>
   rw [hx] at h
   cases h
   have:=hfit a l hx
   exact ⟨GoodC.behind _,show c.p < a by omega⟩
theorem Zam (hp:c.p < t.length) (h:namC t c ch=.go c'):GoodC c'∧c.p < c'.p:=by
 unfold namC at h
 split at h
 ·have hfit:=ZF (t:=t) (p:=c.p+1) (by omega)
  cases hx:ZB t (c.p+1) with
  | bad e a=>rw [hx] at h;cases h
  | ok a s =>
   rw [hx] at h
   simp only at h
   have:=hfit a s hx
   split at h
   ·split at h
    ·cases h
    ·cases h
     exact ⟨⟨fun h=>by simp only at h;omega,fun h=>by simp only at h;omega,(by decide:4≤6)⟩,show c.p < a by omega⟩
   ·cases h
 ·cases h
theorem Z5K:GoodC (endC c)∧c.p < (endC c).p:=⟨GoodC.behind _,Nat.lt_succ_self _⟩
theorem Zbd (hp:c.p < t.length) (h:Z2l wh t c ch=.go c'):GoodC c'∧c.p < c'.p:=by
 unfold Z2l at h
 split at h
 ·exact Z9C hp h
 ·split at h
  ·cases h
   exact Z5K
  ·exact Z9C hp h
 ·exact Zam hp h
 ·split at h
  ·cases h
   exact Z5K
  ·exact Zam hp h
 ·split at h
  ·cases h
   exact ⟨⟨fun h=>by simp only at h;omega,fun h=>by simp only at h;omega,(by decide:0≤6)⟩,Nat.lt_succ_self _⟩
  ·cases h
 ·unfold morC at h
  by_cases hb:Z1x c.stk=true
  ·simp only [hb,if_true] at h
   split at h
   ·cases h
    exact ⟨⟨fun h=>by simp only at h;omega,fun _=>hb,(by decide:2≤6)⟩,Nat.lt_succ_self _⟩
   ·split at h
    ·cases h
     exact Z5K
    ·cases h
  ·have hbf:Z1x c.stk=false:=by simpa using hb
   by_cases h44:ch=44
   ·rw [if_pos h44] at h
    cases h
    exact ⟨⟨fun h=>by simp [hbf] at h,fun h=>by simp [hbf] at h,by simp [hbf]⟩,Nat.lt_succ_self _⟩
   ·rw [if_neg h44,hbf] at h
    by_cases h93:ch=93
    ·rw [if_pos (by simpa using h93)] at h
     cases h
     exact Z5K
    ·rw [if_neg (by simpa using h93)] at h
     cases h
 ·cases h
theorem Z6p {f:Nat}:mach wh t f { c with p:=Z3 t c.p }=mach wh t f c:=by
 cases f with
 | zero=>rfl
 | succ f=>simp only [mach,Zq]
end
end Sg
namespace Go.Proofs.YtjajcmedipjfhaaGreatDoor
open Sg Go.IntWalk
set_option maxRecDepth 100000
set_option maxHeartbeats 4000000
section
variable {F:World} {M:List Nat} {H:List Res} {p:Nat} {t:List UInt8} {C:Jc} {c:Cf}
theorem Zcv (hr:Rel C c) (h:Z1x c.stk=true):∃ i y r,C.st=(i,some y)::r:=by
 have hs:=hr.stk
 cases hck:c.stk with
 | nil=>rw [hck] at h;cases h
 | cons z q =>
  rw [hck] at hs h
  obtain ⟨zi,zo⟩:=z
  cases hC:C.st with
  | nil=>rw [hC] at hs;exact hs.elim
  | cons x r =>
   rw [hC] at hs
   obtain ⟨xi,xo⟩:=x
   cases zo with
   | none=>cases h
   | some ns=>cases xo with
    | none=>exact hs.2.1.elim
    | some y=>exact ⟨xi,y,r,rfl⟩
theorem Zdn (hr:Rel C c) (h:c.stk≠[]):C.st≠[]:=fun e=>by
 have:=hr.stk.len
 rw [e] at this
 exact h (List.length_eq_zero_iff.1 this.symm)
theorem Z9I (hT:Tabs F M) {ch:UInt8} (ha:C.a < t.length) (hr:Rel C c) (hi:Inv t C) (hg:GoodC c) (hl:t.length≤262144) (hch:t[c.p]?=some ch) :
  Meets Tryz.prog 44 [.pointer (some ⟨p,0,none⟩)] F M (C.res p t H) (StepP p t H (Z2l Z6 t c ch)):=by
 have hu:=ch.toNat_lt
 have e1:∀ n:UInt8,(ch=n)↔(ch.toNat=n.toNat):=fun n=>UInt8.toNat_inj.symm
 have hb:bAt t C.a=ch.toNat:=by rw [hr.p];exact Z2j hch
 have hsC:=hr.s
 have hval:=Z8H (F:=F) (M:=M) (p:=p) (H:=H) (ch:=ch) hT ha hr hi hl
 have hend:=fun hn=>Z8s (F:=F) (M:=M) (p:=p) (H:=H) ha hr hi hl (Zdn hr hn)
 have hon:=fun s'=>Z9J (p:=p) (H:=H) hr hi ha s'
 have hodd:=fun e H'=>Z8d (p:=p) (t:=t) (H:=H) hr (e:=e) (H':=H')
 have hnam:Z1x c.stk=true→Meets Tryz.prog 78 [.pointer (some ⟨p,0,none⟩)] F M (C.res p t H) (StepP p t H (namC t c 34)):=fun h=>by
  obtain ⟨i,y,r,hst⟩:=Zcv hr h
  exact Zak hT ha hr hi hl hst
 have hmor:c.stk≠[]→Meets Tryz.prog 79 [.pointer (some ⟨p,0,none⟩),.int .u8 (ch.toNat:Nat)] F M (C.res p t H) (StepP p t H (morC c ch)):=fun h=>by
  cases hst:C.st with
  | nil=>exact absurd hst (Zdn hr h)
  | cons x r=>exact Zan ha hr hi hl hst
 unfold Jc.res Jc.cells at hval hend hon hnam hmor ⊢
 unfold Jc.cells at hodd
 refine Meets.enter Tryz.func44 rfl rfl ?_
 repeat' (first|refine Sg.Y9 ?_|fail)
 refine T.call rfl rfl ZV ?_
 rintro _ _ ⟨rfl,rfl⟩
 rw [hb]
 have hle:=hg.le
 unfold Z2l
 rcases (by omega:c.s=0∨c.s=1∨c.s=2∨c.s=3∨c.s=4∨c.s=5∨c.s=6) with h0|h0|h0|h0|h0|h0|h0
 ·rw [h0] at hsC ⊢
  repeat' (first|refine Sg.Y8 ?_|(apply S.condQ;apply rfl;all_goals intro _)|fail)
  refine T.call rfl rfl hval ?_
  intro e H' hS
  obtain ⟨v,rfl⟩:=hS.bool
  repeat' (first|refine Sg.Y10 ?_|fail)
  exact ⟨_,PSub.refl _,hS⟩
 ·have hE:=hend (hg.one (.inl h0))
  rw [h0] at hsC ⊢
  by_cases h1:ch.toNat=93
  ·simp only [(e1 93).2 h1,if_true]
   repeat' (first|refine Sg.Y8 ?_|(apply S.condQ;apply rfl;all_goals intro _)|fail)
   refine T.call rfl rfl hE ?_
   intro e H' hS
   obtain ⟨v,rfl⟩:=hS.bool
   repeat' (first|refine Sg.Y10 ?_|fail)
   exact ⟨_,PSub.refl _,hS⟩
  ·simp only [show ¬ch=93 from fun hh=>h1 ((e1 93).1 hh),if_false]
   repeat' (first|refine Sg.Y8 ?_|(apply S.condQ;apply rfl;all_goals intro _)|fail)
   refine T.call rfl rfl hval ?_
   intro e H' hS
   obtain ⟨v,rfl⟩:=hS.bool
   repeat' (first|refine Sg.Y10 ?_|fail)
   exact ⟨_,PSub.refl _,hS⟩
 ·have hN:=hnam (hg.top (.inl h0))
  rw [h0] at hsC ⊢
  by_cases h1:ch.toNat=34
  ·obtain rfl:ch=34:=(e1 34).2 h1
   repeat' (first|refine Sg.Y8 ?_|(apply S.condQ;apply rfl;all_goals intro _)|fail)
   refine T.call rfl rfl hN ?_
   intro e H' hS
   obtain ⟨v,rfl⟩:=hS.bool
   repeat' (first|refine Sg.Y10 ?_|fail)
   exact ⟨_,PSub.refl _,hS⟩
  ·have hn:namC t c ch=.stop 31 c.p:=by
    unfold namC
    rw [if_neg (fun hh=>h1 ((e1 34).1 hh))]
   simp only [hn]
   repeat' (first|refine Sg.Y8 ?_|(apply S.condQ;apply rfl;all_goals intro _)|fail)
   refine T.call rfl rfl ZG ?_
   rintro _ _ ⟨rfl,rfl⟩
   repeat' (first|refine Sg.Y10 ?_|fail)
   exact hodd _ _ ⟨rfl,rfl⟩
 ·have hE:=hend (hg.one (.inr (.inl h0)))
  have hN:=hnam (hg.top (.inr h0))
  rw [h0] at hsC ⊢
  by_cases h2:ch.toNat=125
  ·simp only [(e1 125).2 h2,if_true]
   repeat' (first|refine Sg.Y8 ?_|(apply S.condQ;apply rfl;all_goals intro _)|fail)
   refine T.call rfl rfl hE ?_
   intro e H' hS
   obtain ⟨v,rfl⟩:=hS.bool
   repeat' (first|refine Sg.Y10 ?_|fail)
   exact ⟨_,PSub.refl _,hS⟩
  ·simp only [show ¬ch=125 from fun hh=>h2 ((e1 125).1 hh),if_false]
   by_cases h1:ch.toNat=34
   ·obtain rfl:ch=34:=(e1 34).2 h1
    repeat' (first|refine Sg.Y8 ?_|(apply S.condQ;apply rfl;all_goals intro _)|fail)
    refine T.call rfl rfl hN ?_
    intro e H' hS
    obtain ⟨v,rfl⟩:=hS.bool
    repeat' (first|refine Sg.Y10 ?_|fail)
    exact ⟨_,PSub.refl _,hS⟩
   ·have hn:namC t c ch=.stop 31 c.p:=by
     unfold namC
     rw [if_neg (fun hh=>h1 ((e1 34).1 hh))]
    simp only [hn]
    repeat' (first|refine Sg.Y8 ?_|(apply S.condQ;apply rfl;all_goals intro _)|fail)
    refine T.call rfl rfl ZG ?_
    rintro _ _ ⟨rfl,rfl⟩
    repeat' (first|refine Sg.Y10 ?_|fail)
    exact hodd _ _ ⟨rfl,rfl⟩
 ·rw [h0] at hsC ⊢
  by_cases h1:ch.toNat=58
  ·simp only [(e1 58).2 h1,if_true]
   have hat:=hi.at_
   repeat' (first|refine Sg.Y8 ?_|(apply S.condQ;apply rfl;all_goals intro _)|fail)
   exact ⟨_,PSub.refl _,hon 0⟩
  ·simp only [show ¬ch=58 from fun hh=>h1 ((e1 58).1 hh),if_false]
   repeat' (first|refine Sg.Y8 ?_|(apply S.condQ;apply rfl;all_goals intro _)|fail)
   refine T.call rfl rfl ZG ?_
   rintro _ _ ⟨rfl,rfl⟩
   repeat' (first|refine Sg.Y10 ?_|fail)
   exact hodd _ _ ⟨rfl,rfl⟩
 ·have hM:=hmor (hg.one (.inr (.inr h0)))
  rw [h0] at hsC ⊢
  repeat' (first|refine Sg.Y8 ?_|(apply S.condQ;apply rfl;all_goals intro _)|fail)
  refine T.call rfl rfl hM ?_
  intro e H' hS
  obtain ⟨v,rfl⟩:=hS.bool
  repeat' (first|refine Sg.Y10 ?_|fail)
  exact ⟨_,PSub.refl _,hS⟩
 ·rw [h0] at hsC ⊢
  repeat' (first|refine Sg.Y8 ?_|(apply S.condQ;apply rfl;all_goals intro _)|fail)
  refine T.call rfl rfl ZG ?_
  rintro _ _ ⟨rfl,rfl⟩
  repeat' (first|refine Sg.Y10 ?_|fail)
  exact hodd _ _ ⟨rfl,rfl⟩
end
end Go.Proofs.YtjajcmedipjfhaaGreatDoor
