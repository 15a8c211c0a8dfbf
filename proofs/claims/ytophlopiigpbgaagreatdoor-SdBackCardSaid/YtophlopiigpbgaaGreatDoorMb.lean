/- Texts put together by a program: RevQ JsnU JsnQ DecP RevE ShpP SplP SerP Mark MoreB MoreC ShaP Word B64P B64D RevG. -/
import Derived.Test.YtophlopiigpbgaaGreatDoorMa
import Derived.Lib.DecodeNEq
import Derived.Lib.ValidU
import Derived.Test.YtophlopiigpbgaaGreatDoorRecs
import Derived.Laws.CopyRow
import Derived.Lib.Bytealg
set_option linter.unusedVariables false
set_option linter.unusedSimpArgs false
/- The value at a place of a row of nodes, by itself. -/
namespace Sg
def Z8 (v:List Nd) (q:Nat):List Nd:=Zz v q::(kidsOf v q).flatten
theorem At.val {v r:List Nd} {p:Nat} {n:Nd} {xs:List (List Nd)} (h:At v p n xs r):Z8 v p=n::xs.flatten:=by rw [Z8,h.node,h.kidsOf]
theorem Z7y {v x r:List Nd} {p:Nat} (h:v.drop p=x++r) (hx:Fo 1 x):Z8 v p=x:=by
 obtain ⟨n,xs,rfl,h2⟩:=At.of_fo h hx
 exact h2.val
theorem Z1a {v:List Nd} {q:Nat} (h:IsAt v q):∃ r,v.drop q=Z8 v q++r:=by
 obtain ⟨r,h⟩:=h
 exact ⟨r,by rw [h.drop,Z8,List.cons_append]⟩
theorem Z0T {v:List Nd} {q:Nat} (h:IsAt v q):Fo 1 (Z8 v q):=by
 obtain ⟨r,h⟩:=h
 exact Fo.one (m:=(kidsOf v q).length) h.kids (Fo.of h.fo)
theorem ZS (v:List Nd) (q:Nat):Z3 (Z8 v q)=Zz v q:=rfl
theorem Z0n {x:List Nd} {n:Nd} {xs:List (List Nd)} (hx:x=n::xs.flatten) (hk:n.kids=(xs.length:Int)) (hf:∀ y∈xs,Fo 1 y):kidsOf x 0=xs:=by
 have h:At x 0 n xs []:=⟨by rw [List.drop_zero,hx];simp,hk,hf⟩
 exact h.kidsOf
theorem Zh {v:List Nd} {q:Nat} (h:IsAt v q):kidsOf (Z8 v q) 0=kidsOf v q:=by
 obtain ⟨r,h⟩:=h
 exact Z0n rfl h.kids h.fo
theorem Z19 {v:List Nd} {q i:Nat} (h:IsAt v q) (hi:i < (kidsOf v q).length):Z8 v ((offs (q+1) (kidsOf v q)).getD i 0)=(kidsOf v q)[i]:=by
 obtain ⟨r,h⟩:=h
 have h1:=h.kid hi
 rw [Z2I hi]
 exact Z7y h1 (h.fo _ (List.getElem_mem hi))
theorem ZV {v:List Nd} (h:Fo 1 v):Z8 v 0=v:=Z7y (r:=[]) (by simp) h
theorem Z9l {v:List Nd} {q:Nat} (h:IsAt v q):∀ n∈Z8 v q,n∈v:=by
 obtain ⟨r,h⟩:=Z1a h
 exact fun n hn=>List.mem_of_mem_drop (i:=q) (by rw [h];exact List.mem_append_left _ hn)
theorem Z5K {v:List Nd} {q:Nat} (h:IsAt v q):(Z8 v q).length≤v.length:=by
 obtain ⟨r,h⟩:=Z1a h
 have:=congrArg List.length h
 rw [List.length_drop,List.length_append] at this
 omega
theorem Z4Y (key:List UInt8):∀ (p:Nat) (xs:List (List Nd)),(Z5p p xs key = -1∧xs.find? (fun y=>(Z3 y).key==key)=none)∨∃ i,∃ h:i < xs.length,Z5p p xs key=(((offs p xs).getD i 0:Nat):Int)∧xs.find? (fun y=>(Z3 y).key==key)=some xs[i]
 | _,[]=>.inl ⟨rfl,rfl⟩
 | p,x::r=>by
  rw [Z4Z]
  by_cases h:(Z3 x).key=key
  ·rw [if_pos h]
   exact .inr ⟨0,by simp,by simp [offs],by simp [List.find?_cons,h]⟩
  ·rw [if_neg h]
   have hf:(x::r).find? (fun y=>(Z3 y).key==key)=r.find? (fun y=>(Z3 y).key==key):=by
    rw [List.find?_cons_of_neg]
    simpa using h
   rw [hf]
   rcases Z4Y key (p+x.length) r with ⟨h1,h2⟩|⟨i,hi,h1,h2⟩
   ·exact .inl ⟨h1,h2⟩
   ·exact .inr ⟨i+1,by simpa using hi,by rw [h1,Z9T,List.getD_cons_succ],by simpa using h2⟩
theorem Z28 {v:List Nd} {q:Nat} (h:IsAt v q) (key:List UInt8):(memI v q key = -1∧memV (Z8 v q) key=none)∨∃ q':Nat,memI v q key=(q':Int)∧IsAt v q'∧memV (Z8 v q) key=some (Z8 v q'):=by
 unfold memI memV
 rw [ZS,Zh h]
 by_cases hk:(Zz v q).kind=7
 ·rw [if_pos hk,if_pos hk]
  rcases Z4Y key (q+1) (kidsOf v q) with ⟨h1,h2⟩|⟨i,hi,h1,h2⟩
  ·exact .inl ⟨h1,h2⟩
  ·refine .inr ⟨_,h1,?_,?_⟩
   ·obtain ⟨r,h⟩:=h
    rw [Z2I hi]
    exact h.kidIs hi
   ·rw [h2,Z19 h hi]
 ·rw [if_neg hk,if_neg hk]
  exact .inl ⟨rfl,rfl⟩
section
variable {val:RevV} {L:List Said} {met:List Dg} {ys r:List (List Nd)} {x k:List Nd} {n1 n2:Nd}
theorem Z53 (h1:Z3 x=n1) (hm:memV x ZJ=some k) (h2:Z3 k=n2) (h:¬(n1.kids=1∧n2.kind=5)):Zu val L met ys (x::r)=none:=by
 subst h1 h2
 rw [Zu,hm]
 simp only
 rw [if_neg h]
theorem Z4b (h1:Z3 x=n1) (hm:memV x ZJ=some k) (h2:Z3 k=n2) (h:n1.kids=1∧n2.kind=5) (hs:Z0y L n2.text=none):Zu val L met ys (x::r)=Zu val L (met++[n2.text]) ys r:=by
 subst h1 h2
 rw [Zu,hm]
 simp only
 rw [if_pos h,hs]
theorem Z5v {s:Said} (h1:Z3 x=n1) (hm:memV x ZJ=some k) (h2:Z3 k=n2) (h:n1.kids=1∧n2.kind=5) (hs:Z0y L n2.text=some s) (hb:s.member=true):Zu val L met ys (x::r)=none:=by
 subst h1 h2
 rw [Zu,hm]
 simp only
 rw [if_pos h,hs]
 simp only
 rw [if_pos hb]
theorem Z6j {s:Said} (h1:Z3 x=n1) (hm:memV x ZJ=some k) (h2:Z3 k=n2) (h:n1.kids=1∧n2.kind=5) (hs:Z0y L n2.text=some s) (hb:s.member=false) (hd:n2.text∈met):Zu val L met ys (x::r)=Zu val L (met++[n2.text]) ys r:=by
 subst h1 h2
 rw [Zu,hm]
 simp only
 rw [if_pos h,hs]
 simp only
 rw [if_neg (by rw [hb];simp),if_pos hd]
theorem Z4a {s:Said} (h1:Z3 x=n1) (hm:memV x ZJ=some k) (h2:Z3 k=n2) (h:n1.kids=1∧n2.kind=5) (hs:Z0y L n2.text=some s) (hb:s.member=false) (hd:n2.text∉met):Zu val L met ys (x::r)=match val (met++[n2.text]) s.value [] with
  | none=>none
  | some (m,y)=>Zu val L m (ys++[y]) r:=by
 subst h1 h2
 rw [Zu,hm]
 simp only
 rw [if_pos h,hs]
 simp only
 rw [if_neg (by rw [hb];simp),if_neg hd]
 rfl
end
section
variable {val:RevV} {L:List Said} {met:List Dg} {ns:List (List UInt8)} {ys r:List (List Nd)} {x:List Nd} {n:Nd}
theorem Z8Z (h1:Z3 x=n) (h:n.kind≠5):Zq val L met ns ys (x::r)=none:=by
 subst h1
 rw [Zq,if_neg h]
theorem Z4p (h1:Z3 x=n) (h:n.kind=5) (hs:Z0y L n.text=none):Zq val L met ns ys (x::r)=Zq val L (met++[n.text]) ns ys r:=by
 subst h1
 rw [Zq,if_pos h,hs]
theorem Z6B {s:Said} (h1:Z3 x=n) (h:n.kind=5) (hs:Z0y L n.text=some s) (hb:¬(s.member=true∧s.name∉ns)):Zq val L met ns ys (x::r)=none:=by
 subst h1
 rw [Zq,if_pos h,hs]
 simp only
 rw [if_neg hb]
theorem Z6C {s:Said} (h1:Z3 x=n) (h:n.kind=5) (hs:Z0y L n.text=some s) (hb:s.member=true∧s.name∉ns) (hd:n.text∈met):Zq val L met ns ys (x::r)=Zq val L (met++[n.text]) (ns++[s.name]) ys r:=by
 subst h1
 rw [Zq,if_pos h,hs]
 simp only
 rw [if_pos hb,if_pos hd]
theorem Z4o {s:Said} (h1:Z3 x=n) (h:n.kind=5) (hs:Z0y L n.text=some s) (hb:s.member=true∧s.name∉ns) (hd:n.text∉met):Zq val L met ns ys (x::r)=match val (met++[n.text]) s.value s.name with
  | none=>none
  | some (m,y)=>Zq val L m (ns++[s.name]) (ys++[y]) r:=by
 subst h1
 rw [Zq,if_pos h,hs]
 simp only
 rw [if_pos hb,if_neg hd]
 rfl
end
def rowO (key:List UInt8):Option (List Dg × List (List Nd))→Option (List Dg × List Nd)
 | none=>none
 | some (m,ys)=>some (m,rowN 6 key ys)
def addP (ys:List (List Nd)):Option (List Dg × List (List Nd))→Option (List Dg × List (List Nd))
 | some (m,us)=>some (m,ys++us)
 | none=>none
theorem Zc5 (xs ys:List (List Nd)) (q:Option (List Dg × List (List Nd))):addP xs (addP ys q)=addP (xs++ys) q:=by
 cases q with
 | none=>rfl
 | some p=>simp [addP]
theorem Z1j {val:RevV} {L:List Said}:∀ (r:List (List Nd)) (met:List Dg) (ns:List (List UInt8)) (ys:List (List Nd)),Zq val L met ns ys r=addP ys (Zq val L met ns [] r)
 | [],met,ns,ys=>by simp [Zq,addP]
 | x::r,met,ns,ys=>by
  rw [Zq,Zq]
  by_cases h:(Z3 x).kind=5
  ·rw [if_pos h,if_pos h]
   cases Z0y L (Z3 x).text with
   | none=>exact Z1j r _ _ ys
   | some s =>
    simp only
    by_cases h2:s.member=true∧s.name∉ns
    ·rw [if_pos h2,if_pos h2]
     by_cases h3:(Z3 x).text∈met
     ·rw [if_pos h3,if_pos h3]
      exact Z1j r _ _ ys
     ·rw [if_neg h3,if_neg h3]
      cases val (met++[(Z3 x).text]) s.value s.name with
      | none=>rfl
      | some my =>
       simp only [List.nil_append]
       rw [Z1j r my.1 _ (ys++[my.2]),Z1j r my.1 _ [my.2],Zc5]
    ·rw [if_neg h2,if_neg h2]
     rfl
  ·rw [if_neg h,if_neg h]
   rfl
theorem Z6n (xs:List (List Nd)) (x:List Nd):Z0x (xs++[x])=if (Z3 x).key=sdN then some x else Z0x xs:=by
 unfold Z0x
 rw [List.filter_append]
 by_cases h:(Z3 x).key=sdN
 ·rw [if_pos h,List.filter_cons_of_pos (by simpa using h),List.filter_nil,List.getLast?_concat]
 ·rw [if_neg h,List.filter_cons_of_neg (by simpa using h),List.filter_nil,List.append_nil]
theorem Z78 (xs:List (List Nd)) (x:List Nd):ZX (xs++[x])=if (Z3 x).key=sdN then ZX xs else ZX xs++[(Z3 x).key]:=by
 unfold ZX
 rw [List.map_append,List.filter_append]
 by_cases h:(Z3 x).key=sdN
 ·rw [if_pos h,List.map_singleton,List.filter_cons_of_neg (by simpa using h),List.filter_nil,List.append_nil]
 ·rw [if_neg h,List.map_singleton,List.filter_cons_of_pos (by simpa using h),List.filter_nil]
structure NGood (v:List Nd):Prop where
 flat:∀ n∈v,n.kind≠6→n.kind≠7→n.kids=0
 texts:∀ n∈v,n.key.length≤9223372036854775807∧n.text.length≤9223372036854775807
 len:v.length≤2200000
theorem NGood.vl {v:List Nd} {q:Nat} (h:NGood v) (ha:IsAt v q):Vl (Z8 v q):=⟨Z0T ha,fun n hn=>h.flat n (Z9l ha n hn)⟩
theorem Z26 {v:List Nd} {q:Nat} (h:q < v.length):Zz v q∈v:=by
 unfold Zz
 rw [List.getElem?_eq_getElem h]
 exact List.getElem_mem h
theorem Z5u {v:List Nd} {q i:Nat} (h:IsAt v q) (hi:i < (kidsOf v q).length):(kidsOf v q).drop i=Z8 v ((offs (q+1) (kidsOf v q)).getD i 0)::(kidsOf v q).drop (i+1):=by
 rw [List.drop_eq_getElem_cons hi,Z19 h hi]
theorem Z52 {v:List Nd} {q i:Nat} (h:IsAt v q) (hi:i < (kidsOf v q).length):IsAt v ((offs (q+1) (kidsOf v q)).getD i 0):=by
 obtain ⟨r,h⟩:=h
 rw [Z2I hi]
 exact h.kidIs hi
end Sg
/- UTF-8, in plain Lean: what the library's decoder says of a sequence, and what the document's reading says. -/
namespace Sg
open Go.Lib
def Z4B (n b0 b1 b2:Nat):Bool:=decide (firstT b0 % 8≤n) || ((decide (1 < n)&&(decide (b1 < accLo (firstT b0 / 16)) || decide (accHi (firstT b0 / 16) < b1))) || (decide (2 < n)&&(decide (b2 < 128) || decide (191 < b2))))
theorem Z9B {b:Nat} (h:128≤b) (hs:seqB b=none):firstT b=241:=by
 unfold seqB at hs
 split at hs
 ·unfold firstT
  repeat' split
  all_goals omega
 ·repeat' split at hs
  all_goals cases hs
theorem Z9A {b k lo hi:Nat} (hs:seqB b=some (k,lo,hi)):firstT b < 240∧firstT b % 8=k+1∧accLo (firstT b / 16)=lo∧accHi (firstT b / 16)=hi∧1≤k∧k≤3∧lo≤hi:=by
 have key:∀ {f:Nat},firstT b=f→f < 240→f % 8=k+1→accLo (f / 16)=lo→accHi (f / 16)=hi→1≤k→k≤3→lo≤hi→firstT b < 240∧firstT b % 8=k+1∧accLo (firstT b / 16)=lo∧accHi (firstT b / 16)=hi∧1≤k∧k≤3∧lo≤hi:=by
  intro f h1 h2 h3 h4 h5 h6 h7 h8
  rw [h1]
  exact ⟨h2,h3,h4,h5,h6,h7,h8⟩
 unfold seqB at hs
 repeat' split at hs
 all_goals first|cases hs|(simp only [Option.some.injEq,Prod.mk.injEq] at hs;obtain ⟨rfl,rfl,rfl⟩:=hs)
 ·exact key (firstT_C2 (by omega)) (by decide) rfl rfl rfl (by decide) (by decide) (by decide)
 ·exact key (firstT_E0 (by omega)) (by decide) rfl rfl rfl (by decide) (by decide) (by decide)
 ·exact key (firstT_ED (by omega)) (by decide) rfl rfl rfl (by decide) (by decide) (by decide)
 ·exact key (firstT_E1 (by omega)) (by decide) rfl rfl rfl (by decide) (by decide) (by decide)
 ·exact key (firstT_F0 (by omega)) (by decide) rfl rfl rfl (by decide) (by decide) (by decide)
 ·exact key (firstT_F4 (by omega)) (by decide) rfl rfl rfl (by decide) (by decide) (by decide)
 ·exact key (firstT_F1 (by omega)) (by decide) rfl rfl rfl (by decide) (by decide) (by decide)
def bAt (t:List UInt8) (j:Nat):Nat:=(t.getD j 0).toNat
theorem Z3k (t:List UInt8) (j:Nat):bAt t j < 256:=(t.getD j 0).toNat_lt
theorem Z3z {t:List UInt8} {j:Nat} {c:UInt8} (h:t[j]?=some c):bAt t j=c.toNat∧j < t.length:=⟨by simp [bAt,List.getD,h],(List.getElem?_eq_some_iff.1 h).1⟩
def Z3c (t:List UInt8) (p:Nat) (n b0 b1 b2 b3:Nat):Gt Unit→Prop
 | .ok a _=>(decodeN n b0 b1 b2 b3).2=a - p∧p+2≤a∧a≤t.length
 | .bad e q=>decodeN n b0 b1 b2 b3=(65533,1)∧(e=31∧q=t.length∧Z4B n b0 b1 b2=false∨e=32∧q=p∧Z4B n b0 b1 b2=true)
theorem Z5i {t:List UInt8} {p:Nat} {c:UInt8} (hc:t[p]?=some c) (h:128≤c.toNat):Z3c t p (t.length - p) c.toNat (bAt t (p+1)) (bAt t (p+2)) (bAt t (p+3)) (Z2D t p c):=by
 have hp:=(List.getElem?_eq_some_iff.1 hc).1
 have l1:=Z3k t (p+1)
 have l2:=Z3k t (p+2)
 have l3:=Z3k t (p+3)
 unfold Z2D
 cases hs:seqB c.toNat with
 | none =>
  have h1:=Z9B h hs
  refine ⟨bad_eq _ _ _ _ _ c.toNat_lt h1,.inr ⟨rfl,rfl,?_⟩⟩
  unfold Z4B
  rw [h1,decide_eq_true (show 241 % 8≤t.length - p by omega),Bool.true_or]
 | some v =>
  obtain ⟨k,lo,hi⟩:=v
  obtain ⟨h1,h2,h3,h4,h5,h6,h7⟩:=Z9A hs
  have hd:=slow_eq (t.length - p) c.toNat _ _ _ (by omega) l1 l2 l3 h1
  rw [h2,h3,h4] at hd
  have hf:Z4B (t.length - p) c.toNat (bAt t (p+1)) (bAt t (p+2))=(decide (k+1≤t.length - p) || ((decide (1 < t.length - p)&&(decide (bAt t (p+1) < lo) || decide (hi < bAt t (p+1)))) || (decide (2 < t.length - p)&&(decide (bAt t (p+2) < 128) || decide (191 < bAt t (p+2)))))):=by
   unfold Z4B
   rw [h2,h3,h4]
  show Z3c _ _ _ _ _ _ _ (seqX t p k (p+1) lo hi)
  have stop31:∀ q,q=t.length→t.length - p≤k→((1 < t.length - p→¬(bAt t (p+1) < lo∨hi < bAt t (p+1)))∧(2 < t.length - p→¬(bAt t (p+2) < 128∨191 < bAt t (p+2))))→Z3c t p (t.length - p) c.toNat (bAt t (p+1)) (bAt t (p+2)) (bAt t (p+3)) (.bad 31 q):=by
   intro q hq hn hb
   refine ⟨?_,.inl ⟨rfl,hq,?_⟩⟩
   ·rw [←hd]
    unfold slowN
    rw [if_pos (by omega)]
   ·rw [hf,decide_eq_false (by omega),Bool.false_or,Bool.or_eq_false_iff]
    refine ⟨?_,?_⟩
    ·by_cases h1n:1 < t.length - p
     ·have:=hb.1 h1n
      rw [decide_eq_false (show ¬bAt t (p+1) < lo by omega),decide_eq_false (show ¬hi < bAt t (p+1) by omega)]
      simp
     ·rw [decide_eq_false h1n,Bool.false_and]
    ·by_cases h1n:2 < t.length - p
     ·have:=hb.2 h1n
      rw [decide_eq_false (show ¬bAt t (p+2) < 128 by omega),decide_eq_false (show ¬191 < bAt t (p+2) by omega)]
      simp
     ·rw [decide_eq_false h1n,Bool.false_and]
  have stop32:(1 < t.length - p∧(bAt t (p+1) < lo∨hi < bAt t (p+1))∨2 < t.length - p∧2≤k∧(bAt t (p+2) < 128∨191 < bAt t (p+2))∨3 < t.length - p∧3≤k∧(bAt t (p+3) < 128∨191 < bAt t (p+3)))→Z3c t p (t.length - p) c.toNat (bAt t (p+1)) (bAt t (p+2)) (bAt t (p+3)) (.bad 32 p):=by
   intro hb
   refine ⟨?_,.inr ⟨rfl,rfl,?_⟩⟩
   ·rw [←hd]
    unfold slowN
    repeat' split
    all_goals first|rfl|omega
   ·rw [hf]
    simp only [Bool.or_eq_true,Bool.and_eq_true,decide_eq_true_eq]
    omega
  have good:∀ a,a=p+k+1→k < t.length - p→(lo≤bAt t (p+1)∧bAt t (p+1)≤hi)→(2≤k→128≤bAt t (p+2)∧bAt t (p+2)≤191)→(3≤k→128≤bAt t (p+3)∧bAt t (p+3)≤191)→Z3c t p (t.length - p) c.toNat (bAt t (p+1)) (bAt t (p+2)) (bAt t (p+3)) (.ok a ()):=by
   intro a ha hn b1 b2 b3
   refine ⟨?_,by omega,by omega⟩
   rw [←hd]
   unfold slowN
   repeat' split
   all_goals first|(exfalso;omega)|(simp only;omega)
  obtain ⟨k,rfl⟩:∃ m,k=m+1:=⟨k - 1,by omega⟩
  unfold seqX
  cases h8:t[p+1]? with
  | none =>
   have:=List.getElem?_eq_none_iff.1 h8
   exact stop31 _ (by omega) (by omega) ⟨by omega,by omega⟩
  | some c1 =>
   obtain ⟨e1,q1⟩:=Z3z h8
   simp only
   split
   ·exact stop32 (by omega)
   ·rename_i hb1
    cases k with
    | zero =>
     unfold seqX
     exact good _ (by omega) (by omega) (by omega) (by omega) (by omega)
    | succ k =>
     unfold seqX
     cases h9:t[p+1+1]? with
     | none =>
      have:=List.getElem?_eq_none_iff.1 h9
      exact stop31 _ (by omega) (by omega) ⟨by omega,by omega⟩
     | some c2 =>
      obtain ⟨e2,q2⟩:=Z3z h9
      rw [show p+1+1=p+2 from rfl] at e2
      simp only
      split
      ·exact stop32 (by omega)
      ·rename_i hb2
       cases k with
       | zero =>
        unfold seqX
        exact good _ (by omega) (by omega) (by omega) (by omega) (by omega)
       | succ k =>
        have hk0:k=0:=by omega
        subst hk0
        unfold seqX
        cases h10:t[p+1+1+1]? with
        | none =>
         have:=List.getElem?_eq_none_iff.1 h10
         exact stop31 _ (by omega) (by omega) ⟨by omega,by omega⟩
        | some c3 =>
         obtain ⟨e3,q3⟩:=Z3z h10
         rw [show p+1+1+1=p+3 from rfl] at e3
         simp only
         split
         ·exact stop32 (by omega)
         ·unfold seqX
          exact good _ (by omega) (by omega) (by omega) (by omega) (by omega)
end Sg
/- JSON's plain words, step by step. -/
namespace Sg
theorem Zca {f:UInt8→Bool} {t:List UInt8} {p:Nat} {c:UInt8} (hc:t[p]?=some c) (h:f c=true):p+((t.drop p).takeWhile f).length=p+1+((t.drop (p+1)).takeWhile f).length:=by
 obtain ⟨hp,rfl⟩:=List.getElem?_eq_some_iff.1 hc
 rw [List.drop_eq_getElem_cons hp,List.takeWhile_cons_of_pos h,List.length_cons]
 omega
theorem Zdv {f:UInt8→Bool} {t:List UInt8} {p:Nat} (h:∀ c,t[p]?=some c→f c=false):p+((t.drop p).takeWhile f).length=p:=by
 rcases Nat.lt_or_ge p t.length with hp|hp
 ·have:=h _ (List.getElem?_eq_getElem hp)
  rw [List.drop_eq_getElem_cons hp,List.takeWhile_cons_of_neg (by rw [this];simp)]
  rfl
 ·rw [List.drop_eq_nil_of_le hp]
  rfl
theorem Z59 {t:List UInt8} {p:Nat} {c:UInt8} (hc:t[p]?=some c):bAt t p=c.toNat:=(Z3z hc).1
theorem Z1Y {t:List UInt8} {p:Nat} (h:bAt t p≠0):p < t.length:=by
 rcases Nat.lt_or_ge p t.length with hp|hp
 ·exact hp
 ·exact absurd (by simp [bAt,List.getD,List.getElem?_eq_none hp]) h
theorem Z4w {t:List UInt8} {p:Nat} (h:p < t.length):∃ c,t[p]?=some c∧c.toNat=bAt t p:=⟨t[p],List.getElem?_eq_getElem h,(Z59 (List.getElem?_eq_getElem h)).symm⟩
theorem Z5H {t:List UInt8} {p:Nat} (h:t.length≤p):bAt t p=0:=by simp [bAt,List.getD,List.getElem?_eq_none h]
theorem Z20 {t:List UInt8} {p:Nat} {c:UInt8} (h:c≠0):atB t p c=decide (bAt t p=c.toNat):=by
 have hc:c.toNat≠0:=fun e=>h (UInt8.toNat_inj.1 e)
 rcases Nat.lt_or_ge p t.length with hp|hp
 ·obtain ⟨d,h1,h2⟩:=Z4w hp
  unfold atB
  rw [h1,←h2]
  by_cases e:d=c
  ·subst e;simp
  ·have:d.toNat≠c.toNat:=fun e'=>e (UInt8.toNat_inj.1 e')
   simp [e,this]
 ·rw [Z5H hp,decide_eq_false (fun e=>hc e.symm)]
  unfold atB
  rw [List.getElem?_eq_none hp]
  rfl
theorem digitB_iff {c:UInt8}:ZA c=true↔48≤c.toNat∧c.toNat≤57:=by
 unfold ZA
 rw [Bool.and_eq_true,decide_eq_true_eq,decide_eq_true_eq,UInt8.le_iff_toNat_le,UInt8.le_iff_toNat_le]
 exact Iff.rfl
theorem Z4s {t:List UInt8} {p:Nat} (h:48≤bAt t p∧bAt t p≤57):Z1E t p=Z1E t (p+1):=by
 obtain ⟨c,h1,h2⟩:=Z4w (Z1Y (t:=t) (p:=p) (by omega))
 exact Zca h1 (digitB_iff.2 (by omega))
theorem Z3y {t:List UInt8} {p:Nat} (h:¬(48≤bAt t p∧bAt t p≤57)):Z1E t p=p:=Zdv fun c hc=>by
 rw [←Bool.not_eq_true,digitB_iff,←Z59 hc]
 exact h
theorem blankB_iff {c:UInt8}:Z10 c=true↔c.toNat=32∨c.toNat=9∨c.toNat=10∨c.toNat=13:=by
 unfold Z10
 simp only [Bool.or_eq_true,beq_iff_eq,←UInt8.toNat_inj]
 have e1:(32:UInt8).toNat=32:=rfl
 have e2:(9:UInt8).toNat=9:=rfl
 have e3:(10:UInt8).toNat=10:=rfl
 have e4:(13:UInt8).toNat=13:=rfl
 rw [e1,e2,e3,e4]
 omega
theorem Zb9 {t:List UInt8} {p:Nat} (h:bAt t p=32∨bAt t p=9∨bAt t p=10∨bAt t p=13):Z4 t p=Z4 t (p+1):=by
 obtain ⟨c,h1,h2⟩:=Z4w (Z1Y (t:=t) (p:=p) (by omega))
 exact Zca h1 (blankB_iff.2 (by omega))
theorem Z9v {t:List UInt8} {p:Nat} (h:¬(bAt t p=32∨bAt t p=9∨bAt t p=10∨bAt t p=13)):Z4 t p=p:=Zdv fun c hc=>by
 rw [←Bool.not_eq_true,blankB_iff,←Z59 hc]
 exact h
theorem ZbW {t:List UInt8} {p:Nat} (h:48≤bAt t p∧bAt t p≤57):Z0P t p=.ok (Z1E t p) ():=by
 unfold Z0P
 rw [if_neg]
 have:=ZaD t (p+1)
 rw [Z4s h]
 omega
theorem ZaE {t:List UInt8} {p:Nat} (h:¬(48≤bAt t p∧bAt t p≤57)):Z0P t p=.bad 31 p:=by
 unfold Z0P
 rw [if_pos (Z3y h)]
end Sg
/- Numbers of JSON texts, in plain Lean: their parts; the whole number that is spelled as one. -/
namespace Sg
def cutP (c:UInt8) (s:List UInt8):List UInt8 × Bool:=match s with
 | x::r=>if x=c then (r,true) else (x::r,false)
 | []=>([],false)
def runD (s:List UInt8):Nat:=(s.takeWhile ZA).length
def Z8S (s:List UInt8):Option (List UInt8 × Bool):=if (cutP 46 s).2=true then (if runD (cutP 46 s).1=0 then none else some ((cutP 46 s).1.drop (runD (cutP 46 s).1),false)) else some (s,true)
def Z2h (s:List UInt8):List UInt8:=match s with
 | x::r=>if x=43∨x=45 then r else x::r
 | []=>[]
def expP (s:List UInt8):Option (List UInt8 × Bool):=match s with
 | x::r=>if x=101∨x=69 then (if Z2h r=[]∨runD (Z2h r)≠(Z2h r).length then none else some ([],false)) else some (x::r,true)
 | []=>some ([],true)
def Z3h (s:List UInt8):Bool:=decide (runD s=0) || (decide (1 < runD s)&&decide (bAt s 0=48))
def numP (t:List UInt8):Option (Bool × List UInt8 × Bool) :=
 if Z3h (cutP 45 t).1=true then none else
 match Z8S ((cutP 45 t).1.drop (runD (cutP 45 t).1)) with
 | none=>none
 | some (s3,p1)=>match expP s3 with
  | none=>none
  | some (s6,p2)=>if s6=[] then some ((cutP 45 t).2,(cutP 45 t).1.take (runD (cutP 45 t).1),p1&&p2) else none
def decV (l:List UInt8):Nat:=l.foldl (fun n c=>10*n+(c.toNat - 48)) 0
def whole64 (mi:Bool) (v:Nat):Int × Bool:=if mi=true then (if v≤9223372036854775808 then (-(v:Int),true) else (0,false)) else if v < 9223372036854775808 then ((v:Int),true) else (0,false)
def Zb (t:List UInt8):Int × Bool:=match numP t with
 | some (mi,w,true)=>whole64 mi (decV w)
 | _=>(0,false)
theorem Z7Y {f:UInt8→Bool} {x:UInt8}:∀ {l:List UInt8},x∈l.takeWhile f→f x=true
 | [],h=>by cases h
 | a::r,h=>by
  by_cases ha:f a=true
  ·rw [List.takeWhile_cons_of_pos ha,List.mem_cons] at h
   rcases h with rfl|h
   ·exact ha
   ·exact Z7Y h
  ·rw [List.takeWhile_cons_of_neg ha] at h
   cases h
theorem Z30 (s:List UInt8):runD s≤s.length:=Z1G s
theorem Z8x {s:List UInt8} {j:Nat} (h:j < runD s):48≤bAt s j∧bAt s j≤57:=by
 have h1:j < s.length:=Nat.lt_of_lt_of_le h (Z30 s)
 have h2:(s.takeWhile ZA)[j]?=s[j]?:=by
  have:=(List.takeWhile_prefix ZA (l:=s))
  obtain ⟨r,hr⟩:=this
  conv=>rhs;rw [←hr]
  rw [List.getElem?_append_left h]
 have h3:s[j]∈s.takeWhile ZA:=by
  rw [List.getElem?_eq_getElem h1] at h2
  exact List.mem_of_getElem? h2
 have h4:=Z7Y h3
 have h5:=digitB_iff.1 h4
 rw [←Z59 (List.getElem?_eq_getElem h1)] at h5
 exact h5
theorem Z6D (l:List UInt8) (c:UInt8):decV (l++[c])=10*decV l+(c.toNat - 48):=by simp [decV]
theorem ZaG {l:List UInt8} {i:Nat} (h:i≤l.length):decV (l.take i)≤decV l:=by
 induction hn:l.length - i generalizing i with
 | zero=>rw [List.take_of_length_le (by omega)];exact Nat.le_refl _
 | succ n ih =>
  have h1:i < l.length:=by omega
  have h2:=ih (i:=i+1) (by omega) (by omega)
  rw [List.take_succ_eq_append_getElem h1,Z6D] at h2
  omega
theorem Z5F (c:UInt8) (s:List UInt8):(cutP c s).1.length≤s.length:=by
 unfold cutP
 split
 ·split
  ·simp
  ·simp
 ·simp
set_option maxRecDepth 100000 in
theorem or32:∀ x:Fin 256,(UInt8.ofNat x.val|||32=101)=(UInt8.ofNat x.val=101∨UInt8.ofNat x.val=69):=by decide
theorem Z7T (x:UInt8):x|||32=101↔(x=101∨x=69):=by
 have:=or32 ⟨x.toNat,x.toNat_lt⟩
 simp only [UInt8.ofNat_toNat] at this
 rw [this]
end Sg
/- What a disclosure says, in plain Lean; what has been read from a text holds nothing where it may not. -/
namespace Sg
def Flat (l:List Nd):Prop:=∀ n∈l,n.kind≠6→n.kind≠7→n.kids=0
theorem Flat.one {n:Nd} (h:n.kind≠6→n.kind≠7→n.kids=0):Flat [n]:=fun m hm=>by
 rw [List.mem_singleton.1 hm]
 exact h
theorem Flat.app {a b:List Nd} (ha:Flat a) (hb:Flat b):Flat (a++b):=fun m hm=>(List.mem_append.1 hm).elim (ha m) (hb m)
theorem Flat.cons {n:Nd} {a:List Nd} (h:n.kind≠6→n.kind≠7→n.kids=0) (ha:Flat a):Flat (n::a):=fun m hm=>(List.mem_cons.1 hm).elim (fun e=>by rw [e];exact h) (ha m)
theorem Flat.named {l:List Nd} (h:Flat l) (k:List UInt8):Flat (Z6 l k):=by
 cases l with
 | nil=>exact h
 | cons n r=>exact Flat.cons (h n (List.mem_cons_self ..)) fun m hm=>h m (List.mem_cons_of_mem _ hm)
theorem Z55 {wh:List UInt8→Int × Bool} {t:List UInt8} {p a:Nat} {c:UInt8} {l:List Nd} (h:ZT wh t p c=.ok a l):Flat l:=by
 unfold ZT at h
 repeat' split at h
 all_goals first
  | (obtain ⟨b,v,-,h⟩:=Zd h;cases h;exact Flat.one fun _ _=>rfl)
  | cases h
theorem Zal {val:Nat→Gt (List Nd)} (hv:∀ {p a l},val p=.ok a l→Flat l) {t:List UInt8} {obj:Bool} {p a:Nat} {names:List (List UInt8)} {g:List Nd × List UInt8} (h:Z0M val t obj p names=.ok a g):Flat g.1:=by
 unfold Z0M at h
 split at h
 ·split at h
  ·obtain ⟨b,s,-,h⟩:=Zd h
   split at h
   ·cases h
   ·split at h
    ·obtain ⟨d,v,h1,h⟩:=Zd h
     cases h
     exact (hv h1).named _
    ·cases h
  ·cases h
 ·obtain ⟨d,v,h1,h⟩:=Zd h
  cases h
  exact hv h1
theorem Z7F {val:Nat→Gt (List Nd)} (hv:∀ {p a l},val p=.ok a l→Flat l) {t:List UInt8} {obj:Bool}:∀ {f p a:Nat} {names:List (List UInt8)} {hd:Nd} {out l:List Nd},rowX val t obj f p names hd out=.ok a l→(hd.kind=6∨hd.kind=7)→Flat out→Flat l
 | 0,p,a,names,hd,out,l,h,_,_=>by rw [rowX] at h;cases h
 | f+1,p,a,names,hd,out,l,h,hk,ho=>by
  rw [rowX] at h
  obtain ⟨b,g,hi,h⟩:=Zd h
  have hg:=Zal hv hi
  have hh:hd.more.kind≠6→hd.more.kind≠7→hd.more.kids=0:=fun a b=>(hk.elim (fun e=>a e) fun e=>b e).elim
  unfold rowE at h
  split at h
  ·cases h
   exact Flat.cons hh (ho.app hg)
  ·split at h
   ·exact Z7F hv h hk (ho.app hg)
   ·cases h
theorem Z9j {wh:List UInt8→Int × Bool} {t:List UInt8}:∀ {d p a:Nat} {l:List Nd},valX wh t d p=.ok a l→Flat l:=by
 intro d
 induction d with
 | zero =>
  intro p a l h
  rw [valX] at h
  split at h
  ·cases h
  ·split at h
   ·cases h
   ·exact Z55 h
 | succ d ih =>
  intro p a l h
  rw [valX] at h
  split at h
  ·cases h
  ·split at h
   ·rename_i c hc hb
    have h':(if atB t (Z4 t (p+1)) (ZB (decide (c=123)))=true then Gt.ok (Z4 t (p+1)+1) [nd (if c=123 then 7 else 6)] else rowX (valX wh t d) t (decide (c=123)) (t.length+1) (Z4 t (p+1)) [] (nd (if c=123 then 7 else 6)) [])=Gt.ok a l:=h
    split at h'
    ·cases h'
     exact Flat.one fun _ _=>rfl
    ·refine Z7F ih h' ?_ fun m hm=>by cases hm
     by_cases h1:c=123
     ·exact .inr (by simp [nd,h1])
     ·exact .inl (by simp [nd,h1])
   ·exact Z55 h
theorem Z4T {wh:List UInt8→Int × Bool} {t:List UInt8} {a:Nat} {l:List Nd} (h:Zy wh t=.ok a l):Flat l:=by
 unfold Zy at h
 split at h
 ·cases h
 ·obtain ⟨b,v,hv,h⟩:=Zd h
  split at h
  ·cases h
  ·cases h
   exact Z9j hv
theorem Z72 {wh:List UInt8→Int × Bool} {t:List UInt8} {a:Nat} {l:List Nd} (h:Zy wh t=.ok a l):NGood l:=by
 obtain ⟨h1,h2,h3⟩:=Z3s h
 exact ⟨Z4T h,fun n hn=>⟨Nat.le_trans (h2 n hn).key (by omega),Nat.le_trans (h2 n hn).text (by omega)⟩,by omega⟩
def Z2i (dg:List UInt8) (v:List Nd):Option Said:=if (Z3 v).kind=6 then
  match kidsOf v 0 with
  | [a,x]=>if (Z3 a).kind=5 then some ⟨dg,[],false,x⟩ else none
  | [a,n,x]=>if (Z3 a).kind=5∧((Z3 n).kind=5∧(Z3 n).text≠sdN∧(Z3 n).text≠ZJ) then some ⟨dg,(Z3 n).text,true,x⟩ else none
  | _=>none
 else none
theorem Z9C {dg:List UInt8} {v:List Nd} (h:(Z3 v).kind≠6):Z2i dg v=none:=by
 unfold Z2i
 rw [if_neg h]
theorem Zbe {dg:List UInt8} {v:List Nd} (h2:(kidsOf v 0).length≠2) (h3:(kidsOf v 0).length≠3):Z2i dg v=none:=by
 unfold Z2i
 split
 ·match hk:kidsOf v 0 with
  | []=>rfl
  | [_]=>rfl
  | [_,_]=>rw [hk] at h2;exact absurd rfl h2
  | [_,_,_]=>rw [hk] at h3;exact absurd rfl h3
  | _::_::_::_::_=>rfl
 ·rfl
theorem Z7D {dg:List UInt8} {v:List Nd} (h:(Z3 v).kind=6) (h2:(kidsOf v 0).length=2):Z2i dg v=if (Z3 ((kidsOf v 0).getD 0 [])).kind=5 then some ⟨dg,[],false,(kidsOf v 0).getD 1 []⟩ else none:=by
 unfold Z2i
 rw [if_pos h]
 match hk:kidsOf v 0 with
 | []=>rw [hk] at h2;cases h2
 | [_]=>rw [hk] at h2;cases h2
 | [_,_]=>rfl
 | _::_::_::_=>rw [hk] at h2;cases h2
theorem Z4K {dg:List UInt8} {v:List Nd} (h:(Z3 v).kind=6) (h2:(kidsOf v 0).length=3):Z2i dg v=if (Z3 ((kidsOf v 0).getD 0 [])).kind=5∧((Z3 ((kidsOf v 0).getD 1 [])).kind=5∧(Z3 ((kidsOf v 0).getD 1 [])).text≠sdN∧(Z3 ((kidsOf v 0).getD 1 [])).text≠ZJ) then some ⟨dg,(Z3 ((kidsOf v 0).getD 1 [])).text,true,(kidsOf v 0).getD 2 []⟩ else none:=by
 unfold Z2i
 rw [if_pos h]
 match hk:kidsOf v 0 with
 | []=>rw [hk] at h2;cases h2
 | [_]=>rw [hk] at h2;cases h2
 | [_,_]=>rw [hk] at h2;cases h2
 | [_,_,_]=>rfl
 | _::_::_::_::_=>rw [hk] at h2;cases h2
theorem Zae {v:List Nd} (h:Fo 1 v) {i:Nat} (hi:i+1=(kidsOf v 0).length):v.drop ((offs 1 (kidsOf v 0)).getD i 0)=(kidsOf v 0).getD i []:=by
 have h2:(offs 1 (kidsOf v 0)).getD i 0=1+((kidsOf v 0).take i).flatten.length:=Z2I (by omega)
 obtain ⟨-,-,h3,-⟩:=Zj h
 rw [h2]
 generalize kidsOf v 0=ks at *
 have h4:ks=ks.take i++[ks.getD i []]:=by
  conv=>lhs;rw [←List.take_append_drop i ks]
  rw [List.drop_eq_getElem_cons (by omega),List.drop_eq_nil_of_le (by omega)]
  simp [List.getD,show i < ks.length by omega]
 generalize ks.getD i []=y at *
 generalize ks.take i=us at *
 subst h4
 rw [h3,Nat.add_comm,List.drop_succ_cons,List.flatten_append,List.drop_left]
 simp
theorem ZbD {v:List Nd} (h:Fo 1 v) {i:Nat} (hi:i < (kidsOf v 0).length):(offs 1 (kidsOf v 0)).getD i 0 < v.length∧Zz v ((offs 1 (kidsOf v 0)).getD i 0)=Z3 ((kidsOf v 0).getD i []):=by
 have h1:=Z52 (IsAt.of_fo h) hi
 have h2:=Z19 (IsAt.of_fo h) hi
 refine ⟨h1.lt,?_⟩
 have h3:Z3 (Z8 v ((offs (0+1) (kidsOf v 0)).getD i 0))=Z3 (kidsOf v 0)[i]:=by rw [h2]
 simp only [List.getD,List.getElem?_eq_getElem hi,Option.getD_some]
 exact h3
def Z4z (dg:List UInt8) (b:Option (List UInt8)):Option Said:=match b with
 | none=>none
 | some b=>match Zy Zb b with
  | .bad _ _=>none
  | .ok _ v=>Z2i dg v
end Sg
/- Well shaped values, in plain Lean: by going down; and by a stack, node after node; both say the same. -/
namespace Sg
def Zl (ok:List UInt8→Bool) (n:Nd):Bool :=
 if n.kind < 1∨7 < n.kind∨n.kids < 0∨(0 < n.kids∧n.kind≠6∧n.kind≠7) then false else
 if n.kind=4 then (numP n.text).isSome&&(n.whole==(Zb n.text).2)&&decide (n.int=(Zb n.text).1) else
 if n.whole=true∨n.int≠0 then false else
 if n.kind=5 then ok n.text else decide (n.text=[])
def ZF (n:Nd):Prop:=n.kind=6∨n.kind=7
instance (n:Nd):Decidable (ZF n):=inferInstanceAs (Decidable (_∨_))
def hasN (nm:Option (List (List UInt8))) (k:List UInt8):Bool:=match nm with
 | some ns=>decide (k∈ns)
 | none=>false
def Z1H (ok:List UInt8→Bool):Nat→Nat→Option (List (List UInt8))→Nat→List Nd→Option (List Nd)
 | _,_,_,0,l=>some l
 | 0,_,_,_+1,_=>none
 | f+1,d,nm,k+1,l=>match l with
  | []=>none
  | n::r =>
   if Zl ok n=false∨ok n.key=false∨(nm=none∧n.key≠[])∨(ZF n∧d=0) then none else
   match Z1H ok f (d - 1) (if n.kind=7 then some [] else none) n.kids.toNat r with
   | none=>none
   | some r'=>if hasN nm n.key=true then none else Z1H ok f d (nm.map (n.key::·)) k r'
abbrev Lv:=Nat × Option (List (List UInt8))
def popL:List Lv→List Lv
 | []=>[]
 | (k,nm)::s=>if k=0 then popL s else (k,nm)::s
def shM (ok:List UInt8→Bool):List Nd→List Lv→Bool
 | [],st=>st.isEmpty
 | n::r,st=>match st with
  | []=>false
  | (k,nm)::s =>
   if Zl ok n=false then false else
   if (nm=none∧n.key≠[])∨hasN nm n.key=true∨ok n.key=false then false else
   if ZF n then (if 32 < s.length+1 then false else shM ok r (popL ((n.kids.toNat,if n.kind=7 then some [] else none)::(k - 1,nm.map (n.key::·))::s)))
   else shM ok r (popL ((k - 1,nm.map (n.key::·))::s))
def ZG (ok:List UInt8→Bool) (v:List Nd):Bool:=shM ok v [(1,none)]
theorem Z64 (nm:Option (List (List UInt8))) (s:List Lv):popL ((0,nm)::s)=popL s:=rfl
theorem Z65 (k:Nat) (nm:Option (List (List UInt8))) (s:List Lv):popL ((k+1,nm)::s)=(k+1,nm)::s:=rfl
theorem Z8B {ok:List UInt8→Bool} {n:Nd} (h:Zl ok n=true) (hr:¬ZF n):n.kids.toNat=0:=by
 unfold Zl at h
 split at h
 ·cases h
 ·rename_i h1
  have h2:¬(0 < n.kids):=fun h3=>h1 (.inr (.inr (.inr ⟨h3,fun e=>hr (.inl e),fun e=>hr (.inr e)⟩)))
  omega
theorem Z21 {ok:List UInt8→Bool} {f d:Nat} {nm:Option (List (List UInt8))} {l:List Nd}:Z1H ok f d nm 0 l=some l:=by cases f<;>rfl
theorem Z3F {ok:List UInt8→Bool}:∀ {f d:Nat} {nm:Option (List (List UInt8))} {k:Nat} {l r:List Nd},Z1H ok f d nm k l=some r→r.length≤l.length
 | f,d,nm,0,l,r,h=>by rw [Z21] at h;cases h;exact Nat.le_refl _
 | 0,d,nm,k+1,l,r,h=>by cases h
 | f+1,d,nm,k+1,[],r,h=>by cases h
 | f+1,d,nm,k+1,n::t,r,h=>by
  unfold Z1H at h
  simp only at h
  split at h
  ·cases h
  ·split at h
   ·cases h
   ·rename_i r' h1
    split at h
    ·cases h
    ·have h2:=Z3F h1
     have h3:=Z3F h
     simp only [List.length_cons]
     omega
theorem Z1K {ok:List UInt8→Bool}:∀ (f:Nat) (l:List Nd) (d k:Nat) (nm:Option (List (List UInt8))) (s:List Lv),l.length < f→s.length+d=32 →
  shM ok l (popL ((k,nm)::s))=match Z1H ok f d nm k l with
   | none=>false
   | some r=>shM ok r (popL s)
 | 0,l,d,k,nm,s,h,_=>by omega
 | f+1,l,d,0,nm,s,h,hd=>by rw [Z21,Z64]
 | f+1,[],d,k+1,nm,s,h,hd=>rfl
 | f+1,n::t,d,k+1,nm,s,h,hd=>by
  have ht:t.length < f:=by simpa using h
  have e1:shM ok (n::t) ((k+1,nm)::s)=if Zl ok n=false then false else
    if (nm=none∧n.key≠[])∨hasN nm n.key=true∨ok n.key=false then false else
    if ZF n then (if 32 < s.length+1 then false else shM ok t (popL ((n.kids.toNat,if n.kind=7 then some [] else none)::(k+1 - 1,nm.map (n.key::·))::s)))
    else shM ok t (popL ((k+1 - 1,nm.map (n.key::·))::s)):=rfl
  have e2:Z1H ok (f+1) d nm (k+1) (n::t)=if Zl ok n=false∨ok n.key=false∨(nm=none∧n.key≠[])∨(ZF n∧d=0) then none else
    match Z1H ok f (d - 1) (if n.kind=7 then some [] else none) n.kids.toNat t with
    | none=>none
    | some r'=>if hasN nm n.key=true then none else Z1H ok f d (nm.map (n.key::·)) k r':=rfl
  rw [Z65,e1,e2]
  clear e1 e2
  by_cases h1:Zl ok n=false
  ·rw [if_pos h1,if_pos (.inl h1)]
  have h1':Zl ok n=true:=by simpa using h1
  rw [if_neg h1]
  by_cases h2:ok n.key=false
  ·rw [if_pos (.inr (.inr h2)),if_pos (.inr (.inl h2))]
  by_cases h3:nm=none∧n.key≠[]
  ·rw [if_pos (.inl h3),if_pos (.inr (.inr (.inl h3)))]
  by_cases hr:ZF n
  ·by_cases h5:d=0
   ·rw [if_pos (show Zl ok n=false∨ok n.key=false∨(nm=none∧n.key≠[])∨(ZF n∧d=0) from .inr (.inr (.inr ⟨hr,h5⟩)))]
    simp only
    split
    ·rfl
    ·rw [if_pos (by omega)]
   ·rw [if_neg (show ¬(Zl ok n=false∨ok n.key=false∨(nm=none∧n.key≠[])∨(ZF n∧d=0)) from fun h=>h.elim h1 (fun h=>h.elim h2 (fun h=>h.elim h3 (fun h=>h5 h.2))))]
    have ih1:=Z1K (ok:=ok) f t (d - 1) n.kids.toNat (if n.kind=7 then some [] else none) ((k+1 - 1,nm.map (n.key::·))::s) ht (by simp only [List.length_cons];omega)
    by_cases h4:hasN nm n.key=true
    ·rw [if_pos (.inr (.inl h4))]
     cases Z1H ok f (d - 1) (if n.kind=7 then some [] else none) n.kids.toNat t with
     | none=>rfl
     | some r'=>simp only;rw [if_pos h4]
    ·rw [if_neg (show ¬((nm=none∧n.key≠[])∨hasN nm n.key=true∨ok n.key=false) from fun h=>h.elim h3 (fun h=>h.elim h4 h2)),if_pos hr,if_neg (by omega),ih1]
     cases ht2:Z1H ok f (d - 1) (if n.kind=7 then some [] else none) n.kids.toNat t with
     | none=>rfl
     | some r' =>
      have hl:=Z3F ht2
      simp only
      rw [if_neg h4,show k+1 - 1=k by omega]
      exact Z1K (ok:=ok) f r' d k (nm.map (n.key::·)) s (by omega) hd
  ·rw [if_neg (show ¬(Zl ok n=false∨ok n.key=false∨(nm=none∧n.key≠[])∨(ZF n∧d=0)) from fun h=>h.elim h1 (fun h=>h.elim h2 (fun h=>h.elim h3 (fun h=>hr h.1)))),Z8B h1' hr,Z21]
   simp only
   by_cases h4:hasN nm n.key=true
   ·rw [if_pos (.inr (.inl h4)),if_pos h4]
   ·rw [if_neg (show ¬((nm=none∧n.key≠[])∨hasN nm n.key=true∨ok n.key=false) from fun h=>h.elim h3 (fun h=>h.elim h4 h2)),if_neg hr,if_neg h4,show k+1 - 1=k by omega]
    exact Z1K (ok:=ok) f t d k (nm.map (n.key::·)) s ht hd
theorem Z5W (ok:List UInt8→Bool) (v:List Nd):ZG ok v=match Z1H ok (v.length+1) 32 none 1 v with
  | some []=>true
  | _=>false:=by
 unfold ZG
 have:=Z1K (ok:=ok) (v.length+1) v 32 1 none [] (by omega) rfl
 rw [Z65] at this
 rw [this]
 cases Z1H ok (v.length+1) 32 none 1 v with
 | none=>rfl
 | some r=>cases r<;>rfl
end Sg
/- How a value is spelled, in plain Lean: of a text, of a value; how long that can be. -/
namespace Sg
def hexD (k:Nat):UInt8:=if k < 10 then UInt8.ofNat (48+k) else UInt8.ofNat (87+k)
def qB (c:UInt8):List UInt8 :=
 if c.toNat=34∨c.toNat=92 then [92,c] else if c.toNat=8 then [92,98] else if c.toNat=12 then [92,102] else if c.toNat=10 then [92,110] else if c.toNat=13 then [92,114] else
 if c.toNat=9 then [92,116] else if c.toNat < 32 then [92,117,48,48,hexD (c.toNat / 16),hexD (c.toNat % 16)] else [c]
def quoS (s:List UInt8):List UInt8:=34::(s.flatMap qB++[34])
def Zk:List (List UInt8)→List UInt8
 | []=>[]
 | x::r=>x++r.flatMap (44::·)
theorem Z8N (l:List (List UInt8)) (x:List UInt8):Zk (l++[x])=Zk l++(if l=[] then x else 44::x):=by
 cases l with
 | nil=>simp [Zk]
 | cons y r=>simp [Zk,List.flatMap_append]
def Ze:Nat→List Nd→List UInt8
 | 0,_=>[]
 | _+1,[]=>[]
 | f+1,n::r =>
  if n.kind=1 then [110,117,108,108] else if n.kind=2 then [102,97,108,115,101] else if n.kind=3 then [116,114,117,101] else if n.kind=4 then n.text else if n.kind=5 then quoS n.text else
  (if n.kind=7 then 123 else 91)::(Zk ((Z5O n.kids.toNat r).map fun x=>(if n.kind=7 then quoS (Z3 x).key++[58] else [])++Ze f x)++[if n.kind=7 then 125 else 93])
def Z0S (f:Nat) (obj:Prop) [Decidable obj] (x:List Nd):List UInt8:=(if obj then quoS (Z3 x).key++[58] else [])++Ze f x
theorem Z0D {f:Nat} {n:Nd} {xs:List (List Nd)} (hk:n.kids=(xs.length:Int)) (hf:∀ x∈xs,Fo 1 x) (h1:n.kind≠1) (h2:n.kind≠2) (h3:n.kind≠3) (h4:n.kind≠4) (h5:n.kind≠5) :
  Ze (f+1) (n::xs.flatten)=(if n.kind=7 then 123 else 91)::(Zk (xs.map (Z0S f (n.kind=7)))++[if n.kind=7 then 125 else 93]):=by
 have h6:((xs.length:Nat):Int).toNat=xs.length:=by omega
 have h7:=Z3H (xs:=xs) [] hf
 rw [List.append_nil] at h7
 rw [Ze,if_neg h1,if_neg h2,if_neg h3,if_neg h4,if_neg h5,hk,h6,h7]
 rfl
theorem Z7P (c:UInt8):(qB c).length≤6:=by
 unfold qB
 repeat' split
 all_goals simp
theorem Z0N {α:Type} {g:α→List UInt8} {k:Nat} (h:∀ a,(g a).length≤k):∀ l:List α,(l.flatMap g).length≤k*l.length
 | []=>Nat.zero_le _
 | a::l=>by
  have h1:=h a
  have h2:=Z0N h l
  rw [List.flatMap_cons,List.length_append,List.length_cons,Nat.mul_succ]
  omega
theorem Z07 (s:List UInt8):(quoS s).length≤6*s.length+2:=by
 have:=Z0N Z7P s
 unfold quoS
 rw [List.length_cons,List.length_append,List.length_singleton]
 omega
def wN (n:Nd):Nat:=6*(n.text.length+n.key.length)+20
def wL:List Nd→Nat
 | []=>0
 | n::r=>wN n+wL r
theorem Z2k:∀ (a b:List Nd),wL (a++b)=wL a+wL b
 | [],b=>by simp [wL]
 | n::a,b=>by rw [List.cons_append,wL,wL,Z2k a b,Nat.add_assoc]
theorem Z48 {g:List Nd→List UInt8}:∀ {xs:List (List Nd)},(∀ x∈xs,(g x).length+1≤wL x)→(Zk (xs.map g)).length≤wL xs.flatten:=by
 have key:∀ {xs:List (List Nd)},(∀ x∈xs,(g x).length+1≤wL x)→((xs.map g).flatMap (44::·)).length≤wL xs.flatten:=by
  intro xs
  induction xs with
  | nil=>intro _;exact Nat.le_refl _
  | cons x r ih =>
   intro h
   have h1:=h x (List.mem_cons_self ..)
   have h2:=ih fun y hy=>h y (List.mem_cons_of_mem _ hy)
   rw [List.map_cons,List.flatMap_cons,List.length_append,List.length_cons,List.flatten_cons,Z2k]
   omega
 intro xs h
 cases xs with
 | nil=>exact Nat.le_refl _
 | cons x r =>
  have h1:=h x (List.mem_cons_self ..)
  have h2:=key fun y hy=>h y (List.mem_cons_of_mem _ hy)
  rw [List.map_cons,Zk,List.length_append,List.flatten_cons,Z2k]
  omega
theorem Z0q:∀ (f:Nat) (x:List Nd),Fo 1 x→x.length≤f→(Ze f x).length+6*(Z3 x).key.length+10≤wL x
 | 0,x,h,hl=>by have:=h.le;omega
 | f+1,x,h,hl=>by
  obtain ⟨n,m,a,rfl,h1,h2⟩:=h.one_inv
  obtain ⟨xs,h3,rfl,h4⟩:=h2.list
  subst h3
  have hw:wL (n::xs.flatten)=6*(n.text.length+n.key.length)+20+wL xs.flatten:=rfl
  have hh:Z3 (n::xs.flatten)=n:=rfl
  have hx:∀ x∈xs,x.length≤f:=fun x hx=>by
   obtain ⟨a,b,rfl⟩:=List.append_of_mem hx
   rw [List.flatten_append,List.flatten_cons] at hl
   simp only [List.length_cons,List.length_append] at hl
   omega
  rw [hh,hw]
  by_cases k1:n.kind=1
  ·rw [Ze,if_pos k1];simp;omega
  by_cases k2:n.kind=2
  ·rw [Ze,if_neg k1,if_pos k2];simp;omega
  by_cases k3:n.kind=3
  ·rw [Ze,if_neg k1,if_neg k2,if_pos k3];simp;omega
  by_cases k4:n.kind=4
  ·rw [Ze,if_neg k1,if_neg k2,if_neg k3,if_pos k4];omega
  by_cases k5:n.kind=5
  ·have:=Z07 n.text
   rw [Ze,if_neg k1,if_neg k2,if_neg k3,if_neg k4,if_pos k5];omega
  rw [Z0D h1 h4 k1 k2 k3 k4 k5]
  have hj:=Z48 (g:=Z0S f (n.kind=7)) (xs:=xs) fun x hm=>by
   have h5:=Z0q f x (h4 x hm) (hx x hm)
   have h6:=Z07 (Z3 x).key
   unfold Z0S
   split
   ·simp only [List.length_append,List.length_singleton];omega
   ·simp only [List.length_append,List.length_nil];omega
  simp only [List.length_cons,List.length_append,List.length_nil]
  omega
theorem Z6l {f:Nat} {obj:Prop} [Decidable obj] {x:List Nd} (h:Fo 1 x) (hl:x.length≤f):(Z0S f obj x).length+1≤wL x:=by
 have h5:=Z0q f x h hl
 have h6:=Z07 (Z3 x).key
 unfold Z0S
 split
 ·simp only [List.length_append,List.length_singleton];omega
 ·simp only [List.length_append,List.length_nil];omega
theorem Z6e {g:List Nd→List UInt8} {xs:List (List Nd)} {i:Nat} (h:i < xs.length):Zk ((xs.take (i+1)).map g)=Zk ((xs.take i).map g)++(if i=0 then g xs[i] else 44::g xs[i]):=by
 rw [List.take_succ_eq_append_getElem h,List.map_append,List.map_singleton,Z8N]
 congr 1
 by_cases h0:i=0
 ·subst h0;simp
 ·rw [if_neg h0,if_neg]
  intro h1
  have:=congrArg List.length h1
  rw [List.length_map,List.length_take,List.length_nil] at this
  omega
theorem Z7u {xs:List (List Nd)} {i:Nat} (h:i < xs.length):wL xs.flatten=wL (xs.take i).flatten+wL xs[i]+wL (xs.drop (i+1)).flatten:=by
 have h2:xs.flatten=(xs.take i).flatten++(xs.drop i).flatten:=by rw [←List.flatten_append,List.take_append_drop]
 rw [h2,List.drop_eq_getElem_cons h,List.flatten_cons,Z2k,Z2k,Nat.add_assoc]
theorem Z0b {x:List Nd} {xs:List (List Nd)} (h:x∈xs):x.length≤xs.flatten.length:=by
 obtain ⟨a,b,rfl⟩:=List.append_of_mem h
 rw [List.flatten_append,List.flatten_cons,List.length_append,List.length_append]
 omega
theorem Z9e (xs:List (List Nd)) (i:Nat):wL (xs.take i).flatten≤wL xs.flatten:=by
 have h2:xs.flatten=(xs.take i).flatten++(xs.drop i).flatten:=by rw [←List.flatten_append,List.take_append_drop]
 rw [h2,Z2k]
 omega
def NdSh (n:Nd):Prop:=1≤n.kind∧n.kind≤7∧(¬ZF n→n.kids=0)
theorem Z3r {ok:List UInt8→Bool} {n:Nd} (h:Zl ok n=true):NdSh n∧0≤n.kids:=by
 unfold Zl at h
 split at h
 ·cases h
 ·rename_i h1
  unfold NdSh ZF
  omega
theorem Z5e {ok:List UInt8→Bool}:∀ {f d:Nat} {nm:Option (List (List UInt8))} {k:Nat} {l r:List Nd},Z1H ok f d nm k l=some r→∃ a,l=a++r∧Fo k a∧∀ n∈a,NdSh n
 | f,d,nm,0,l,r,h=>by rw [Z21] at h;cases h;exact ⟨[],rfl,.nil,by simp⟩
 | 0,d,nm,k+1,l,r,h=>by cases h
 | f+1,d,nm,k+1,[],r,h=>by cases h
 | f+1,d,nm,k+1,n::t,r,h=>by
  unfold Z1H at h
  simp only at h
  split at h
  ·cases h
  ·rename_i hp
   have hp':Zl ok n=true:=by
    cases hq:Zl ok n with
    | true=>rfl
    | false=>exact absurd (.inl hq) hp
   obtain ⟨h0,h0'⟩:=Z3r hp'
   split at h
   ·cases h
   ·rename_i r' h1
    split at h
    ·cases h
    ·obtain ⟨a,rfl,ha,ha'⟩:=Z5e h1
     obtain ⟨b,rfl,hb,hb'⟩:=Z5e h
     refine ⟨n::(a++b),by simp,.node (by omega) ha hb,fun m hm=>?_⟩
     rcases List.mem_cons.1 hm with rfl|hm
     ·exact h0
     ·exact (List.mem_append.1 hm).elim (ha' m) (hb' m)
theorem Z5V {ok:List UInt8→Bool} {v:List Nd} (h:ZG ok v=true):Fo 1 v∧∀ n∈v,NdSh n:=by
 rw [Z5W] at h
 split at h
 ·rename_i h1
  obtain ⟨a,e,h2,h3⟩:=Z5e h1
  rw [List.append_nil] at e
  subst e
  exact ⟨h2,h3⟩
 ·cases h
theorem Z6P {ok:List UInt8→Bool} {n:Nd} {t:List Nd} (h:ZG ok (n::t)=true):Zl ok n=true:=by
 cases hp:Zl ok n with
 | true=>rfl
 | false =>
  unfold ZG at h
  simp only [shM] at h
  rw [if_pos hp] at h
  cases h
theorem ZcY {t:List UInt8} (h:(numP t).isSome=true):t≠[]:=by
 rintro rfl
 revert h
 decide
theorem Z9u {ok:List UInt8→Bool} {v:List Nd} (h:ZG ok v=true):0 < (Ze v.length v).length:=by
 cases v with
 | nil=>cases h
 | cons n t =>
  have hp:=Z6P h
  rw [List.length_cons,Ze]
  split
  ·simp
  split
  ·simp
  split
  ·simp
  split
  ·rename_i k4
   unfold Zl at hp
   rw [if_pos k4] at hp
   split at hp
   ·cases hp
   ·simp only [Bool.and_eq_true] at hp
    exact List.length_pos_iff.2 (ZcY hp.1.1)
  split
  ·unfold quoS;simp
  ·simp
def Z1L (ok:List UInt8→Bool) (v:List Nd):List UInt8 × Int:=if ZG ok v=true then (if 262144 < (Ze v.length v).length then ([],10) else (Ze v.length v,0)) else ([],31)
end Sg
/- The compact tokens of a JSON form, in plain Lean; by the program's way and by the document's. -/
namespace Sg
def allO {α β:Type} (f:α→Option β):List α→Option (List β)
 | []=>some []
 | x::r=>match f x with
  | none=>none
  | some y=>match allO f r with
   | none=>none
   | some ys=>some (y::ys)
/- By the program's way. -/
end Sg
/- A byte slice of a literal turned into its own type: its block is marked behind its last cell, and only read from then on. -/
namespace Sg
open Go Go.RowKit
instance Rd.mrk {F:World} {M:List Nat} {H:List Res} {b:Nat} {vs:List Value} {E:TypeId} {fr:Nat × Nat}:Rd F M (.obj b (.cells ⟨vs⟩ E fr)::H) (some ⟨b,0,none⟩) vs:=⟨fun w hw j u hu=>⟨⟨b,0,none⟩,rfl,by
 have hb:w.heap[b]?=some (.cells ⟨vs⟩ E fr):=hw.res _ (List.mem_cons_self ..)
 rw [Zo,Nat.zero_add]
 simp [World.cell?,hb,hu]⟩⟩
section
variable {c:Ctx} {H:List Res} {e:Env} {dst:Option Tmp} {ty:TypeId} {pos:String} {aft:Array Edge} {g:Option (Nat × Bool)}
theorem Ef.convM {x:Operand} {b n cp:Nat} {vs:List Value} {t E E':TypeId} (hx:ev e x=some (.slice (some ⟨b,0,none⟩) n cp)) [HU c.P t (.slice E')] [HU c.P E' (.int .u8)] :
  Ef c (.blk b vs E::H) e ⟨dst,.convert t t x,ty,pos,aft,g⟩ fun v H'=>v=.slice (some ⟨b,0,none⟩) n cp∧H'=.obj b (.cells ⟨vs⟩ E (vs.length,vs.length+1))::H:=fun w a hw ha=>by
 have hb:w.heap[b]?=some (.cells ⟨vs⟩ E (0,0)):=hw.res _ (List.mem_cons_self ..)
 have hsh:w.shape? b=some (E,vs.length):=by
  unfold World.shape?
  rw [hb]
  rfl
 have h1:∀ j,b≠j→(w.freeze ⟨b,vs.length,none⟩ 1).heap[j]?=w.heap[j]?:=fun j hj=>by
  unfold World.freeze
  rw [if_neg (by decide)]
  show (w.heap.modify b _)[j]?=_
  rw [Array.getElem?_modify,if_neg hj]
 have h2:(w.freeze ⟨b,vs.length,none⟩ 1).heap[b]?=some (.cells ⟨vs⟩ E (vs.length,vs.length+1)):=by
  unfold World.freeze
  rw [if_neg (by decide)]
  show (w.heap.modify b _)[b]?=_
  rw [Array.getElem?_modify,if_pos rfl,hb]
  rfl
 have h3:(w.freeze ⟨b,vs.length,none⟩ 1).heap.size=w.heap.size:=by
  unfold World.freeze
  rw [if_neg (by decide)]
  simp
 refine ⟨_,w.freeze ⟨b,vs.length,none⟩ 1,_,.inl ?_,?_,rfl,rfl⟩
 ·simp [execOp,ha.ev hx,convert,Z9 (d:=.slice E'),Z9 (d:=.int .u8),markStringish,hsh]
 ·refine hw.turn ?_ ?_ ?_ (Nat.le_of_eq h3.symm) (fun j _ hj=>h1 j (by simpa [Res.foot,eq_comm] using hj)) h2 (fun c hc=>.inl hc) (by simp [Res.foot])
  all_goals (unfold World.freeze;rw [if_neg (by decide)])
end
theorem T.convM {c:Ctx} {dr:Bool} {ds:List Deferred} {H:List Res} {e:Env} {ops:Array Oper} {l:List Oper} {κ:List Res→Env→Prop} {ty:TypeId} {pos:String} {aft:Array Edge} {d:Tmp} {x:Operand} {b n cp:Nat} {vs:List Value} {t E E':TypeId} (hx:ev e x=some (.slice (some ⟨b,0,none⟩) n cp)) [HU c.P t (.slice E')] [HU c.P E' (.int .u8)] (hlt:Nat.blt d c.fn.ntmps=true)
  (hk:Sr (.eff dr) c ds (.obj b (.cells ⟨vs⟩ E (vs.length,vs.length+1))::H) ops l κ ((d,.slice (some ⟨b,0,none⟩) n cp)::e)):Sr (.eff dr) c ds (.blk b vs E::H) ops (⟨some d,.convert t t x,ty,pos,aft,none⟩::l) κ e :=
 Sr.eff (Ef.convM (E':=E') hx) hlt rfl fun v H' ⟨hv,hH⟩=>by
  subst hv hH
  exact hk
end Sg
/- More rules: the complement of a number, shifts of negative ones, a literal as a slice that may grow. -/
namespace Sg
open Go Go.RowKit
theorem St.weakB {F:World} {M:List Nat} {w:World} {H H':List Res} (h:St F M w H) (hf:∀ b∈feet H',b∈feet H) (hn:(feet H').Nodup) (hr:∀ r∈H',r.holds w):St F M w H' :=
 ⟨h.os,h.tape,h.output,h.size,h.keep,fun b hb=>h.own b (hf b hb),hn,hr⟩
theorem St.blkRow {F:World} {M:List Nat} {w:World} {H:List Res} {b n:Nat} {vs:List Value} {E:TypeId} (h:St F M w (.blk b vs E::H)) (hn:vs.length=n) (hm:n≤maxLen):St F M w (.row (some ⟨b,0,none⟩) n E 1 n vs::H):=by
 refine h.weakB (fun _ h=>h) h.nd (fun r hr=>?_)
 rcases List.mem_cons.1 hr with rfl|hr
 ·have hb:w.heap[b]?=some (.cells ⟨vs⟩ E (0,0)):=h.res _ (List.mem_cons_self ..)
  subst hn
  exact ⟨(Nat.mul_one _).symm,.inr ⟨b,vs.length,⟨vs⟩,rfl,Nat.zero_le _,hb,Nat.le_refl _,hm,by simp,by simp⟩⟩
 ·exact h.res r (List.mem_cons_of_mem _ hr)
section
variable {c:Ctx} {dr:Bool} {ds:List Deferred} {H:List Res} {e:Env} {ops:Array Oper} {l:List Oper} {κ:List Res→Env→Prop} {ty:TypeId} {pos:String} {aft:Array Edge} {q:Mode}
theorem S.rowOf {k:List Item} {b n:Nat} {vs:List Value} {E:TypeId} (hn:vs.length=n) (hm:n≤maxLen) (h:S c ds (.row (some ⟨b,0,none⟩) n E 1 n vs::H) k e):S c ds (.blk b vs E::H) k e:=h.weaken fun _ hw=>hw.blkRow hn hm
end
end Sg
/- More rules: a whole slice of records appended. -/
namespace Sg
open Go Go.RowKit
section
variable {c:Ctx} {dr:Bool} {ds:List Deferred} {H:List Res} {e:Env} {ops:Array Oper} {l:List Oper} {κ:List Res→Env→Prop} {ty:TypeId} {pos:String} {aft:Array Edge}
theorem T.appendAllF {α:Type} {g:α→List Value} {sz:Nat} {d:Tmp} {x y:Operand} {ad sad:Option Addr} {n cp m scp t E:Nat} [HU c.P t (.slice E)] {z:Value} {by_:Nat} [HI c.P E z sz by_] {xs us:List α} {f:Res→List Res} (hx:ev e x=some (.slice ad n cp)) (hy:ev e y=some (.slice sad m scp))
  (hr:AtR H ad cp E sz n (xs.flatMap g) f) (hs:Rd c.F c.M H sad (us.flatMap g)) (hm:us.length=m) (hg:∀ a,(g a).length=sz) (hone:∀ a,(g a).all (·.oneCell')=true) (hzs:z.cells.size=sz) (hsz:Nat.blt 0 sz=true) (hroom:(n+m)*by_≤140737488355328∧n+m≤140737488355328) (hlt:Nat.blt d c.fn.ntmps=true)
  (hk:∀ ad' cp',Sr (.eff dr) c ds (f (.row ad' cp' E sz (n+m) ((xs++us).flatMap g))) ops l κ ((d,.slice ad' (n+m) cp')::e)) :
  Sr (.eff dr) c ds H ops (⟨some d,.call ⟨.builtin .append,#[x,y],#[t,t]⟩,ty,pos,aft,none⟩::l) κ e:=by
 have hs0:0 < sz:=by simpa [Nat.blt_eq] using hsz
 have hk':∀ ad' cp',Sr (.eff dr) c ds (f (.row ad' cp' E sz (n+m) (xs.flatMap g++us.flatMap g))) ops l κ ((d,.slice ad' (n+m) cp')::e):=fun ad' cp'=>by rw [←List.flatMap_append];exact hk ad' cp'
 have hfl:(us.flatMap g).length=m*sz:=by rw [Z0Y hg,hm]
 have hall:(us.flatMap g).all (·.oneCell')=true:=by
  rw [List.all_eq_true]
  intro v hv
  obtain ⟨a,_,ha⟩:=List.mem_flatMap.1 hv
  exact List.all_eq_true.1 (hone a) v ha
 cases sad with
 | some q=>exact Sr.appendR (z:=z) (by_:=by_) hx hy (by simp) hfl hall hzs hs0 hroom hlt hk'
 | none =>
  have he:Ef c H e ⟨some d,.call ⟨.builtin .append,#[x,y],#[t,t]⟩,ty,pos,aft,none⟩ (fun v H'=>∃ ad' cp',v=.slice ad' (n+m) cp'∧H'=f (.row ad' cp' E sz (n+m) (xs.flatMap g++us.flatMap g))):=fun w a hw ha=>by
   have hus:us=[]:=by
    cases us with
    | nil=>rfl
    | cons u r =>
     cases hgu:g u with
     | nil =>
      have:=hg u
      rw [hgu] at this
      simp at this
      omega
     | cons v vs =>
      obtain ⟨ad',h1,-⟩:=hs.h w hw 0 v (by simp [hgu])
      cases h1
   subst hus
   subst hm
   obtain ⟨rest,h1,h2⟩:=hr.h
   have hcap:n≤cp:=Z5j ((hw.perm h1).res _ (List.mem_cons_self ..))
   have hrun:=Z5a (P:=c.P) (t:=t) (E:=E) (ty:=ty) (z:=z) (sz:=sz) (by_:=by_) (ad:=ad) (scp:=scp) hcap w
   refine ⟨.slice ad n cp,w,_,.inl (by simp [execOp,ha.ev hx,ha.ev hy,resolve,invoke,builtin,hrun]),hw.perm ((h1.trans ?_)),ad,cp,rfl,rfl⟩
   simpa using h2 (.row ad cp E sz n (xs.flatMap g))
  exact Sr.eff he hlt rfl (fun v H' ⟨ad',cp',hv,hH⟩=>by subst hv hH;exact hk' ad' cp')
end
end Sg
/- The sum of a text by words of 32 bits, in plain Lean: schedule, rounds, blocks, filling; and that both ways to spell a round are one. -/
namespace Sg
def wsr (x:UInt32) (n:Int):UInt32:=x >>> UInt32.ofNat n.toNat
def wsl (x:UInt32) (n:Int):UInt32:=x <<< UInt32.ofNat n.toNat
def rot (n:Int) (x:UInt32):UInt32:=wsr x n|||wsl x (32 - n)
def sm0 (x:UInt32):UInt32:=rot 7 x ^^^ rot 18 x ^^^ wsr x 3
def sm1 (x:UInt32):UInt32:=rot 17 x ^^^ rot 19 x ^^^ wsr x 10
def bs0 (x:UInt32):UInt32:=rot 2 x ^^^ rot 13 x ^^^ rot 22 x
def bs1 (x:UInt32):UInt32:=rot 6 x ^^^ rot 11 x ^^^ rot 25 x
def ch (e f g:UInt32):UInt32:=g ^^^ (e&&&(f ^^^ g))
def mj (a b c:UInt32):UInt32:=(a&&&b)|||(c&&&(a|||b))
def Zdu (a b c d:UInt8):UInt32:=wsl a.toUInt32 24|||wsl b.toUInt32 16|||wsl c.toUInt32 8|||d.toUInt32
def Z2j (l:List UInt8):Nat→List UInt32
 | 0=>[]
 | n+1=>Z2j l n++[Zdu (l.getD (4*n) 0) (l.getD (4*n+1) 0) (l.getD (4*n+2) 0) (l.getD (4*n+3) 0)]
theorem Z09 (l:List UInt8):∀ n,(Z2j l n).length=n
 | 0=>rfl
 | n+1=>by simp [Z2j,Z09 l n]
def sched (m:List UInt32):Nat→List UInt32
 | 0=>m
 | k+1=>sched m k++[(sched m k).getD k 0+(sched m k).getD (k+9) 0+sm0 ((sched m k).getD (k+1) 0)+sm1 ((sched m k).getD (k+14) 0)]
theorem Z0r (m:List UInt32):∀ k,(sched m k).length=m.length+k
 | 0=>rfl
 | k+1=>by simp [sched,Z0r m k];omega
structure V8 where
 a:UInt32
 b:UInt32
 c:UInt32
 d:UInt32
 e:UInt32
 f:UInt32
 g:UInt32
 h:UInt32
def V8.list (v:V8):List UInt32:=[v.a,v.b,v.c,v.d,v.e,v.f,v.g,v.h]
def V8.t (v:V8) (k w:UInt32):UInt32:=v.h+bs1 v.e+ch v.e v.f v.g+k+w
def V8.u (v:V8):UInt32:=bs0 v.a+mj v.a v.b v.c
def V8.step (v:V8) (k w:UInt32):V8:=⟨v.t k w+v.u,v.a,v.b,v.c,v.d+v.t k w,v.e,v.f,v.g⟩
def k256:List UInt32:=[
 0x428a2f98,0x71374491,0xb5c0fbcf,0xe9b5dba5,0x3956c25b,0x59f111f1,0x923f82a4,0xab1c5ed5,
 0xd807aa98,0x12835b01,0x243185be,0x550c7dc3,0x72be5d74,0x80deb1fe,0x9bdc06a7,0xc19bf174,
 0xe49b69c1,0xefbe4786,0x0fc19dc6,0x240ca1cc,0x2de92c6f,0x4a7484aa,0x5cb0a9dc,0x76f988da,
 0x983e5152,0xa831c66d,0xb00327c8,0xbf597fc7,0xc6e00bf3,0xd5a79147,0x06ca6351,0x14292967,
 0x27b70a85,0x2e1b2138,0x4d2c6dfc,0x53380d13,0x650a7354,0x766a0abb,0x81c2c92e,0x92722c85,
 0xa2bfe8a1,0xa81a664b,0xc24b8b70,0xc76c51a3,0xd192e819,0xd6990624,0xf40e3585,0x106aa070,
 0x19a4c116,0x1e376c08,0x2748774c,0x34b0bcb5,0x391c0cb3,0x4ed8aa4a,0x5b9cca4f,0x682e6ff3,
 0x748f82ee,0x78a5636f,0x84c87814,0x8cc70208,0x90befffa,0xa4506ceb,0xbef9a3f7,0xc67178f2]
def start256:V8:=⟨0x6a09e667,0xbb67ae85,0x3c6ef372,0xa54ff53a,0x510e527f,0x9b05688c,0x1f83d9ab,0x5be0cd19⟩
def rounds (W:List UInt32) (v:V8):Nat→V8
 | 0=>v
 | n+1=>(rounds W v n).step (k256.getD n 0) (W.getD n 0)
def V8.add (v u:V8):V8:=⟨v.a+u.a,v.b+u.b,v.c+u.c,v.d+u.d,v.e+u.e,v.f+u.f,v.g+u.g,v.h+u.h⟩
def V8.block (v:V8) (l:List UInt8):V8:=v.add (rounds (sched (Z2j l 16) 48) v 64)
def absorb (l:List UInt8):Nat→V8
 | 0=>start256
 | n+1=>(absorb l n).block ((l.drop (64*n)).take 64)
theorem Z1z (l r:List UInt8):∀ n,64*n≤l.length→absorb (l++r) n=absorb l n
 | 0,_=>rfl
 | n+1,h=>by
  rw [absorb,absorb,Z1z l r n (by omega),List.drop_append_of_le_length (by omega),List.take_append_of_le_length (by rw [List.length_drop];omega)]
def bits8 (n:Nat):List UInt8:=[7,6,5,4,3,2,1,0].map fun i=>UInt8.ofNat (n*8 / 2 ^ (8*i))
def zeros (n:Nat):Nat:=(119 - n % 64) % 64
def padded (l:List UInt8):List UInt8:=l++([128]++List.replicate (zeros l.length) 0++bits8 l.length)
theorem Z8k (n:Nat):(n+1+zeros n) % 64=56∧zeros n < 64:=by unfold zeros;omega
theorem Z6H (n z:Nat) (hz:z < zeros n):(n+1+z) % 64≠56:=by unfold zeros at hz;omega
def bytes4 (x:UInt32):List UInt8:=[(wsr x 24).toUInt8,(wsr x 16).toUInt8,(wsr x 8).toUInt8,x.toUInt8]
def sha256 (l:List UInt8):List UInt8:=(absorb (padded l) ((padded l).length / 64)).list.flatMap bytes4
theorem Z2Z (l:List UInt8):(sha256 l).length=32:=by simp [sha256,V8.list,bytes4]
end Sg
/- Words of 32 bits as values: their operations, rows of them, whole arrays, an index into an array's value, copies into an array. -/
namespace Sg
open Go Go.RowKit
def wV (x:UInt32):Value:=.int .u32 ((x.toNat:Nat):Int)
theorem Zcs (x:UInt32) {n:Nat} (h:n < 32):(wsr x (n:Int)).toNat=x.toNat / 2 ^ n:=by
 unfold wsr
 rw [UInt32.toNat_shiftRight,Int.toNat_natCast,UInt32.toNat_ofNat',Nat.mod_eq_of_lt (show n < 2 ^ 32 by omega),Nat.mod_eq_of_lt h,Nat.shiftRight_eq_div_pow]
theorem Zct (x:UInt32) {n:Nat} (h:n < 32):(wsl x (n:Int)).toNat=x.toNat*2 ^ n % 4294967296:=by
 unfold wsl
 rw [UInt32.toNat_shiftLeft,Int.toNat_natCast,UInt32.toNat_ofNat',Nat.mod_eq_of_lt (show n < 2 ^ 32 by omega),Nat.mod_eq_of_lt h,Nat.shiftLeft_eq]
theorem Z9b (x:UInt32) {k:Nat} (h:k < 32):(x.toNat:Int)*2 ^ k % 4294967296=((wsl x ((k:Nat):Int)).toNat:Int):=by
 rw [Zct x h,Int.natCast_emod,Int.natCast_mul,Int.natCast_pow]
 rfl
theorem Z9a (x:UInt32) {n:Nat} (h:n < 32):(x.toNat:Int) / 2 ^ n=((wsr x (n:Int)).toNat:Int):=by
 rw [Zcs x h,Int.natCast_ediv,Int.natCast_pow]
 rfl
theorem ZaK (x y:UInt32):bits .or .u32 (x.toNat:Int) (y.toNat:Int)=((x|||y).toNat:Int):=by
 have:=Zch (UInt32.toNat_lt x) (UInt32.toNat_lt y)
 rw [UInt32.toNat_or]
 exact this
theorem Zbg (x:UInt32) {n k:Nat} (h:n+k=32) (h0:0 < n) (hk:0 < k):bits .or .u32 ((x.toNat:Int) / 2 ^ n) ((x.toNat:Int)*2 ^ k % 4294967296)=((rot n x).toNat:Int):=by
 rw [Z9a x (by omega),Z9b x (by omega),ZaK,rot,show (32 - (n:Int))=(k:Int) by omega]
theorem Z9S (a b:Int):bits .or .u32 a b=bits .or .u32 b a:=by
 unfold bits
 simp only [BitVec.or_comm]
theorem Ze5 {xs:List UInt32}:(xs.map wV).all (·.oneCell')=true:=by simp [wV,Value.oneCell']
theorem getW {xs:List UInt32} {j:Nat} (h:j < xs.length):(xs.map wV)[j]?=some (wV (xs.getD j 0)):=by
 simp [List.getD,h]
section
variable {q:Mode} {c:Ctx} {ds:List Deferred} {H:List Res} {ops:Array Oper} {l:List Oper} {κ:List Res→Env→Prop} {dr:Bool} {e:Env} {ty:TypeId} {pos:String} {aft:Array Edge}
theorem T.wadd {x y:Operand} {d:Tmp} {t u:TypeId} {a b:UInt32} (hx:ev e x=some (wV a)) (hy:ev e y=some (wV b)) (hlt:Nat.blt d c.fn.ntmps=true) (hk:Sr q c ds H ops l κ ((d,wV (a+b))::e)) :
  Sr q c ds H ops (⟨some d,.binOp .add t x y u,ty,pos,aft,none⟩::l) κ e:=Sr.p (Pu.add hx hy (by rw [Z5d,UInt32.toNat_add];omega)) rfl hlt rfl hk
theorem T.wxor {x y:Operand} {d:Tmp} {t u:TypeId} {a b:UInt32} (hx:ev e x=some (wV a)) (hy:ev e y=some (wV b)) (hlt:Nat.blt d c.fn.ntmps=true) (hk:Sr q c ds H ops l κ ((d,wV (a ^^^ b))::e)) :
  Sr q c ds H ops (⟨some d,.binOp .xor t x y u,ty,pos,aft,none⟩::l) κ e:=Sr.p (Pu.xor hx hy (by rw [UInt32.toNat_xor];exact Zcr (UInt32.toNat_lt a) (UInt32.toNat_lt b))) rfl hlt rfl hk
theorem T.wand {x y:Operand} {d:Tmp} {t u:TypeId} {a b:UInt32} (hx:ev e x=some (wV a)) (hy:ev e y=some (wV b)) (hlt:Nat.blt d c.fn.ntmps=true) (hk:Sr q c ds H ops l κ ((d,wV (a&&&b))::e)) :
  Sr q c ds H ops (⟨some d,.binOp .and t x y u,ty,pos,aft,none⟩::l) κ e:=Sr.p (Pu.and hx hy (by rw [UInt32.toNat_and];exact Zdq (UInt32.toNat_lt a) (UInt32.toNat_lt b))) rfl hlt rfl hk
theorem T.wor {x y:Operand} {d:Tmp} {t u:TypeId} {a b:UInt32} (hx:ev e x=some (wV a)) (hy:ev e y=some (wV b)) (hlt:Nat.blt d c.fn.ntmps=true) (hk:Sr q c ds H ops l κ ((d,wV (a|||b))::e)) :
  Sr q c ds H ops (⟨some d,.binOp .or t x y u,ty,pos,aft,none⟩::l) κ e:=Sr.p (Pu.or hx hy (by rw [UInt32.toNat_or];exact Zch (UInt32.toNat_lt a) (UInt32.toNat_lt b))) rfl hlt rfl hk
theorem T.wshl {x y:Operand} {d:Tmp} {t u:TypeId} {a:UInt32} {kd':IntKind} {n:Int} (hx:ev e x=some (wV a)) (hy:ev e y=some (.int kd' n)) (hn:0≤n∧n < 32) (hlt:Nat.blt d c.fn.ntmps=true) (hk:Sr q c ds H ops l κ ((d,wV (wsl a n))::e)) :
  Sr q c ds H ops (⟨some d,.binOp .shl t x y u,ty,pos,aft,none⟩::l) κ e:=Sr.p (Pu.shl hx hy hn.1 (by
 obtain ⟨m,rfl⟩:∃ m:Nat,n=(m:Int):=⟨n.toNat,by omega⟩
 have h1:Min.min (m:Int).toNat IntKind.u32.bits=m:=by show Min.min (m:Int).toNat 32=m;omega
 rw [Z5d,h1,Z9b a (by omega)])) rfl hlt rfl hk
theorem T.wshr {x y:Operand} {d:Tmp} {t u:TypeId} {a:UInt32} {kd':IntKind} {n:Int} (hx:ev e x=some (wV a)) (hy:ev e y=some (.int kd' n)) (hn:0≤n∧n < 32) (hlt:Nat.blt d c.fn.ntmps=true) (hk:Sr q c ds H ops l κ ((d,wV (wsr a n))::e)) :
  Sr q c ds H ops (⟨some d,.binOp .shr t x y u,ty,pos,aft,none⟩::l) κ e:=Sr.p (Pu.shr hx hy hn.1 (by
 obtain ⟨m,rfl⟩:∃ m:Nat,n=(m:Int):=⟨n.toNat,by omega⟩
 have h1:Min.min (m:Int).toNat IntKind.u32.bits=m:=by show Min.min (m:Int).toNat 32=m;omega
 rw [h1,Int.fdiv_eq_ediv_of_nonneg _ (by have:=Int.pow_pos (n:=(2:Int)) (m:=m) (by decide);omega),Z9a a (by omega)])) rfl hlt rfl hk
theorem T.wconvB {x:Operand} {d:Tmp} {s t:TypeId} {b:UInt8} {dd:TypeDesc} [HU c.P s dd] [HU c.P t (.int .u32)] (hx:ev e x=some (.int .u8 (b.toNat:Int))) (hlt:Nat.blt d c.fn.ntmps=true) (hk:Sr q c ds H ops l κ ((d,wV b.toUInt32)::e)) :
  Sr q c ds H ops (⟨some d,.convert s t x,ty,pos,aft,none⟩::l) κ e:=Sr.p (Pu.conv (d:=dd) hx (by
 have:=UInt8.toNat_lt b
 rw [Z5d,UInt8.toNat_toUInt32];omega)) rfl hlt rfl hk
theorem T.wbyte {x:Operand} {d:Tmp} {s t:TypeId} {a:UInt32} {dd:TypeDesc} [HU c.P s dd] [HU c.P t (.int .u8)] (hx:ev e x=some (wV a)) (hlt:Nat.blt d c.fn.ntmps=true) (hk:Sr q c ds H ops l κ ((d,.int .u8 (a.toUInt8.toNat:Int))::e)) :
  Sr q c ds H ops (⟨some d,.convert s t x,ty,pos,aft,none⟩::l) κ e:=Sr.p (Pu.conv (d:=dd) hx (by rw [Z5c,UInt32.toNat_toUInt8];omega)) rfl hlt rfl hk
theorem T.subKN {x y:Operand} {d:Tmp} {t u:TypeId} {m:Nat} (n:Nat) (hx:ev e x=some (.int .i64 (m:Int))) (hy:ev e y=some (.int .i64 (n:Int))) (h:n≤m∧m < 9223372036854775808) (hlt:Nat.blt d c.fn.ntmps=true) (hk:Sr q c ds H ops l κ ((d,.int .i64 ((m - n:Nat):Int))::e)) :
  Sr q c ds H ops (⟨some d,.binOp .sub t x y u,ty,pos,aft,none⟩::l) κ e:=Sr.p (Pu.sub hx hy (by rw [show (m:Int) - n=((m - n:Nat):Int) by omega];exact IntWalk.i64_in _ (by omega))) rfl hlt rfl hk
theorem T.mulKN {x y:Operand} {d:Tmp} {t u:TypeId} {m:Nat} (n:Nat) (hx:ev e x=some (.int .i64 (n:Int))) (hy:ev e y=some (.int .i64 (m:Int))) (h:n*m < 9223372036854775808) (hlt:Nat.blt d c.fn.ntmps=true) (hk:Sr q c ds H ops l κ ((d,.int .i64 ((n*m:Nat):Int))::e)) :
  Sr q c ds H ops (⟨some d,.binOp .mul t x y u,ty,pos,aft,none⟩::l) κ e:=Sr.p (Pu.mul hx hy (by rw [show (n:Int)*m=((n*m:Nat):Int) by push_cast;rfl];exact IntWalk.i64_in _ (by omega))) rfl hlt rfl hk
theorem T.addKN {x y:Operand} {d:Tmp} {t u:TypeId} {m:Nat} (n:Nat) (hx:ev e x=some (.int .i64 (m:Int))) (hy:ev e y=some (.int .i64 (n:Int))) (h:m+n < 9223372036854775808) (hlt:Nat.blt d c.fn.ntmps=true) (hk:Sr q c ds H ops l κ ((d,.int .i64 ((m+n:Nat):Int))::e)) :
  Sr q c ds H ops (⟨some d,.binOp .add t x y u,ty,pos,aft,none⟩::l) κ e:=Sr.p (Pu.add hx hy (by rw [show (m:Int)+n=((m+n:Nat):Int) by push_cast;rfl];exact IntWalk.i64_in _ (by omega))) rfl hlt rfl hk
theorem T.sliceAN {x lo:Operand} {d:Tmp} {b off n:Nat} {kd:IntKind} {i:Nat} {t E:TypeId} {z:Value} {by_:Nat} [HU c.P t (.array n E)] [HI c.P E z 1 by_] (hx:ev e x=some (.pointer (some ⟨b,off,none⟩))) (hl:ev e lo=some (.int kd (i:Int)))
  (h0:i < n) (hlt:Nat.blt d c.fn.ntmps=true) (hk:Sr q c ds H ops l κ ((d,.slice (some ⟨b,off+i,none⟩) (n - i) (n - i))::e)):Sr q c ds H ops (⟨some d,.slice t x (some lo) none none,ty,pos,aft,none⟩::l) κ e :=
 T.sliceA (n:=n) (E:=E) (z:=z) (sz:=1) (by_:=by_) hx hl (by omega) hlt (by simpa using hk)
theorem T.pcall {d:Tmp} {args:List Operand} {ats:Array TypeId} {g:FuncId} {vs:List Value} {v:Value} (hargs:evs e args=some vs) (hhf:HF c.P g) (hlt:Nat.blt d c.fn.ntmps=true) (hsp:PCall c.P g vs v) (hk:Sr (.eff dr) c ds H ops l κ ((d,v)::e)) :
  Sr (.eff dr) c ds H ops (⟨some d,.call ⟨.value (.func g),args.toArray,ats⟩,ty,pos,aft,none⟩::l) κ e:=Sr.call hargs hlt hsp.of (fun en H' h=>by obtain ⟨rfl,rfl⟩:=h;exact hk)
theorem T.addNN {x y:Operand} {d:Tmp} {t u:TypeId} {m n:Nat} (hx:ev e x=some (.int .i64 (m:Int))) (hy:ev e y=some (.int .i64 (n:Int))) (h:m+n < 9223372036854775808) (hlt:Nat.blt d c.fn.ntmps=true) (hk:Sr q c ds H ops l κ ((d,.int .i64 ((m+n:Nat):Int))::e)) :
  Sr q c ds H ops (⟨some d,.binOp .add t x y u,ty,pos,aft,none⟩::l) κ e:=T.addKN n hx hy h hlt hk
theorem T.convBU64 {x:Operand} {d:Tmp} {s t:TypeId} {m:Nat} {dd:TypeDesc} [HU c.P s dd] [HU c.P t (.int .u8)] (hx:ev e x=some (.int .u64 (m:Int))) (hlt:Nat.blt d c.fn.ntmps=true) (hk:Sr q c ds H ops l κ ((d,.int .u8 ((UInt8.ofNat m).toNat:Int))::e)) :
  Sr q c ds H ops (⟨some d,.convert s t x,ty,pos,aft,none⟩::l) κ e:=Sr.p (Pu.conv (d:=dd) hx (by rw [Z5c,UInt8.toNat_ofNat'];omega)) rfl hlt rfl hk
theorem T.append4 {d:Tmp} {x y:Operand} {ad:Option Addr} {n cp b t E Eb:Nat} {m₀ m₁ m₂ m₃:UInt8} [HU c.P t (.slice E)] {z:Value} {by_:Nat} [HI c.P E z 1 by_] {xs:List UInt8} {f:Res→List Res} (hx:ev e x=some (.slice ad n cp)) (hy:ev e y=some (.slice (some ⟨b,0,none⟩) 4 4))
  (hr:AtR H ad cp E 1 n (xs.map bV) f) (hzs:z.cells.size=1) (hroom:(n+4)*by_≤140737488355328∧n+4≤140737488355328) (hlt:Nat.blt d c.fn.ntmps=true)
  (hk:∀ ad' cp',Sr (.eff dr) c ds (f (.row ad' cp' E 1 (n+4) ((xs++[m₀,m₁,m₂,m₃]).map bV))) ops l κ ((d,.slice ad' (n+4) cp')::e)) :
  Sr (.eff dr) c ds (.blk b [.int .u8 (m₀.toNat:Int),.int .u8 (m₁.toNat:Int),.int .u8 (m₂.toNat:Int),.int .u8 (m₃.toNat:Int)] Eb::H) ops (⟨some d,.call ⟨.builtin .append,#[x,y],#[t,t]⟩,ty,pos,aft,none⟩::l) κ e:=Sr.append (z:=z) (by_:=by_) hx hy rfl rfl hzs (by omega) hroom hlt (fun ad' cp'=>by
  have:=hk ad' cp'
  rw [List.map_append] at this
  exact this)
theorem T.append3 {d:Tmp} {x y:Operand} {ad:Option Addr} {n cp b t E Eb:Nat} {m₀ m₁ m₂:UInt8} [HU c.P t (.slice E)] {z:Value} {by_:Nat} [HI c.P E z 1 by_] {xs:List UInt8} {f:Res→List Res} (hx:ev e x=some (.slice ad n cp)) (hy:ev e y=some (.slice (some ⟨b,0,none⟩) 3 3))
  (hr:AtR H ad cp E 1 n (xs.map bV) f) (hzs:z.cells.size=1) (hroom:(n+3)*by_≤140737488355328∧n+3≤140737488355328) (hlt:Nat.blt d c.fn.ntmps=true)
  (hk:∀ ad' cp',Sr (.eff dr) c ds (f (.row ad' cp' E 1 (n+3) ((xs++[m₀,m₁,m₂]).map bV))) ops l κ ((d,.slice ad' (n+3) cp')::e)) :
  Sr (.eff dr) c ds (.blk b [.int .u8 (m₀.toNat:Int),.int .u8 (m₁.toNat:Int),.int .u8 (m₂.toNat:Int)] Eb::H) ops (⟨some d,.call ⟨.builtin .append,#[x,y],#[t,t]⟩,ty,pos,aft,none⟩::l) κ e:=Sr.append (z:=z) (by_:=by_) hx hy rfl rfl hzs (by omega) hroom hlt (fun ad' cp'=>by
  have:=hk ad' cp'
  rw [List.map_append] at this
  exact this)
theorem T.append2 {d:Tmp} {x y:Operand} {ad:Option Addr} {n cp b t E Eb:Nat} {m₀ m₁:UInt8} [HU c.P t (.slice E)] {z:Value} {by_:Nat} [HI c.P E z 1 by_] {xs:List UInt8} {f:Res→List Res} (hx:ev e x=some (.slice ad n cp)) (hy:ev e y=some (.slice (some ⟨b,0,none⟩) 2 2))
  (hr:AtR H ad cp E 1 n (xs.map bV) f) (hzs:z.cells.size=1) (hroom:(n+2)*by_≤140737488355328∧n+2≤140737488355328) (hlt:Nat.blt d c.fn.ntmps=true)
  (hk:∀ ad' cp',Sr (.eff dr) c ds (f (.row ad' cp' E 1 (n+2) ((xs++[m₀,m₁]).map bV))) ops l κ ((d,.slice ad' (n+2) cp')::e)) :
  Sr (.eff dr) c ds (.blk b [.int .u8 (m₀.toNat:Int),.int .u8 (m₁.toNat:Int)] Eb::H) ops (⟨some d,.call ⟨.builtin .append,#[x,y],#[t,t]⟩,ty,pos,aft,none⟩::l) κ e:=Sr.append (z:=z) (by_:=by_) hx hy rfl rfl hzs (by omega) hroom hlt (fun ad' cp'=>by
  have:=hk ad' cp'
  rw [List.map_append] at this
  exact this)
theorem T.mulNK {x y:Operand} {d:Tmp} {t u:TypeId} {m:Nat} (n:Nat) (hx:ev e x=some (.int .i64 (m:Int))) (hy:ev e y=some (.int .i64 (n:Int))) (h:m*n < 9223372036854775808) (hlt:Nat.blt d c.fn.ntmps=true) (hk:Sr q c ds H ops l κ ((d,.int .i64 ((m*n:Nat):Int))::e)) :
  Sr q c ds H ops (⟨some d,.binOp .mul t x y u,ty,pos,aft,none⟩::l) κ e:=Sr.p (Pu.mul hx hy (by rw [show (m:Int)*n=((m*n:Nat):Int) by push_cast;rfl];exact IntWalk.i64_in _ (by omega))) rfl hlt rfl hk
theorem T.makeB0 {d:Tmp} {x y:Operand} {kd kd':IntKind} {n:Nat} {t E:TypeId} [HU c.P t (.slice E)] [HI c.P E (.int .u8 0) 1 1] (hx:ev e x=some (.int kd 0)) (hy:ev e y=some (.int kd' (n:Int))) (hn:n≤281474976710656) (hd:Nat.blt d c.fn.ntmps=true)
  (hk:∀ b,Sr (.eff dr) c ds (.row (some ⟨b,0,none⟩) n E 1 0 (([]:List UInt8).map bV)::H) ops l κ ((d,.slice (some ⟨b,0,none⟩) 0 n)::e)):Sr (.eff dr) c ds H ops (⟨some d,.makeSlice t x y,ty,pos,aft,none⟩::l) κ e :=
 Sr.eff (K:=fun v H'=>∃ b,v=.slice (some ⟨b,0,none⟩) 0 n∧H'=.row (some ⟨b,0,none⟩) n E 1 0 (([]:List UInt8).map bV)::H) (fun w a hw ha=>by
  obtain ⟨i,hi1,hi2,hi3,hi4⟩:=HI.h (P:=c.P) (t:=E) (z:=.int .u8 0) (sz:=1) (by_:=1)
  have hr:=run_make (P:=c.P) w t E i (.int .u8 0) (HU.h (P:=c.P) (t:=t)) hi1 hi2 kd kd' 0 n (Int.le_refl _) (by omega) (by rw [hi4];omega) (by omega)
  simp only [Int.toNat_natCast,hi3,Nat.mul_one,Int.toNat_zero] at hr
  have hms:(madeCells (Value.int IntKind.u8 0).cells n).size=n:=by simp [madeCells]
  generalize madeCells (Value.int IntKind.u8 0).cells n=cs at hr hms
  refine ⟨.slice (some ⟨w.heap.size,0,none⟩) 0 n,w.alloc (.cells cs E),_,.inl (by simp only [execOp,ha.ev hx,ha.ev hy,Sem.run_bind,hr,Result.andThen_ok,Sem.run_pure]),hw.fresh (r':=.row (some ⟨w.heap.size,0,none⟩) n E 1 0 (([]:List UInt8).map bV)) rfl rfl rfl (by simp) (fun j hj=>Below.heap_alloc _ _ _ hj) ?_ (fun b hb=>by simp only [Res.foot,List.mem_singleton] at hb;omega) (by simp [Res.foot]),_,rfl,rfl⟩
  refine ⟨rfl,.inr ⟨w.heap.size,n,cs,rfl,Nat.zero_le _,heap_alloc_new w _,Nat.zero_le _,by unfold maxLen;omega,by rw [hms,Nat.mul_one],by simp⟩⟩) hd rfl
  (fun v H' ⟨b,hv,hH⟩=>by subst hv hH;exact hk b)
theorem T.loadGW {x:Operand} {d b i:Nat} {t:TypeId} [HU c.P t (.int .u32)] {xs:List UInt32} (hx:ev e x=some (.pointer (some ⟨b,i,none⟩))) (hr:Rd c.F c.M H (some ⟨b,0,none⟩) (xs.map wV)) (hi:i < xs.length) (hlt:Nat.blt d c.fn.ntmps=true)
  (hk:Sr q c ds H ops l κ ((d,wV (xs.getD i 0))::e)):Sr q c ds H ops (⟨some d,.load t x,ty,pos,aft,none⟩::l) κ e :=
 Sr.p (Pu.loadE (ad:=some ⟨b,0,none⟩) (j:=i) (d:=.int .u32) (by rw [hx];simp [eaddr,Zo]) rfl (getW hi)) rfl hlt rfl hk
theorem T.loadGA {x:Operand} {d b:Nat} {t:TypeId} {dd:TypeDesc} [HU c.P t dd] {z:Value} {n by_:Nat} [HI c.P t z n by_] {vs:List Value} (hx:ev e x=some (.pointer (some ⟨b,0,none⟩))) (hd:plain dd=false) (hr:Rd c.F c.M H (some ⟨b,0,none⟩) vs) (hn:vs.length=n) (h0:0 < n) (hlt:Nat.blt d c.fn.ntmps=true)
  (hk:Sr q c ds H ops l κ ((d,.agg ⟨vs⟩)::e)):Sr q c ds H ops (⟨some d,.load t x,ty,pos,aft,none⟩::l) κ e:=by
 have:=Pu.loadEN (c:=c) (H:=H) (e:=e) (x:=x) (dst:=some d) (ty:=ty) (pos:=pos) (aft:=aft) (g:=none) (t:=t) (dd:=dd) (z:=z) (by_:=by_) (n:=n) (vs:=vs) (ad:=some ⟨b,0,none⟩) (j:=0) hd (by rw [hx];simp [eaddr,Zo]) hr h0 (by omega)
 rw [List.drop_zero,List.take_of_length_le (by omega)] at this
 exact Sr.p this rfl hlt rfl hk
theorem T.storeWK {x y:Operand} {b i:Nat} {a:UInt32} {t:TypeId} {z:Value} {by_:Nat} [HI c.P t z 1 by_] {vs:List Value} {xs:List UInt32} {E:TypeId} {f:Res→List Res} (hx:ev e x=some (.pointer (some ⟨b,i,none⟩))) (hy:ev e y=some (wV a))
  (hb:AtB H b vs E f) (hvs:vs=xs.map wV) (hi:i < xs.length) (hk:Sr (.eff dr) c ds (f (.blk b ((xs.set i a).map wV) E)) ops l κ e):Sr (.eff dr) c ds H ops (⟨none,.store t x y,ty,pos,aft,none⟩::l) κ e:=by
 subst hvs
 refine Sr.store (z:=z) (by_:=by_) hx hy (by simpa using hi) rfl ?_
 rw [←List.map_set]
 exact hk
theorem T.widx {x y:Operand} {d:Tmp} {t E:TypeId} {n i:Nat} {kd:IntKind} {z:Value} {by_:Nat} [HU c.P t (.array n E)] [HU c.P E (.int .u32)] [HI c.P E z 1 by_] {xs:List UInt32} (hx:ev e x=some (.agg ⟨xs.map wV⟩)) (hy:ev e y=some (.int kd (i:Int))) (hi:i < n∧i < xs.length) (hlt:Nat.blt d c.fn.ntmps=true)
  (hk:Sr q c ds H ops l κ ((d,wV (xs.getD i 0))::e)):Sr q c ds H ops (⟨some d,.index t x y,ty,pos,aft,none⟩::l) κ e :=
 Sr.p (fun w a _ ha=>by
  have h1:=getW hi.2
  generalize xs.getD i 0=r at *
  simp only [List.getElem?_map] at h1
  simp [execOp,ha.ev hx,ha.ev hy,Instr.index,asIntOf,Z9 (d:=.array n E),ZO (z:=z) (sz:=1) (b:=by_),part,Z2E (d:=.int .u32),plain,hi.1,h1]) rfl hlt rfl hk
theorem T.sliceALH {x lo hi:Operand} {d:Tmp} {b off n:Nat} {kd kd':IntKind} {i j:Nat} {t E:TypeId} {z:Value} {by_:Nat} [HU c.P t (.array n E)] [HI c.P E z 1 by_] (hx:ev e x=some (.pointer (some ⟨b,off,none⟩))) (hl:ev e lo=some (.int kd (i:Int))) (hh:ev e hi=some (.int kd' (j:Int)))
  (h0:i≤j∧j≤n∧i < n) (hlt:Nat.blt d c.fn.ntmps=true) (hk:Sr q c ds H ops l κ ((d,.slice (some ⟨b,off+i,none⟩) (j - i) (n - i))::e)):Sr q c ds H ops (⟨some d,.slice t x (some lo) (some hi) none,ty,pos,aft,none⟩::l) κ e :=
 Sr.p (fun w a _ ha=>by
  have h1:0≤(j:Int)∧(j:Int)≤(n:Int):=by omega
  have h2:0≤(i:Int)∧(i:Int)≤(j:Int):=by omega
  have h3:¬n=i:=by omega
  simp [execOp,ha.ev hx,ha.ev hl,ha.ev hh,Instr.sliceAt,Instr.sureAddr,Instr.sliceBounds,Z9 (d:=.array n E),ZO (z:=z) (sz:=1) (b:=by_),ZH h1,ZH h2,h3,Zo]) rfl hlt rfl hk
theorem Sr.copyB {d:Tmp} {x y:Operand} {b o dl dc m scp k t t' E Eb:Nat} {sad:Option Addr} [HU c.P t (.slice E)] {z:Value} {by_:Nat} [HI c.P E z 1 by_] {vs us:List Value} {f:Res→List Res} (hx:ev e x=some (.slice (some ⟨b,o,none⟩) dl dc)) (hy:ev e y=some (.slice sad m scp))
  (hb:AtB H b vs Eb f) (hs:Rd c.F c.M H sad us) (hm:us.length=m) (h0:0 < m) (hk0:min m dl=k) (ho:o+k≤vs.length) (h1:us.all (·.oneCell')=true) (hlt:Nat.blt d c.fn.ntmps=true)
  (hk:Sr (.eff dr) c ds (f (.blk b (vs.take o++us.take k++vs.drop (o+k)) Eb)) ops l κ ((d,.int .i64 (k:Int))::e)) :
  Sr (.eff dr) c ds H ops (⟨some d,.call ⟨.builtin .copy,#[x,y],#[t,t']⟩,ty,pos,aft,none⟩::l) κ e :=
 Sr.eff (K:=fun v H'=>v=.int .i64 (k:Int)∧H'=f (.blk b (vs.take o++us.take k++vs.drop (o+k)) Eb)) (fun w a hw ha=>by
  obtain ⟨rest,p1,p2⟩:=hb.h
  have hw':=hw.perm p1
  have hblk:w.heap[b]?=some (.cells ⟨vs⟩ Eb (0,0)):=hw'.res _ (List.mem_cons_self ..)
  obtain ⟨q0,rfl,-⟩:=hs.h w hw 0 us[0] (List.getElem?_eq_getElem (by omega))
  have hlen:(us.take k).length=k:=by rw [List.length_take];omega
  have hP:c.P.underlying t=some (.slice E):=HU.h
  obtain ⟨ti,hi,_,hsz,_⟩:=HI.h (P:=c.P) (t:=E)
  have hsrc:∀ j v,(us.take k)[j]?=some v→w.cell? (q0.add j)=some v:=fun j v hj=>by
   have hjk:j < k:=by have:=(List.getElem?_eq_some_iff.1 hj).1;omega
   rw [List.getElem?_take_of_lt hjk] at hj
   obtain ⟨q1,h2,h3⟩:=hs.h w hw j v hj
   simp only [Option.some.injEq] at h2
   subst h2
   exact h3
  have hrun:=run_copy_row c.P w t t' ty E b o dl dc q0 m scp ⟨vs⟩ Eb (us.take k) hP (by rw [hi];simp [hsz]) hblk (by rw [hlen,←hk0]) hsrc (by rw [hlen];simpa using ho) (fun v hv=>List.all_eq_true.1 h1 v (List.mem_of_mem_take hv))
  rw [hlen] at hrun
  refine ⟨goInt k,w.setRow b ((⟨vs⟩:Array Value).toList.take o++us.take k++(⟨vs⟩:Array Value).toList.drop (o+k)).toArray,_,.inl (by simp only [execOp,ha.ev hx,ha.ev hy,resolve,invoke,builtin];simp [ha.ev hx,ha.ev hy,resolve,invoke,builtin,-List.append_assoc,hrun]),St.perm (hw'.turn (r':=.blk b (vs.take o++us.take k++vs.drop (o+k)) Eb) rfl rfl rfl (by simp) (fun q _ hq=>by rw [setRow_other];simpa [Res.foot] using hq) ?_ (fun q hq=>.inl hq) (by simp [Res.foot])) (p2 _),rfl,rfl⟩
  have:=setRow_heap w b ⟨vs⟩ (vs.take o++us.take k++vs.drop (o+k)).toArray Eb (0,0) hblk
  simpa [Res.holds] using this) hlt rfl (fun v H' ⟨h2,h3⟩=>by subst h2 h3;exact hk)
end
end Sg
/- Bytes spelled in 64 signs, in plain Lean: by groups of three bytes, and by bits. -/
namespace Sg
def grp (bs:List UInt8) (q:Nat):Nat:=(bs.getD (3*q) 0).toNat*65536+(bs.getD (3*q+1) 0).toNat*256+(bs.getD (3*q+2) 0).toNat
def six (bs:List UInt8) (i:Nat):Nat:=grp bs (i / 4) / 64 ^ (3 - i % 4) % 64
def Z0e (n:Nat):Nat:=(8*n+5) / 6
def enc (S bs:List UInt8):List UInt8:=(List.range (Z0e bs.length)).map fun i=>S.getD (six bs i) 0
theorem Z9w (bs:List UInt8) (i:Nat):six bs i < 64:=Nat.mod_lt _ (by decide)
theorem Z5A (S bs:List UInt8):(enc S bs).length=Z0e bs.length:=by simp [enc]
theorem ZdT {a b c:Nat} (hb:b < 256) (hc:c < 256):a*2 ^ 16|||b*2 ^ 8|||c=a*65536+b*256+c:=by
 have h1:a*2 ^ 16|||b*2 ^ 8=a*2 ^ 16+b*2 ^ 8:=by
  rw [Nat.mul_comm a]
  exact (Nat.two_pow_add_eq_or_of_lt (by omega) a).symm
 rw [h1,show a*2 ^ 16+b*2 ^ 8=2 ^ 8*(a*256+b) by omega,←Nat.two_pow_add_eq_or_of_lt (by omega)]
theorem b64and63 (n:Nat):n&&&63=n % 64:=by rw [show 63=2 ^ 6 - 1 from rfl,Nat.and_two_pow_sub_one_eq_mod]
theorem and3 (n:Nat):n&&&3=n % 4:=by rw [show 3=2 ^ 2 - 1 from rfl,Nat.and_two_pow_sub_one_eq_mod]
theorem b64and15 (n:Nat):n&&&15=n % 16:=by rw [show 15=2 ^ 4 - 1 from rfl,Nat.and_two_pow_sub_one_eq_mod]
theorem or16 {a b:Nat} (hb:b < 16):a*2 ^ 4|||b=a*16+b:=by
 rw [Nat.mul_comm a,←Nat.two_pow_add_eq_or_of_lt (by omega)]
def urlS:List UInt8:=[65,66,67,68,69,70,71,72,73,74,75,76,77,78,79,80,81,82,83,84,85,86,87,88,89,90,97,98,99,100,101,102,103,104,105,106,107,108,109,110,111,112,113,114,115,116,117,118,119,120,121,122,48,49,50,51,52,53,54,55,56,57,45,95]
theorem range2 {α:Type} (f:Nat→α) (n:Nat):(List.range (n+2)).map f=(List.range n).map f++[f n,f (n+1)]:=by
 simp [List.range_succ]
theorem range3 {α:Type} (f:Nat→α) (n:Nat):(List.range (n+3)).map f=(List.range n).map f++[f n,f (n+1),f (n+2)]:=by
 simp [List.range_succ]
theorem range4 {α:Type} (f:Nat→α) (n:Nat):(List.range (n+4)).map f=(List.range n).map f++[f n,f (n+1),f (n+2),f (n+3)]:=by
 simp [List.range_succ]
end Sg
/- Bytes out of 64 signs, in plain Lean. -/
namespace Sg
def sgn (s:List UInt8) (k:Nat):Nat:=match s[k]? with
 | some c=>urlS.idxOf c
 | none=>0
def dgrp (s:List UInt8) (q:Nat):Nat:=sgn s (4*q)*262144+sgn s (4*q+1)*4096+sgn s (4*q+2)*64+sgn s (4*q+3)
def decB (s:List UInt8):List UInt8:=(List.range (s.length*6 / 8)).map fun i=>UInt8.ofNat (dgrp s (i / 3) / 256 ^ (2 - i % 3))
def Z1B (s:List UInt8):Bool:=if s.length % 4=3 then decide (dgrp s (s.length / 4) % 256=0) else if s.length % 4=2 then decide (dgrp s (s.length / 4) % 65536=0) else true
def badB (s:List UInt8):Nat:=s.findIdx fun c=>!(urlS.contains c)
def decX (s:List UInt8):List UInt8 × Int × Nat:=if badB s < s.length then ([],20,badB s) else if s.length % 4=1 then ([],21,s.length) else if Z1B s=true then (decB s,0,0) else ([],22,s.length - 1)
theorem Z8f (s:List UInt8):(decB s).length=s.length*6 / 8:=by simp [decB]
theorem Zbc (s:List UInt8) (o k:Nat):sgn (s.drop o) k=sgn s (o+k):=by
 unfold sgn
 rw [List.getElem?_drop]
theorem ZcL {s:List UInt8} {k:Nat} (h:k < s.length):sgn s k=urlS.idxOf (s.getD k 0):=by
 unfold sgn
 rw [List.getElem?_eq_getElem h]
 simp [List.getD,h]
theorem Z6Q {s:List UInt8} {k:Nat} (h:s.length≤k):sgn s k=0:=by
 unfold sgn
 rw [List.getElem?_eq_none h]
theorem Zdo {s:List UInt8} {i:Nat} (hi:i < s.length) (h:s.getD i 0∉urlS) (hb:∀ j,j < i→s.getD j 0∈urlS):badB s=i:=by
 unfold badB
 rw [List.findIdx_eq hi]
 have e:∀ j (hj:j < s.length),s.getD j 0=s[j]:=fun j hj=>by simp [List.getD,hj]
 refine ⟨?_,fun j hj=>?_⟩
 ·rw [e i hi] at h
  simpa using h
 ·have:=hb j hj
  rw [e j (by omega)] at this
  simpa using this
theorem Zcm (c:UInt8):∀ l:List UInt8,c∈l→Go.Lib.indexByte l c=(l.idxOf c:Int)
 | [],h=>by cases h
 | b::l,h=>by
  unfold Go.Lib.indexByte
  by_cases hb:b=c
  ·subst hb
   simp
  ·rw [if_neg (by simpa using hb),List.idxOf_cons,show (b==c)=false by simpa using hb]
   have h2:c∈l:=by
    rcases List.mem_cons.1 h with h|h
    ·exact absurd h.symm hb
    ·exact h
   rw [Zcm c l h2,if_neg (by simp only [beq_iff_eq];omega)]
   rfl
theorem Zan (c:UInt8):∀ l:List UInt8,Go.Lib.indexByte l c < 0↔c∉l
 | []=>by simp [Go.Lib.indexByte]
 | b::l=>by
  have ih:=Zan c l
  have hge:=Go.Lib.indexByte_ge l c
  unfold Go.Lib.indexByte
  by_cases h:b=c
  ·subst h
   simp
  ·have h':¬c=b:=fun e=>h e.symm
   simp only [beq_iff_eq,h,if_false,List.mem_cons,h',false_or]
   rw [←ih]
   split<;>omega
theorem Z91 (s:List UInt8) (q:Nat):(List.range (3*(q+1))).map (fun i=>UInt8.ofNat (dgrp s (i / 3) / 256 ^ (2 - i % 3)))=(List.range (3*q)).map (fun i=>UInt8.ofNat (dgrp s (i / 3) / 256 ^ (2 - i % 3)))++[UInt8.ofNat (dgrp s q / 65536),UInt8.ofNat (dgrp s q / 256),UInt8.ofNat (dgrp s q)]:=by
 rw [show 3*(q+1)=3*q+3 from rfl,range3,show 3*q / 3=q by omega,show (3*q+1) / 3=q by omega,show (3*q+2) / 3=q by omega,show 3*q % 3=0 by omega,show (3*q+1) % 3=1 by omega,show (3*q+2) % 3=2 by omega]
 simp
theorem Z7k {a b c d:Nat} (hb:b < 64) (hc:c < 64) (hd:d < 64):((a*2 ^ 18|||b*2 ^ 12)|||c*2 ^ 6)|||d=a*262144+b*4096+c*64+d:=by
 have e1:a*2 ^ 18|||b*2 ^ 12=a*2 ^ 18+b*2 ^ 12:=by
  rw [Nat.mul_comm a,←Nat.two_pow_add_eq_or_of_lt (by omega)]
 have e2:(a*2 ^ 18+b*2 ^ 12)|||c*2 ^ 6=a*2 ^ 18+b*2 ^ 12+c*2 ^ 6:=by
  rw [show a*2 ^ 18+b*2 ^ 12=2 ^ 12*(a*64+b) by omega,←Nat.two_pow_add_eq_or_of_lt (by omega)]
 have e3:(a*2 ^ 18+b*2 ^ 12+c*2 ^ 6)|||d=a*2 ^ 18+b*2 ^ 12+c*2 ^ 6+d:=by
  rw [show a*2 ^ 18+b*2 ^ 12+c*2 ^ 6=2 ^ 6*(a*4096+b*64+c) by omega,←Nat.two_pow_add_eq_or_of_lt (by omega)]
 rw [e1,e2,e3]
end Sg
/- What is revealed, in plain Lean: the answer, and the bounds of its nodes. -/
namespace Sg
def shaN:List UInt8:=[115,104,97,45,50,53,54]
def Z1k (v:List Nd):Prop:=match memV v algN with
 | none=>False
 | some k=>¬((Z3 k).kind=5∧(Z3 k).text=shaN)
instance (v:List Nd):Decidable (Z1k v):=by
 unfold Z1k
 split<;>infer_instance
def dupL (met:List Dg):Bool:=!decide met.Nodup
def Z31 (ok:List UInt8→Bool) (rd:List UInt8→Option Said) (v:List Nd) (ts:List (List UInt8)):Int × List Nd :=
 if ZG ok v=false∨(Z3 v).kind≠7 then (200,[]) else if Z1k v then (200,[]) else
 match allO rd ts with
 | none=>(200,[])
 | some L=>if dupL (L.map (·.dig))=true then (201,[]) else
  match revV (v.length+pend L []+1) L true [] v [] with
  | none=>(200,[])
  | some (m,y)=>if dupL m=true∨∃ s∈L,s.dig∉m then (201,[]) else if ZG ok y=false then (11,[]) else (0,y)
def addQ {β:Type} (ys:List β):Option (List β)→Option (List β)
 | none=>none
 | some zs=>some (ys++zs)
theorem Zc4 {β:Type} (o:Option (List β)):addQ [] o=o:=by cases o<;>rfl
theorem Zds {α β:Type} {f:α→Option β} {x:α} {r:List α} {y:β} (h:f x=some y) (ys:List β):addQ ys (allO f (x::r))=addQ (ys++[y]) (allO f r):=by
 have h2:allO f (x::r)=match allO f r with
   | none=>none
   | some ys=>some (y::ys):=by rw [allO];simp only [h];try rfl
 rw [h2]
 cases allO f r<;>simp [addQ]
theorem Zdr {α β:Type} {f:α→Option β} {x:α} {r:List α} (h:f x=none) (ys:List β):addQ ys (allO f (x::r))=none:=by
 unfold allO
 rw [h]
 rfl
def NdB (n:Nd):Prop:=n.text.length≤2200000∧n.key.length≤2200000
def AllB (x:List Nd):Prop:=∀ n∈x,NdB n
theorem AllB.kids {x:List Nd} (hx:Fo 1 x) (h:AllB x):∀ y∈kidsOf x 0,AllB y:=by
 obtain ⟨-,-,h3,-⟩:=Zj hx
 intro y hy n hn
 refine h n ?_
 rw [h3]
 exact List.mem_cons_of_mem _ (List.mem_flatten.2 ⟨y,hy,hn⟩)
theorem AllB.head {x:List Nd} (hx:Fo 1 x) (h:AllB x):NdB (Z3 x):=by
 obtain ⟨-,-,h3,-⟩:=Zj hx
 exact h _ (by rw [h3];exact List.mem_cons_self ..)
def Bounds (val:RevV) (L:List Said):Prop:=∀ met x key m y,Vl x→AllB x→key.length≤2200000→val met x key=some (m,y)→AllB y
def LOk (L:List Said):Prop:=∀ s∈L,Vl s.value∧AllB s.value∧s.name.length≤2200000
theorem Z49 {val:RevV} {L:List Said} (hv:Bounds val L) (hL:LOk L):∀ (r:List (List Nd)) (met:List Dg) (ys:List (List Nd)) (m:List Dg) (zs:List (List Nd)),(∀ y∈r,Vl y∧AllB y)→(∀ y∈ys,AllB y)→Zu val L met ys r=some (m,zs)→∀ y∈zs,AllB y
 | [],met,ys,m,zs,_,hy,h=>by
  rw [Zu] at h
  cases h
  exact hy
 | x::r,met,ys,m,zs,hr,hy,h=>by
  have hx:=hr x (List.mem_cons_self ..)
  have hr':∀ y∈r,Vl y∧AllB y:=fun y h=>hr y (List.mem_cons_of_mem _ h)
  have app:∀ {y},AllB y→∀ z∈ys++[y],AllB z:=fun h z hz=>(List.mem_append.1 hz).elim (hy z) fun e=>by rw [List.mem_singleton.1 e];exact h
  rw [Zu] at h
  split at h
  ·split at h
   ·cases h
   ·rename_i m1 y h1
    exact Z49 hv hL r m1 _ m zs hr' (app (hv _ _ _ _ _ hx.1 hx.2 (by simp) h1)) h
  ·split at h
   ·split at h
    ·exact Z49 hv hL r _ ys m zs hr' hy h
    ·rename_i s hs
     obtain ⟨hs1,hs2⟩:=Z0I hs
     obtain ⟨l1,l2,l3⟩:=hL s hs1
     split at h
     ·cases h
     ·split at h
      ·exact Z49 hv hL r _ ys m zs hr' hy h
      ·split at h
       ·cases h
       ·rename_i m1 y h1
        exact Z49 hv hL r m1 _ m zs hr' (app (hv _ _ _ _ _ l1 l2 (by simp) h1)) h
   ·cases h
theorem Z2K {val:RevV} {L:List Said} (hv:Bounds val L) {top:Bool}:∀ (r:List (List Nd)) (met:List Dg) (ys:List (List Nd)) (m:List Dg) (zs:List (List Nd)),(∀ y∈r,Vl y∧AllB y)→(∀ y∈ys,AllB y)→Zg val top met ys r=some (m,zs)→∀ y∈zs,AllB y
 | [],met,ys,m,zs,_,hy,h=>by
  rw [Zg] at h
  cases h
  exact hy
 | x::r,met,ys,m,zs,hr,hy,h=>by
  have hx:=hr x (List.mem_cons_self ..)
  have hr':∀ y∈r,Vl y∧AllB y:=fun y h=>hr y (List.mem_cons_of_mem _ h)
  have app:∀ {y},AllB y→∀ z∈ys++[y],AllB z:=fun h z hz=>(List.mem_append.1 hz).elim (hy z) fun e=>by rw [List.mem_singleton.1 e];exact h
  rw [Zg] at h
  split at h
  ·exact Z2K hv r _ ys m zs hr' hy h
  ·split at h
   ·exact Z2K hv r _ ys m zs hr' hy h
   ·split at h
    ·cases h
    ·rename_i m1 y h1
     exact Z2K hv r m1 _ m zs hr' (app (hv _ _ _ _ _ hx.1 hx.2 (hx.2.head hx.1.1).2 h1)) h
theorem Z5B {val:RevV} {L:List Said} (hv:Bounds val L) (hL:LOk L):∀ (r:List (List Nd)) (met:List Dg) (ns:List (List UInt8)) (ys:List (List Nd)) (m:List Dg) (zs:List (List Nd)),(∀ y∈ys,AllB y)→Zq val L met ns ys r=some (m,zs)→∀ y∈zs,AllB y
 | [],met,ns,ys,m,zs,hy,h=>by
  rw [Zq] at h
  cases h
  exact hy
 | x::r,met,ns,ys,m,zs,hy,h=>by
  have app:∀ {y},AllB y→∀ z∈ys++[y],AllB z:=fun h z hz=>(List.mem_append.1 hz).elim (hy z) fun e=>by rw [List.mem_singleton.1 e];exact h
  rw [Zq] at h
  split at h
  ·split at h
   ·exact Z5B hv hL r _ _ ys m zs hy h
   ·rename_i s hs
    obtain ⟨hs1,hs2⟩:=Z0I hs
    obtain ⟨l1,l2,l3⟩:=hL s hs1
    split at h
    ·split at h
     ·exact Z5B hv hL r _ _ ys m zs hy h
     ·split at h
      ·cases h
      ·rename_i m1 y h1
       exact Z5B hv hL r m1 _ _ m zs (app (hv _ _ _ _ _ l1 l2 l3 h1)) h
    ·cases h
  ·cases h
theorem ZcP {kind:Int} {key:List UInt8} {ys:List (List Nd)} (hk:key.length≤2200000) (h:∀ y∈ys,AllB y):AllB (rowN kind key ys):=fun n hn=>by
 rcases List.mem_cons.1 hn with rfl|hn
 ·exact ⟨Nat.zero_le _,hk⟩
 ·obtain ⟨y,h1,h2⟩:=List.mem_flatten.1 hn
  exact h y h1 n h2
theorem ZdI {L:List Said} (hL:LOk L):∀ (f:Nat) (top:Bool),Bounds (revV f L top) L
 | 0,top=>fun met x key m y _ _ _ h=>by cases h
 | f+1,top=>fun met x key m y hx hb hk h=>by
  have ih:=ZdI hL f false
  have hkk:∀ y∈kidsOf x 0,Vl y∧AllB y:=fun y hy=>⟨hx.kids y hy,hb.kids hx.1 y hy⟩
  rw [revV] at h
  simp only at h
  split at h
  ·split at h
   ·cases h
   ·split at h
    ·cases h
    ·rename_i m1 ys h1
     have h2:=Z2K ih (kidsOf x 0) met [] m1 ys hkk (fun y hy=>by cases hy) h1
     split at h
     ·cases h
      exact ZcP hk h2
     ·split at h
      ·split at h
       ·cases h
       ·rename_i m2 zs h5
        have h6:=Z5B ih hL _ _ _ _ _ _ h2 h5
        cases h
        exact ZcP hk h6
      ·cases h
  ·split at h
   ·split at h
    ·cases h
    ·rename_i m1 ys h1
     have h2:=Z49 ih hL (kidsOf x 0) met [] m1 ys hkk (fun y hy=>by cases hy) h1
     cases h
     exact ZcP hk h2
   ·cases h
    intro n hn
    obtain rfl:=List.mem_singleton.1 hn
    exact ⟨(hb.head hx.1).1,hk⟩
theorem ZcN {dg:List UInt8} {v:List Nd} {s:Said} (hv:Vl v) (hb:AllB v) (h:Z2i dg v=some s):s.dig=dg∧s.value.length+2≤v.length∧Vl s.value∧AllB s.value∧s.name.length≤2200000:=by
 have hk:=hv.kids
 have hkb:=hb.kids hv.1
 obtain ⟨h1,-,-,-⟩:=Zj hv.1
 unfold Z2i at h
 split at h
 ·match hks:kidsOf v 0 with
  | []=>rw [hks] at h;cases h
  | [_]=>rw [hks] at h;cases h
  | [a,x] =>
   rw [hks] at h hk hkb h1
   have ha:=(hk a (by simp)).1.pos
   simp only at h
   split at h
   ·cases h
    refine ⟨rfl,?_,hk x (by simp),hkb x (by simp),by simp⟩
    simp only [List.flatten_cons,List.flatten_nil,List.append_nil,List.length_append] at h1
    show x.length+2≤v.length
    omega
   ·cases h
  | [a,n,x] =>
   rw [hks] at h hk hkb h1
   have ha:=(hk a (by simp)).1.pos
   have hn:=(hk n (by simp)).1
   simp only at h
   split at h
   ·cases h
    refine ⟨rfl,?_,hk x (by simp),hkb x (by simp),((hkb n (by simp)).head hn).1⟩
    simp only [List.flatten_cons,List.flatten_nil,List.append_nil,List.length_append] at h1
    show x.length+2≤v.length
    omega
   ·cases h
  | _::_::_::_::_=>rw [hks] at h;cases h
 ·cases h
theorem ZcR {dg b:List UInt8} {s:Said} (h:Z4z dg (some b)=some s):s.dig=dg∧s.value.length+2≤b.length∧Vl s.value∧AllB s.value∧s.name.length≤2200000:=by
 unfold Z4z at h
 simp only at h
 split at h
 ·cases h
 ·rename_i a v hp
  obtain ⟨h1,h2,h3⟩:=Z3s hp
  obtain ⟨q1,q2,q3⟩:=ZcN ⟨Z1r hp,Z4T hp⟩ (fun n hn=>⟨Nat.le_trans (h2 n hn).text (by omega),Nat.le_trans (h2 n hn).key (by omega)⟩) h
  exact ⟨q1,by omega,q3⟩
end Sg
