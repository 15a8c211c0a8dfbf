/- Texts put together by a program: GtP Rune JsnB JsnR JsnC JsnD JsnK. -/
import Derived.Test.YthomgjihagigcaaGreatDoorMa
import Derived.Test.YthomgjihagigcaaGreatDoorMb
import Derived.Shelf.Utf8.AppendRunePlain
import Derived.Shelf.Unicode.DecodeAny
import Derived.Test.YthomgjihagigcaaGreatDoorProg
/- Plain: reading a rule: where the reading ends, or the code. -/
namespace Sg
inductive Rz
 | no (c:Int)
 | to (p:Nat)
def runE (f:UInt8→Bool) (t:List UInt8) (p:Nat):Nat:=p+((t.drop p).takeWhile f).length
theorem Z4W (t:List UInt8) (p:Nat):Z2 t p=runE Z12 t p:=rfl
theorem Z5q (t:List UInt8) (p:Nat):Z3 t p=runE Za t p:=rfl
section
variable {f:UInt8→Bool} {t:List UInt8} {p:Nat}
theorem Z1m:p≤runE f t p:=Nat.le_add_right ..
theorem Z1Z (h:p≤t.length):runE f t p≤t.length:=by
 have:=(List.takeWhile_sublist f (l:=t.drop p)).length_le
 rw [List.length_drop] at this
 unfold runE
 omega
theorem ZE (h:p < t.length):t.drop p=t.getD p 0::t.drop (p+1):=by
 rw [List.drop_eq_getElem_cons h]
 simp [List.getD,h]
theorem Z1l (h:p < t.length) (hf:f (t.getD p 0)=true):runE f t p=runE f t (p+1):=by
 unfold runE
 rw [ZE h,List.takeWhile_cons_of_pos hf,List.length_cons]
 omega
theorem Z1k (h:p < t.length) (hf:f (t.getD p 0)=false):runE f t p=p:=by
 unfold runE
 rw [ZE h,List.takeWhile_cons_of_neg (by rw [hf];simp)]
 rfl
theorem Z0r (h:t.length≤p):runE f t p=p:=by
 unfold runE
 rw [List.drop_eq_nil_of_le h]
 rfl
theorem Z6g:∀ {n p:Nat},t.length - p≤n→runE f t p < t.length→f (t.getD (runE f t p) 0)=false:=by
 intro n
 induction n with
 | zero =>
  intro p hn h
  rw [Z0r (by omega)] at h
  omega
 | succ n ih =>
  intro p hn h
  by_cases hp:p < t.length
  ·cases hf:f (t.getD p 0) with
   | true =>
    rw [Z1l hp hf] at h ⊢
    exact ih (by omega) h
   | false=>rw [Z1k hp hf];exact hf
  ·rw [Z0r (by omega)] at h
   omega
end
def letB (c:UInt8):Bool:=decide (97≤c.toNat∧c.toNat≤122∨65≤c.toNat∧c.toNat≤90∨c.toNat=95)
def wdB (c:UInt8):Bool:=letB c || Za c
def wdE (t:List UInt8) (p:Nat):Nat:=runE wdB t p
def wdX (t:List UInt8) (p:Nat):List UInt8:=sl t p (wdE t p)
def kAnd:List UInt8:=[97,110,100]
def kOr:List UInt8:=[111,114]
def kNot:List UInt8:=[110,111,116]
def kHas:List UInt8:=[104,97,115]
def kCon:List UInt8:=[99,111,110,116,97,105,110,115]
def kTrue:List UInt8:=[116,114,117,101]
def kFalse:List UInt8:=[102,97,108,115,101]
def kNull:List UInt8:=[110,117,108,108]
def kwL:List (List UInt8):=[kAnd,kOr,kNot,kHas,kCon,kTrue,kFalse,kNull]
def plB (s:List UInt8):Bool:=decide (s=[48]∨s≠[]∧s.getD 0 0≠48)
def strL:List UInt8→Option Nat
 | []=>none
 | [c]=>if c=34 then some 0 else none
 | c::d::r=>if c=34 then some 0 else if c=92 then (strL r).map (·+2) else (strL (d::r)).map (·+1)
def strE (t:List UInt8) (e:Nat):Option Nat:=(strL (t.drop e)).map (·+e)
theorem Z36 {t:List UInt8} {e:Nat} (h:t.length≤e):strE t e=none:=by
 unfold strE
 rw [List.drop_eq_nil_of_le h]
 rfl
theorem Z4g {t:List UInt8} {e:Nat} (h:e < t.length) (hc:t.getD e 0=34):strE t e=some e:=by
 unfold strE
 rw [ZE h,hc]
 cases t.drop (e+1) with
 | nil=>simp [strL]
 | cons d r=>simp [strL]
theorem Z4h {t:List UInt8} {e:Nat} (h:e < t.length) (hc:t.getD e 0=92):strE t e=strE t (e+2):=by
 unfold strE
 rw [ZE h,hc]
 by_cases h2:e+1 < t.length
 ·rw [ZE h2]
  simp only [strL]
  rw [if_neg (by decide),if_pos trivial,Option.map_map]
  congr 1
  funext x
  simp only [Function.comp]
  omega
 ·rw [List.drop_eq_nil_of_le (show t.length≤e+1 by omega),List.drop_eq_nil_of_le (show t.length≤e+2 by omega)]
  rfl
theorem Z68 {t:List UInt8} {e:Nat} (h:e < t.length) (h1:t.getD e 0≠92) (h2:t.getD e 0≠34):strE t e=strE t (e+1):=by
 unfold strE
 rw [ZE h]
 generalize t.getD e 0=c at *
 cases t.drop (e+1) with
 | nil=>simp [strL,h2]
 | cons d r =>
  simp only [strL]
  rw [if_neg h2,if_neg h1,Option.map_map]
  congr 1
  funext x
  simp only [Function.comp]
  omega
theorem Z7T {t:List UInt8}:∀ {n e x:Nat},t.length - e≤n→strE t e=some x→e≤x∧x < t.length:=by
 intro n
 induction n with
 | zero =>
  intro e x hn h
  rw [Z36 (by omega)] at h
  cases h
 | succ n ih =>
  intro e x hn h
  by_cases h0:e < t.length
  ·by_cases h1:t.getD e 0=92
   ·rw [Z4h h0 h1] at h
    have:=ih (by omega) h
    omega
   ·by_cases h2:t.getD e 0=34
    ·rw [Z4g h0 h2] at h
     cases h
     omega
    ·rw [Z68 h0 h1 h2] at h
     have:=ih (by omega) h
     omega
  ·rw [Z36 (by omega)] at h
   cases h
def Z1M (t:List UInt8) (q:Nat):Rz :=
 match strE t (q+1) with
 | none=>.no 180
 | some e=>match ZM Z9 (sl t q (e+1)) with
  | .ok _ _=>.to (e+1)
  | .bad _ _=>.no 180
def Z1C (t:List UInt8) (first:Bool) (p:Nat):Rz :=
 if Z2 t p < t.length then
  if t.getD (Z2 t p) 0=34 then Z1M t (Z2 t p)
  else if letB (t.getD (Z2 t p) 0)=true then (if wdX t (Z2 t p)∈kwL then .no 180 else .to (wdE t (Z2 t p)))
  else if Za (t.getD (Z2 t p) 0)=true then (if (first || !plB (sl t (Z2 t p) (Z3 t (Z2 t p))))=true then .no 180 else .to (Z3 t (Z2 t p)))
  else .no 180
 else .no 180
def Z0J (t:List UInt8):Nat→Nat→Rz
 | 0,q=>.to q
 | k+1,q=>if Z2 t q < t.length∧t.getD (Z2 t q) 0=46 then
   match Z1C t false (Z2 t q+1) with
   | .no c=>.no c
   | .to r=>Z0J t k r
  else .to (Z2 t q)
def Z17 (t:List UInt8) (p:Nat):Rz :=
 match Z1C t true p with
 | .no c=>.no c
 | .to q=>Z0J t (t.length+1) q
def numC (c:UInt8):Bool:=Za c || decide (c.toNat=43∨c.toNat=45∨c.toNat=46∨c.toNat=101∨c.toNat=69)
def gVal (t:List UInt8) (only:Bool) (p:Nat):Rz :=
 if Z2 t p < t.length then
  if t.getD (Z2 t p) 0=34 then Z1M t (Z2 t p)
  else if only=true then .no 180
  else if Za (t.getD (Z2 t p) 0)=true∨(t.getD (Z2 t p) 0).toNat=45 then
   (if (numP (sl t (Z2 t p) (runE numC t (Z2 t p)))).isSome=true then .to (runE numC t (Z2 t p)) else .no 180)
  else if wdX t (Z2 t p)=kTrue then .to (Z2 t p+4)
  else if wdX t (Z2 t p)=kFalse then .to (Z2 t p+5)
  else if wdX t (Z2 t p)=kNull then .to (Z2 t p+4)
  else .no 180
 else .no 180
def gOp (t:List UInt8) (p:Nat):Option (Bool × Nat) :=
 if Z2 t p < t.length then
  if wdX t (Z2 t p)=kCon then some (true,Z2 t p+8)
  else if (t.getD (Z2 t p) 0).toNat=33∧Z2 t p+1 < t.length∧(t.getD (Z2 t p+1) 0).toNat=61 then some (false,Z2 t p+2)
  else if (t.getD (Z2 t p) 0).toNat=60∧Z2 t p+1 < t.length∧(t.getD (Z2 t p+1) 0).toNat=61 then some (false,Z2 t p+2)
  else if (t.getD (Z2 t p) 0).toNat=62∧Z2 t p+1 < t.length∧(t.getD (Z2 t p+1) 0).toNat=61 then some (false,Z2 t p+2)
  else if (t.getD (Z2 t p) 0).toNat=61 then some (false,Z2 t p+1)
  else if (t.getD (Z2 t p) 0).toNat=60 then some (false,Z2 t p+1)
  else if (t.getD (Z2 t p) 0).toNat=62 then some (false,Z2 t p+1)
  else none
 else none
def Z2i (t:List UInt8) (p:Nat):Rz :=
 match Z17 t p with
 | .no c=>.no c
 | .to q=>match gOp t q with
  | none=>.no 180
  | some (b,r)=>gVal t b r
def Z0A (t:List UInt8) (A:Nat→Rz) (w:List UInt8):Nat→Nat→Rz
 | 0,q=>.to q
 | k+1,q=>if wdX t (Z2 t q)=w then
   match A (Z2 t q+w.length) with
   | .no c=>.no c
   | .to r=>Z0A t A w k r
  else .to (Z2 t q)
def ZW (t:List UInt8) (A:Nat→Rz) (w:List UInt8) (p:Nat):Rz :=
 match A p with
 | .no c=>.no c
 | .to q=>Z0A t A w (t.length+1) q
def Z3l (t:List UInt8) (A:Nat→Rz) (p:Nat):Rz:=ZW t (ZW t A kAnd) kOr p
def Z4H (t:List UInt8):Rz→Rz
 | .no c=>.no c
 | .to r=>if Z2 t r < t.length∧(t.getD (Z2 t r) 0).toNat=41 then .to (Z2 t r+1) else .no 180
def ZV (t:List UInt8):Nat→Nat→Rz
 | 0,p =>
  if wdX t (Z2 t p)=kNot then .no 11
  else if wdX t (Z2 t p)=kHas then Z17 t (Z2 t p+3)
  else if Z2 t p < t.length∧(t.getD (Z2 t p) 0).toNat=40 then .no 11
  else Z2i t (Z2 t p)
 | d+1,p =>
  if wdX t (Z2 t p)=kNot then ZV t d (Z2 t p+3)
  else if wdX t (Z2 t p)=kHas then Z17 t (Z2 t p+3)
  else if Z2 t p < t.length∧(t.getD (Z2 t p) 0).toNat=40 then Z4H t (Z3l t (ZV t d) (Z2 t p+1))
  else Z2i t (Z2 t p)
def Z4p (t:List UInt8):Int :=
 if 1024 < t.length then 10 else
 match Z3l t (ZV t 32) 0 with
 | .no c=>c
 | .to q=>if Z2 t q < t.length then 180 else 0
def RzO (t:List UInt8) (lo:Nat):Rz→Prop
 | .no c=>c=180∨c=11
 | .to r=>lo≤r∧r≤t.length
section
variable {t:List UInt8} {p q:Nat}
theorem RzO.le {a b:Nat} {z:Rz} (h:RzO t b z) (hab:a≤b):RzO t a z:=by
 cases z with
 | no c=>exact h
 | to r=>exact ⟨Nat.le_trans hab h.1,h.2⟩
theorem Zi:p≤Z2 t p:=Z1m
theorem Zj (h:p≤t.length):Z2 t p≤t.length:=Z1Z h
theorem ZZ:Z2 t (Z2 t p)=Z2 t p:=by
 rw [Z4W,Z4W]
 by_cases h:runE Z12 t p < t.length
 ·exact Z1k h (Z6g (Nat.le_refl _) h)
 ·exact Z0r (by omega)
theorem Z4c:p≤wdE t p:=Z1m
theorem Z1v (h:p≤t.length):wdE t p≤t.length:=Z1Z h
theorem ZO {a b:Nat} (h:b≤t.length):(sl t a b).length=b - a:=by
 unfold sl
 rw [List.length_take,List.length_drop]
 omega
theorem Z32 (h:p≤t.length):(wdX t p).length=wdE t p - p:=ZO (Z1v h)
theorem Z33 (h:t.length≤p):wdX t p=[]:=by
 unfold wdX sl
 rw [List.drop_eq_nil_of_le h,List.take_nil]
theorem Zu {w:List UInt8} (hw:w≠[]) (h:wdX t p=w):p < t.length∧p+w.length=wdE t p∧wdE t p≤t.length:=by
 by_cases hp:p < t.length
 ·have h1:=Z32 (t:=t) (p:=p) (by omega)
  rw [h] at h1
  have h2:=Z1v (t:=t) (p:=p) (by omega)
  have h3:=Z4c (t:=t) (p:=p)
  exact ⟨hp,by omega,h2⟩
 ·rw [Z33 (by omega)] at h
  exact absurd h.symm hw
theorem Z1S {w:List UInt8} (hw:w≠[]) (h:wdX t p=w):t.getD p 0=w.getD 0 0:=by
 obtain ⟨h1,h2,h3⟩:=Zu hw h
 subst h
 unfold wdX sl
 rw [ZE h1]
 have:wdE t p - p=(wdE t p - p - 1)+1:=by
  have:(wdX t p).length≠0:=fun h0=>hw (List.length_eq_zero_iff.1 h0)
  omega
 rw [this]
 rfl
theorem Z7z:p≤Z3 t p:=Z1m
theorem Z3p (h:p≤t.length):Z3 t p≤t.length:=Z1Z h
theorem Z5a (h:q≤t.length):RzO t (q+2) (Z1M t q):=by
 unfold Z1M
 cases hs:strE t (q+1) with
 | none=>exact .inl rfl
 | some e =>
  have:=Z7T (Nat.le_refl _) hs
  dsimp only
  cases ZM Z9 (sl t q (e+1)) with
  | ok a l=>exact ⟨by omega,by omega⟩
  | bad c a=>exact .inl rfl
theorem Z16 (h:p < t.length) (hc:letB (t.getD p 0)=true):p+1≤wdE t p:=by
 unfold wdE
 rw [Z1l h (by unfold wdB;rw [hc];rfl)]
 exact Z1m
theorem Z2W (h:p < t.length) (hc:Za (t.getD p 0)=true):p+1≤Z3 t p:=by
 rw [Z5q,Z1l h hc]
 exact Z1m
theorem Z0S {first:Bool}:RzO t (p+1) (Z1C t first p):=by
 unfold Z1C
 have h1:=Zi (t:=t) (p:=p)
 split
 ·rename_i h2
  split
  ·exact (Z5a (by omega)).le (by omega)
  ·split
   ·rename_i h3
    split
    ·exact .inl rfl
    ·have:=Z16 h2 h3
     have:=Z1v (t:=t) (p:=Z2 t p) (by omega)
     exact ⟨by omega,by omega⟩
   ·split
    ·rename_i h3
     split
     ·exact .inl rfl
     ·have:=Z2W h2 h3
      have:=Z3p (t:=t) (p:=Z2 t p) (by omega)
      exact ⟨by omega,by omega⟩
    ·exact .inl rfl
 ·exact .inl rfl
theorem Z3U:∀ {k q:Nat},q≤t.length→RzO t q (Z0J t k q)
 | 0,q,h=>⟨Nat.le_refl _,h⟩
 | k+1,q,h=>by
  rw [Z0J]
  have h1:=Zi (t:=t) (p:=q)
  have h2:=Zj (t:=t) (p:=q) h
  split
  ·have h3:=Z0S (t:=t) (p:=Z2 t q+1) (first:=false)
   cases hp:Z1C t false (Z2 t q+1) with
   | no c=>rw [hp] at h3;exact h3
   | to r =>
    rw [hp] at h3
    exact (Z3U h3.2).le (by have:=h3.1;omega)
  ·exact ⟨h1,h2⟩
theorem gpath_ok:RzO t (p+1) (Z17 t p):=by
 unfold Z17
 have h3:=Z0S (t:=t) (p:=p) (first:=true)
 cases hp:Z1C t true p with
 | no c=>rw [hp] at h3;exact h3
 | to r =>
  rw [hp] at h3
  exact (Z3U h3.2).le h3.1
theorem gval_ok {only:Bool}:RzO t p (gVal t only p):=by
 unfold gVal
 have h1:=Zi (t:=t) (p:=p)
 split
 ·rename_i h2
  split
  ·exact (Z5a (by omega)).le (by omega)
  ·split
   ·exact .inl rfl
   ·split
    ·split
     ·have:=Z1Z (f:=numC) (t:=t) (p:=Z2 t p) (by omega)
      have:=Z1m (f:=numC) (t:=t) (p:=Z2 t p)
      exact ⟨by omega,by omega⟩
     ·exact .inl rfl
    ·split
     ·rename_i h3
      obtain ⟨_,h4,h5⟩:=Zu (by decide) h3
      have:kTrue.length=4:=rfl
      exact ⟨by omega,by omega⟩
     ·split
      ·rename_i h3
       obtain ⟨_,h4,h5⟩:=Zu (by decide) h3
       have:kFalse.length=5:=rfl
       exact ⟨by omega,by omega⟩
      ·split
       ·rename_i h3
        obtain ⟨_,h4,h5⟩:=Zu (by decide) h3
        have:kNull.length=4:=rfl
        exact ⟨by omega,by omega⟩
       ·exact .inl rfl
 ·exact .inl rfl
theorem Z6I {b:Bool} {r:Nat} (h:gOp t p=some (b,r)):p+1≤r∧r≤t.length:=by
 unfold gOp at h
 have h1:=Zi (t:=t) (p:=p)
 split at h
 ·rename_i h2
  split at h
  ·rename_i h3
   obtain ⟨_,h4,h5⟩:=Zu (by decide) h3
   have:kCon.length=8:=rfl
   simp only [Option.some.injEq,Prod.mk.injEq] at h
   omega
  ·repeat' split at h
   all_goals first|(simp only [Option.some.injEq,Prod.mk.injEq] at h;omega)|cases h
 ·cases h
theorem gtest_ok:RzO t (p+1) (Z2i t p):=by
 unfold Z2i
 have h3:=gpath_ok (t:=t) (p:=p)
 cases hp:Z17 t p with
 | no c=>rw [hp] at h3;exact h3
 | to q =>
  rw [hp] at h3
  dsimp only
  cases ho:gOp t q with
  | none=>exact .inl rfl
  | some br =>
   obtain ⟨b,r⟩:=br
   have:=Z6I ho
   exact gval_ok.le (by have:=h3.1;omega)
theorem Z5b {A:Nat→Rz} {w:List UInt8} (hw:w≠[]) (hA:∀ p,p≤t.length→RzO t (p+1) (A p)):∀ {k q:Nat},q≤t.length→RzO t q (Z0A t A w k q)
 | 0,q,h=>⟨Nat.le_refl _,h⟩
 | k+1,q,h=>by
  rw [Z0A]
  have h1:=Zi (t:=t) (p:=q)
  have h2:=Zj (t:=t) (p:=q) h
  split
  ·rename_i h3
   obtain ⟨_,h4,h5⟩:=Zu hw h3
   have h6:=hA (Z2 t q+w.length) (by omega)
   cases hp:A (Z2 t q+w.length) with
   | no c=>rw [hp] at h6;exact h6
   | to r =>
    rw [hp] at h6
    exact (Z5b hw hA h6.2).le (by have:=h6.1;omega)
  ·exact ⟨h1,h2⟩
theorem Z5c {A:Nat→Rz} {w:List UInt8} (hw:w≠[]) (hA:∀ p,p≤t.length→RzO t (p+1) (A p)) (hp:p≤t.length):RzO t (p+1) (ZW t A w p):=by
 unfold ZW
 have h3:=hA p hp
 cases hp:A p with
 | no c=>rw [hp] at h3;exact h3
 | to r =>
  rw [hp] at h3
  exact (Z5b hw hA h3.2).le h3.1
theorem Z1q {A:Nat→Rz} (hA:∀ p,p≤t.length→RzO t (p+1) (A p)) (hp:p≤t.length):RzO t (p+1) (ZW t A kAnd p):=Z5c (by decide) hA hp
theorem Z1p {A:Nat→Rz} (hA:∀ p,p≤t.length→RzO t (p+1) (A p)) (hp:p≤t.length):RzO t (p+1) (Z3l t A p):=Z5c (by decide) (fun _ h=>Z1q hA h) hp
theorem Z7n {z:Rz} (h:RzO t p z):RzO t (p+1) (Z4H t z):=by
 cases z with
 | no c=>exact h
 | to r =>
  unfold Z4H
  have h1:=Zi (t:=t) (p:=r)
  have:=h.1
  dsimp only
  split
  ·exact ⟨by omega,by omega⟩
  ·exact .inl rfl
theorem Z09:∀ {d p:Nat},p≤t.length→RzO t (p+1) (ZV t d p)
 | 0,p,h=>by
  rw [ZV]
  have h1:=Zi (t:=t) (p:=p)
  split
  ·exact .inr rfl
  ·split
   ·exact gpath_ok.le (by omega)
   ·split
    ·exact .inr rfl
    ·exact gtest_ok.le (by omega)
 | d+1,p,h=>by
  rw [ZV]
  have h1:=Zi (t:=t) (p:=p)
  split
  ·rename_i h3
   obtain ⟨_,h4,h5⟩:=Zu (by decide) h3
   have:kNot.length=3:=rfl
   exact (Z09 (by omega)).le (by omega)
  ·split
   ·exact gpath_ok.le (by omega)
   ·split
    ·rename_i h3
     exact (Z7n (Z1p (fun _ h=>Z09 h) (by omega))).le (by omega)
    ·exact gtest_ok.le (by omega)
end
end Sg
/- Rules of runes (32 bits with a sign) and of single bytes; worlds that have grown alone. -/
namespace Sg
open Go Go.RowKit
section
variable {q:Mode} {c:Ctx} {dr:Bool} {ds:List Deferred} {H:List Res} {e:Env} {ops:Array Oper} {l:List Oper} {κ:List Res→Env→Prop} {ty:TypeId} {pos:String} {aft:Array Edge}
theorem T.raddR {x y:Operand} {d:Tmp} {t u:TypeId} {m n:Int} (hx:ev e x=some (.int .i32 m)) (hy:ev e y=some (.int .i32 n)) (h : -2147483648≤m+n∧m+n≤2147483647) (hlt:Nat.blt d c.fn.ntmps=true) (hk:Sr q c ds H ops l κ ((d,.int .i32 (m+n))::e)) :
  Sr q c ds H ops (⟨some d,.binOp .add t x y u,ty,pos,aft,none⟩::l) κ e:=Sr.p (Pu.add hx hy (IntWalk.i32_in _ h)) rfl hlt rfl hk
theorem T.rsubR {x y:Operand} {d:Tmp} {t u:TypeId} {m n:Int} (hx:ev e x=some (.int .i32 m)) (hy:ev e y=some (.int .i32 n)) (h : -2147483648≤m - n∧m - n≤2147483647) (hlt:Nat.blt d c.fn.ntmps=true) (hk:Sr q c ds H ops l κ ((d,.int .i32 (m - n))::e)) :
  Sr q c ds H ops (⟨some d,.binOp .sub t x y u,ty,pos,aft,none⟩::l) κ e:=Sr.p (Pu.sub hx hy (IntWalk.i32_in _ h)) rfl hlt rfl hk
theorem Z8p {m n:Nat} (hm:m < 2147483648) (hn:n < 2147483648):IntKind.i32.wrap ((BitVec.ofInt IntKind.i32.bits (m:Int)|||BitVec.ofInt IntKind.i32.bits (n:Int)).toNat:Int)=((m|||n:Nat):Int):=by
 have h1:(BitVec.ofInt 32 (m:Int)).toNat=m:=ZN (Nat.lt_of_lt_of_le hm (by decide))
 have h2:(BitVec.ofInt 32 (n:Int)).toNat=n:=ZN (Nat.lt_of_lt_of_le hn (by decide))
 have h3:m|||n < 2 ^ 31:=Nat.or_lt_two_pow (by omega) (by omega)
 show IntKind.i32.wrap ((BitVec.ofInt 32 (m:Int)|||BitVec.ofInt 32 (n:Int)).toNat:Int)=_
 rw [BitVec.toNat_or,h1,h2]
 exact IntWalk.i32_in _ (by omega)
theorem Z7W {m n:Nat} (hm:m*2 ^ n < 2147483648) (hn:n≤32):IntKind.i32.wrap ((m:Int)*2 ^ (min (n:Int).toNat IntKind.i32.bits))=((m*2 ^ n:Nat):Int):=by
 have h1:min (n:Int).toNat IntKind.i32.bits=n:=by show min (n:Int).toNat 32=n;omega
 rw [h1,show ((m:Int)*2 ^ n)=((m*2 ^ n:Nat):Int) by push_cast;rfl]
 exact IntWalk.i32_in _ (by omega)
theorem Z7V {m n:Nat} (hn:n≤32):(m:Int).fdiv (2 ^ (min (n:Int).toNat IntKind.i32.bits))=((m / 2 ^ n:Nat):Int):=by
 have h1:min (n:Int).toNat IntKind.i32.bits=n:=by show min (n:Int).toNat 32=n;omega
 rw [h1,Int.fdiv_eq_ediv_of_nonneg _ (by have:=Int.pow_pos (n:=(2:Int)) (m:=n) (by decide);omega)]
 push_cast
 rfl
theorem T.ror {x y:Operand} {d:Tmp} {t u:TypeId} {m n:Nat} (hx:ev e x=some (.int .i32 (m:Int))) (hy:ev e y=some (.int .i32 (n:Int))) (hm:m < 2147483648) (hn:n < 2147483648) (hlt:Nat.blt d c.fn.ntmps=true) (hk:Sr q c ds H ops l κ ((d,.int .i32 ((m|||n:Nat):Int))::e)) :
  Sr q c ds H ops (⟨some d,.binOp .or t x y u,ty,pos,aft,none⟩::l) κ e:=Sr.p (Pu.or hx hy (Z8p hm hn)) rfl hlt rfl hk
theorem T.rshl {x y:Operand} {d:Tmp} {t u:TypeId} {m:Nat} (n:Nat) {kd':IntKind} (hx:ev e x=some (.int .i32 (m:Int))) (hy:ev e y=some (.int kd' (n:Int))) (hm:m*2 ^ n < 2147483648∧n≤32) (hlt:Nat.blt d c.fn.ntmps=true) (hk:Sr q c ds H ops l κ ((d,.int .i32 ((m*2 ^ n:Nat):Int))::e)) :
  Sr q c ds H ops (⟨some d,.binOp .shl t x y u,ty,pos,aft,none⟩::l) κ e:=Sr.p (Pu.shl hx hy (Int.natCast_nonneg n) (Z7W hm.1 hm.2)) rfl hlt rfl hk
theorem Z77 {m:Int} {n:Nat} (hm : -2147483648≤m*2 ^ n∧m*2 ^ n≤2147483647∧n≤32):IntKind.i32.wrap (m*2 ^ (min (n:Int).toNat IntKind.i32.bits))=m*2 ^ n:=by
 have h1:min (n:Int).toNat IntKind.i32.bits=n:=by show min (n:Int).toNat 32=n;omega
 rw [h1]
 exact IntWalk.i32_in _ ⟨hm.1,hm.2.1⟩
theorem T.rshlZ {x y:Operand} {d:Tmp} {t u:TypeId} {m:Int} (n:Nat) {kd':IntKind} (hx:ev e x=some (.int .i32 m)) (hy:ev e y=some (.int kd' (n:Int))) (hm : -2147483648≤m*2 ^ n∧m*2 ^ n≤2147483647∧n≤32) (hlt:Nat.blt d c.fn.ntmps=true) (hk:Sr q c ds H ops l κ ((d,.int .i32 (m*2 ^ n))::e)) :
  Sr q c ds H ops (⟨some d,.binOp .shl t x y u,ty,pos,aft,none⟩::l) κ e:=Sr.p (Pu.shl hx hy (Int.natCast_nonneg n) (Z77 hm)) rfl hlt rfl hk
theorem T.rshr {x y:Operand} {d:Tmp} {t u:TypeId} {m:Nat} (n:Nat) {kd':IntKind} (hx:ev e x=some (.int .i32 (m:Int))) (hy:ev e y=some (.int kd' (n:Int))) (hn:n≤32) (hlt:Nat.blt d c.fn.ntmps=true) (hk:Sr q c ds H ops l κ ((d,.int .i32 ((m / 2 ^ n:Nat):Int))::e)) :
  Sr q c ds H ops (⟨some d,.binOp .shr t x y u,ty,pos,aft,none⟩::l) κ e:=Sr.p (Pu.shr hx hy (Int.natCast_nonneg n) (Z7V hn)) rfl hlt rfl hk
theorem T.convRB {x:Operand} {d:Tmp} {s t:TypeId} {m:Nat} {dd:TypeDesc} [HU c.P s dd] [HU c.P t (.int .u8)] (hx:ev e x=some (.int .i32 (m:Int))) (hlt:Nat.blt d c.fn.ntmps=true) (hk:Sr q c ds H ops l κ ((d,.int .u8 ((UInt8.ofNat m).toNat:Int))::e)) :
  Sr q c ds H ops (⟨some d,.convert s t x,ty,pos,aft,none⟩::l) κ e:=Sr.p (Pu.conv (d:=dd) hx (by rw [Z7O,UInt8.toNat_ofNat'];omega)) rfl hlt rfl hk
theorem T.band {x y:Operand} {d:Tmp} {t u:TypeId} {a:UInt8} (b:UInt8) (hx:ev e x=some (.int .u8 (a.toNat:Int))) (hy:ev e y=some (.int .u8 (b.toNat:Int))) (hlt:Nat.blt d c.fn.ntmps=true) (hk:Sr q c ds H ops l κ ((d,.int .u8 ((a&&&b).toNat:Int))::e)) :
  Sr q c ds H ops (⟨some d,.binOp .and t x y u,ty,pos,aft,none⟩::l) κ e:=Sr.p (Pu.and hx hy (by rw [Z7N a.toNat_lt b.toNat_lt,UInt8.toNat_and])) rfl hlt rfl hk
theorem T.bor {x y:Operand} {d:Tmp} {t u:TypeId} (a:UInt8) {b:UInt8} (hx:ev e x=some (.int .u8 (a.toNat:Int))) (hy:ev e y=some (.int .u8 (b.toNat:Int))) (hlt:Nat.blt d c.fn.ntmps=true) (hk:Sr q c ds H ops l κ ((d,.int .u8 ((a|||b).toNat:Int))::e)) :
  Sr q c ds H ops (⟨some d,.binOp .or t x y u,ty,pos,aft,none⟩::l) κ e:=Sr.p (Pu.or hx hy (by rw [Z8x a.toNat_lt b.toNat_lt,UInt8.toNat_or])) rfl hlt rfl hk
theorem T.quoU64 {x y:Operand} {d:Tmp} {t u:TypeId} {m:Nat} (n:Nat) (hx:ev e x=some (.int .u64 (m:Int))) (hy:ev e y=some (.int .u64 (n:Int))) (h0:0 < n∧m < 18446744073709551616) (hlt:Nat.blt d c.fn.ntmps=true) (hk:Sr q c ds H ops l κ ((d,.int .u64 ((m / n:Nat):Int))::e)) :
  Sr q c ds H ops (⟨some d,.binOp .quo t x y u,ty,pos,aft,none⟩::l) κ e:=Sr.p (Pu.quo hx hy (by omega) (by
   have:=Nat.div_le_self m n
   rw [←Int.ofNat_tdiv]
   generalize m / n=k at *
   exact IntWalk.u64_in _ (by omega))) rfl hlt rfl hk
theorem T.negU64 {x:Operand} {d:Tmp} {t:TypeId} {m:Nat} (hx:ev e x=some (.int .u64 (m:Int))) (hlt:Nat.blt d c.fn.ntmps=true) (hk:Sr q c ds H ops l κ ((d,.int .u64 ((0 - (m:Int)) % 18446744073709551616))::e)) :
  Sr q c ds H ops (⟨some d,.unOp .neg t x,ty,pos,aft,none⟩::l) κ e:=Sr.p (Pu.neg hx (Z71 _)) rfl hlt rfl hk
theorem T.convNeg {x:Operand} {d:Tmp} {s t:TypeId} {m:Nat} {dd:TypeDesc} [HU c.P s dd] [HU c.P t (.int .i64)] (hx:ev e x=some (.int .u64 ((0 - (m:Int)) % 18446744073709551616))) (hm:m≤9223372036854775808) (hlt:Nat.blt d c.fn.ntmps=true) (hk:Sr q c ds H ops l κ ((d,.int .i64 (-(m:Int)))::e)) :
  Sr q c ds H ops (⟨some d,.convert s t x,ty,pos,aft,none⟩::l) κ e:=Sr.p (Pu.conv (d:=dd) hx (by rw [IntKind.wrap_i64];omega)) rfl hlt rfl hk
theorem T.ssliceL {d:Tmp} {x lo:Operand} {kd:IntKind} {i:Nat} {t:TypeId} {bs:List UInt8} [HU c.P t .string] (hx:ev e x=some (sV bs)) (hl:ev e lo=some (.int kd (i:Int))) (h0:i≤bs.length) (hlt:Nat.blt d c.fn.ntmps=true)
  (hk:Sr q c ds H ops l κ ((d,sV (bs.drop i))::e)):Sr q c ds H ops (⟨some d,.slice t x (some lo) none none,ty,pos,aft,none⟩::l) κ e :=
 Sr.p (fun w a _ ha=>by
  have hr:=run_slice_string_l (P:=c.P) (w:=w) (t:=t) (s:=ByteArray.mk bs.toArray) (HU.h (P:=c.P) (t:=t)) kd (i:Int) (by omega) (by show (i:Int)≤(bs.length:Nat);omega)
  have hex:(ByteArray.mk bs.toArray).extract (i:Int).toNat (ByteArray.mk bs.toArray).size=ByteArray.mk (bs.drop i).toArray:=by
   rw [Int.toNat_natCast]
   apply ByteArray.ext
   rw [ByteArray.data_extract]
   apply Array.ext'
   have:(ByteArray.mk bs.toArray).size=bs.length:=rfl
   simp [List.extract,this]
   exact List.take_of_length_le (by rw [List.length_drop];omega)
  rw [hex] at hr
  simp [execOp,ha.ev hx,ha.ev hl,Instr.sliceAt,Z6 (d:=.string),hr]) rfl hlt rfl hk
theorem T.ssliceH {d:Tmp} {x hi:Operand} {kd:IntKind} {j:Nat} {t:TypeId} {bs:List UInt8} [HU c.P t .string] (hx:ev e x=some (sV bs)) (hh:ev e hi=some (.int kd (j:Int))) (h0:j≤bs.length) (hlt:Nat.blt d c.fn.ntmps=true)
  (hk:Sr q c ds H ops l κ ((d,sV (bs.take j))::e)):Sr q c ds H ops (⟨some d,.slice t x none (some hi) none,ty,pos,aft,none⟩::l) κ e :=
 Sr.p (fun w a _ ha=>by
  have hr:=run_slice_string_h (P:=c.P) (w:=w) (t:=t) (s:=ByteArray.mk bs.toArray) (HU.h (P:=c.P) (t:=t)) kd (j:Int) (by omega) (by show (j:Int)≤(bs.length:Nat);omega)
  have hex:(ByteArray.mk bs.toArray).extract 0 (j:Int).toNat=ByteArray.mk (bs.take j).toArray:=by
   rw [Int.toNat_natCast]
   apply ByteArray.ext
   rw [ByteArray.data_extract]
   apply Array.ext'
   simp [List.extract]
  rw [hex] at hr
  simp [execOp,ha.ev hx,ha.ev hh,Instr.sliceAt,Z6 (d:=.string),hr]) rfl hlt rfl hk
theorem T.loadG {x:Operand} {d b i:Nat} {t:TypeId} {dd:TypeDesc} [HU c.P t dd] {vs:List Value} {v:Value} (hx:ev e x=some (.pointer (some ⟨b,i,none⟩))) (hd:plain dd=true) (hr:Rd c.F c.M H (some ⟨b,0,none⟩) vs) (hi:vs[i]?=some v) (hlt:Nat.blt d c.fn.ntmps=true)
  (hk:Sr q c ds H ops l κ ((d,v)::e)):Sr q c ds H ops (⟨some d,.load t x,ty,pos,aft,none⟩::l) κ e :=
 Sr.p (Pu.loadE (ad:=some ⟨b,0,none⟩) (j:=i) (d:=dd) (by rw [hx];simp [eaddr,Zh]) hd hi) rfl hlt rfl hk
theorem T.loadGN {x:Operand} {d b i:Nat} {t:TypeId} {dd:TypeDesc} [HU c.P t dd] {z:Value} {n by_:Nat} [HI c.P t z n by_] {vs us:List Value} (hx:ev e x=some (.pointer (some ⟨b,i,none⟩))) (hd:plain dd=false) (hr:Rd c.F c.M H (some ⟨b,0,none⟩) vs) (hn:i+n≤vs.length) (h0:0 < n) (hu:(vs.drop i).take n=us) (hlt:Nat.blt d c.fn.ntmps=true)
  (hk:Sr q c ds H ops l κ ((d,.agg ⟨us⟩)::e)):Sr q c ds H ops (⟨some d,.load t x,ty,pos,aft,none⟩::l) κ e:=by
 have:=Pu.loadEN (c:=c) (H:=H) (e:=e) (x:=x) (dst:=some d) (ty:=ty) (pos:=pos) (aft:=aft) (g:=none) (t:=t) (dd:=dd) (z:=z) (by_:=by_) (n:=n) (vs:=vs) (ad:=some ⟨b,0,none⟩) (j:=i) hd (by rw [hx];simp [eaddr,Zh]) hr h0 hn
 rw [hu] at this
 exact Sr.p this rfl hlt rfl hk
theorem T.aidx {x y:Operand} {d:Tmp} {t E:TypeId} {n i sz:Nat} {kd:IntKind} {z:Value} {by_:Nat} {dd:TypeDesc} [HU c.P t (.array n E)] [HU c.P E dd] [HI c.P E z sz by_] {vs us:List Value} (hx:ev e x=some (.agg ⟨vs⟩)) (hy:ev e y=some (.int kd (Int.ofNat i))) (hd:plain dd=false) (hi:i < n) (hv:(vs.drop (i*sz)).take sz=us) (hlt:Nat.blt d c.fn.ntmps=true)
  (hk:Sr q c ds H ops l κ ((d,.agg ⟨us⟩)::e)):Sr q c ds H ops (⟨some d,.index t x y,ty,pos,aft,none⟩::l) κ e :=
 Sr.p (fun w a _ ha=>by
  have hy':ev e y=some (.int kd (i:Int)):=hy
  simp [execOp,ha.ev hx,ha.ev hy',Instr.index,asIntOf,Z6 (d:=.array n E),ZR (z:=z) (sz:=sz) (b:=by_),part,Z20 (d:=dd),hd,hi]
  exact hv) rfl hlt rfl hk
end
theorem and63 (n:Nat):UInt8.ofNat n&&&63=UInt8.ofNat (n % 64):=by
 apply UInt8.toNat_inj.1
 rw [UInt8.toNat_and,UInt8.toNat_ofNat',UInt8.toNat_ofNat',show (63:UInt8).toNat=2 ^ 6 - 1 from rfl,Nat.and_two_pow_sub_one_eq_mod]
 omega
theorem Z81:∀ k:Fin 64,(128:UInt8)|||UInt8.ofNat k.val=UInt8.ofNat (128+k.val):=by decide
theorem Z8o:∀ k:Fin 32,(192:UInt8)|||UInt8.ofNat k.val=UInt8.ofNat (192+k.val):=by decide
theorem Z7g:∀ k:Fin 16,(224:UInt8)|||UInt8.ofNat k.val=UInt8.ofNat (224+k.val):=by decide
theorem Z82:∀ k:Fin 8,(240:UInt8)|||UInt8.ofNat k.val=UInt8.ofNat (240+k.val):=by decide
theorem Z1z (n:Nat):(128:UInt8)|||(UInt8.ofNat n&&&63)=UInt8.ofNat (128+n % 64):=by
 rw [and63]
 exact Z81 ⟨n % 64,Nat.mod_lt _ (by decide)⟩
theorem Z72 {u:Nat} (h1:128≤u) (h2:u < 2048):[(192:UInt8)|||UInt8.ofNat (u / 2 ^ 6),128|||(UInt8.ofNat u&&&63)]=utfL u:=by
 unfold utfL
 rw [if_neg (by omega),if_pos h2,Z1z,Z8o ⟨u / 2 ^ 6,by omega⟩]
theorem Z5y {u:Nat} (h1:2048≤u) (h2:u < 65536):[(224:UInt8)|||UInt8.ofNat (u / 2 ^ 12),128|||(UInt8.ofNat (u / 2 ^ 6)&&&63),128|||(UInt8.ofNat u&&&63)]=utfL u:=by
 unfold utfL
 rw [if_neg (by omega),if_neg (by omega),if_pos h2,Z1z,Z1z,Z7g ⟨u / 2 ^ 12,by omega⟩]
theorem Z66 {u:Nat} (h1:65536≤u) (h2:u < 1114112):[(240:UInt8)|||UInt8.ofNat (u / 2 ^ 18),128|||(UInt8.ofNat (u / 2 ^ 12)&&&63),128|||(UInt8.ofNat (u / 2 ^ 6)&&&63),128|||(UInt8.ofNat u&&&63)]=utfL u:=by
 unfold utfL
 rw [if_neg (by omega),if_neg (by omega),if_neg (by omega),Z1z,Z1z,Z1z,Z82 ⟨u / 2 ^ 18,by omega⟩]
theorem Z73 {u:Nat} (h:u < 128):[UInt8.ofNat u]=utfL u:=by
 unfold utfL
 rw [if_pos h]
theorem St.below {F:World} {M:List Nat} {w w':World} {H:List Res} (h:St F M w H) (hb:Below w.heap.size w w'):St F M w' H:=by
 have hlt:∀ q∈H,∀ b∈q.foot,b < w.heap.size:=fun q hq=>Res.foot_lt (h.res q hq)
 exact ⟨hb.os.trans h.os,hb.tape.trans h.tape,hb.output.trans h.output,Nat.le_trans h.size hb.size,fun j hj hm=>by rw [hb.block j (Nat.lt_of_lt_of_le hj h.size),h.keep j hj hm],h.own,h.nd,fun r hr=>Res.holds_of_heap (h.res r hr) fun b hb'=>hb.block b (hlt r hr b hb')⟩
end Sg
/- The walks of the program's reader of JSON: escapes, sequences, runes appended. -/
namespace Go.Proofs.YthomgjihagigcaaGreatDoor
open Sg Go.IntWalk
set_option maxRecDepth 100000
set_option maxHeartbeats 2000000
theorem Z2x {F:World} {M:List Nat} {H:List Res} {ad:Option Addr} {n cp u:Nat} {xs:List UInt8} (hn:n≤1000000000) (h1:128≤u) (h2:u < 1114112) (h3:u < 55296∨57343 < u) :
  Meets Tryz.prog 151 [.slice ad n cp,.int .i32 u] F M (.row ad cp 5 1 n (xs.map bV)::H) (fun e H'=>∃ ad' cp' m,e=.returned (.slice ad' m cp')∧H'=.row ad' cp' 5 1 m ((xs++utfL u).map bV)::H∧m=n+(utfL u).length):=by
 refine Meets.enter Tryz.func151 rfl rfl ?_
 by_cases c2:u < 2048
 ·rw [←Z72 h1 c2]
  repeat' (first|((with_reducible apply T.rshr 6);apply rfl;apply rfl;omega;apply rfl)|(apply T.convRB;apply rfl;apply rfl)|((with_reducible apply T.band 63);(iterate 3 apply rfl))|((with_reducible apply T.bor 192);(iterate 3 apply rfl))|((with_reducible apply T.bor 128);(iterate 3 apply rfl))|(apply T.append2;apply rfl;apply rfl;infer_instance;apply rfl;(constructor<;>omega);apply rfl;intro na nc)|((first|apply T.mv|apply T.asn);apply rfl;apply rfl)|(apply T.leq;(iterate 3 apply rfl))|(apply T.convU32;apply rfl;omega;apply rfl)|(apply T.bs;(iterate 6 apply rfl);intro nb)|(with_reducible first|refine Sr.nil ?_|refine S.seq ?_|refine S.block ?_|refine S.reg ?_)|(apply S.condQ;apply rfl;all_goals (intro _;try (exfalso;first|omega|with_reducible contradiction)))|(apply T.retW;apply rfl)|fail)
  exact ⟨_,PSub.refl _,na,nc,_,rfl,rfl,rfl⟩
 by_cases c3:u < 65536
 ·rw [←Z5y (by omega) c3]
  repeat' (first|((with_reducible apply T.rshr 6);apply rfl;apply rfl;omega;apply rfl)|((with_reducible apply T.rshr 12);apply rfl;apply rfl;omega;apply rfl)|(apply T.convRB;apply rfl;apply rfl)|((with_reducible apply T.band 63);(iterate 3 apply rfl))|((with_reducible apply T.bor 224);(iterate 3 apply rfl))|((with_reducible apply T.bor 128);(iterate 3 apply rfl))|(apply T.append3;apply rfl;apply rfl;infer_instance;apply rfl;(constructor<;>omega);apply rfl;intro na nc)|((first|apply T.mv|apply T.asn);apply rfl;apply rfl)|((first|apply T.lss|apply T.leq);(iterate 3 apply rfl))|(apply T.pickT;(iterate 3 apply rfl))|(apply T.convU32;apply rfl;omega;apply rfl)|(apply T.bs;(iterate 6 apply rfl);intro nb)|(with_reducible first|refine Sr.nil ?_|refine S.seq ?_|refine S.block ?_|refine S.reg ?_|refine S.skip ?_)|(apply T.ungV;apply rfl;(first|with_reducible rfl|decide))|(apply S.condQ;apply rfl;all_goals (intro _;try (exfalso;first|omega|with_reducible contradiction)))|(apply T.gcase;apply rfl;apply rfl;all_goals (intro _;try (exfalso;first|omega|with_reducible contradiction)))|(apply T.retW;apply rfl)|fail)
  all_goals exact ⟨_,PSub.refl _,na,nc,_,rfl,rfl,rfl⟩
 ·rw [←Z66 (by omega) h2]
  repeat' (first|((with_reducible apply T.rshr 6);apply rfl;apply rfl;omega;apply rfl)|((with_reducible apply T.rshr 12);apply rfl;apply rfl;omega;apply rfl)|((with_reducible apply T.rshr 18);apply rfl;apply rfl;omega;apply rfl)|(apply T.convRB;apply rfl;apply rfl)|((with_reducible apply T.band 63);(iterate 3 apply rfl))|((with_reducible apply T.bor 240);(iterate 3 apply rfl))|((with_reducible apply T.bor 128);(iterate 3 apply rfl))|(apply T.append4;apply rfl;apply rfl;infer_instance;apply rfl;(constructor<;>omega);apply rfl;intro na nc)|((first|apply T.mv|apply T.asn);apply rfl;apply rfl)|((first|apply T.lss|apply T.leq|apply T.gtr);(iterate 3 apply rfl))|(apply T.pickT;(iterate 3 apply rfl))|(apply T.convU32;apply rfl;omega;apply rfl)|(apply T.bs;(iterate 6 apply rfl);intro nb)|(with_reducible first|refine Sr.nil ?_|refine S.seq ?_|refine S.block ?_|refine S.reg ?_)|(apply T.ungV;apply rfl;(first|with_reducible rfl|decide))|(apply S.condQ;apply rfl;all_goals (intro _;try (exfalso;first|omega|with_reducible contradiction)))|(apply T.gcase;apply rfl;apply rfl;all_goals (intro _;try (exfalso;first|omega|with_reducible contradiction)))|(apply T.retW;apply rfl)|fail)
  all_goals exact ⟨_,PSub.refl _,na,nc,_,rfl,rfl,rfl⟩
theorem Z2q {F:World} {M:List Nat} {H:List Res} {ad:Option Addr} {n cp u:Nat} {xs:List UInt8} (hn:n≤1000000000) (h2:u < 1114112) (h3:u < 55296∨57343 < u) :
  Meets Tryz.prog 137 [.slice ad n cp,.int .i32 u] F M (.row ad cp 5 1 n (xs.map bV)::H) (fun e H'=>∃ ad' cp' m,e=.returned (.slice ad' m cp')∧H'=.row ad' cp' 5 1 m ((xs++utfL u).map bV)::H∧m=n+(utfL u).length):=by
 refine Meets.enter Tryz.func137 rfl rfl ?_
 by_cases c1:u < 128
 ·rw [←Z73 c1]
  repeat' (first|(apply T.convRB;apply rfl;apply rfl)|((first|apply T.mv|apply T.asn);apply rfl;apply rfl)|(apply T.leq;(iterate 3 apply rfl))|(apply T.convU32;apply rfl;omega;apply rfl)|(apply T.bs;(iterate 6 apply rfl);intro nb)|(apply T.appendB;apply rfl;apply rfl;infer_instance;apply rfl;(constructor<;>omega);apply rfl;intro na nc)|(with_reducible first|refine Sr.nil ?_|refine S.seq ?_|refine S.reg ?_)|(apply S.condQ;apply rfl;all_goals (intro _;try (exfalso;first|omega|with_reducible contradiction)))|(apply T.retW;apply rfl)|fail)
  exact ⟨_,PSub.refl _,na,nc,_,rfl,rfl,rfl⟩
 ·repeat' (first|((first|apply T.mv|apply T.asn);apply rfl;apply rfl)|(apply T.leq;(iterate 3 apply rfl))|(apply T.convU32;apply rfl;omega;apply rfl)|(with_reducible first|refine Sr.nil ?_|refine S.seq ?_|refine S.reg ?_|refine S.skip ?_)|(apply S.condQ;apply rfl;all_goals (intro _;try (exfalso;first|omega|with_reducible contradiction)))|fail)
  refine T.call rfl rfl (Z2x hn (by omega) h2 h3) ?_
  rintro _ _ ⟨a1,c1,m,rfl,rfl,rfl⟩
  repeat' (first|(apply T.asn;apply rfl;apply rfl)|with_reducible refine Sr.nil ?_|(apply T.retW;apply rfl)|(with_reducible apply T.ofRet)|fail)
  exact ⟨_,PSub.refl _,a1,c1,_,rfl,rfl,rfl⟩
def hexV (c:UInt8):Value:=match hexN c with
 | some d=>.tuple ⟨[.int .i32 (d:Nat),.bool true]⟩
 | none=>.tuple ⟨[.int .i32 0,.bool false]⟩
theorem Z2c (c:UInt8):hexN c=if 48≤c.toNat∧c.toNat≤57 then some (c.toNat - 48) else if 97≤c.toNat∧c.toNat≤102 then some (c.toNat - 87) else if 65≤c.toNat∧c.toNat≤70 then some (c.toNat - 55) else none:=rfl
theorem Z89 {c:UInt8} {d:Nat} (h:hexN c=some d):d < 16:=by
 rw [Z2c] at h
 repeat' split at h
 all_goals first|(simp only [Option.some.injEq] at h;omega)|cases h
theorem Z5Y {F:World} {M:List Nat} {H:List Res} {c:UInt8}:Meets Tryz.prog 162 [.int .u8 (c.toNat:Nat)] F M H (fun e H'=>e=.returned (hexV c)∧H'=H):=by
 have hc:=c.toNat_lt
 refine Meets.enter Tryz.func162 rfl rfl ?_
 by_cases h1:48≤c.toNat∧c.toNat≤57
 ·have e1:hexV c=.tuple ⟨[.int .i32 ((c.toNat - 48:Nat):Int),.bool true]⟩:=by rw [hexV,Z2c,if_pos h1]
  rw [e1]
  obtain ⟨h1,h2⟩:=h1
  repeat' (first|((with_reducible apply T.subU8N (n:=48));apply rfl;apply rfl;omega;apply rfl)|(apply T.convI32;apply rfl;omega;apply rfl)|((first|apply T.mv|apply T.asn);apply rfl;apply rfl)|((first|apply T.leq|apply T.geq);(iterate 3 apply rfl))|(apply T.pickT;(iterate 3 apply rfl))|(with_reducible first|refine Sr.nil ?_|refine S.seq ?_|refine S.block ?_|refine S.reg ?_)|(apply T.ungV;apply rfl;(first|with_reducible rfl|decide))|(apply S.condQ;apply rfl;all_goals (intro _;try (exfalso;first|omega|with_reducible contradiction)))|(apply T.gcase;apply rfl;apply rfl;all_goals (intro _;try (exfalso;first|omega|with_reducible contradiction)))|(apply T.retW;apply rfl)|fail)
  exact ⟨_,PSub.refl _,rfl,rfl⟩
 by_cases h3:97≤c.toNat∧c.toNat≤102
 ·have e1:hexV c=.tuple ⟨[.int .i32 ((c.toNat - 97:Nat)+10:Int),.bool true]⟩:=by rw [hexV,Z2c,if_neg h1,if_pos h3];simp only;rw [show ((c.toNat - 87:Nat):Int)=((c.toNat - 97:Nat)+10:Int) by omega]
  rw [e1]
  obtain ⟨h3,h2⟩:=h3
  repeat' (first|((with_reducible apply T.subU8N (n:=97));apply rfl;apply rfl;omega;apply rfl)|(apply T.convI32;apply rfl;omega;apply rfl)|(apply T.raddR;apply rfl;apply rfl;omega;apply rfl)|((first|apply T.mv|apply T.asn);apply rfl;apply rfl)|((first|apply T.leq|apply T.geq);(iterate 3 apply rfl))|(apply T.pickT;(iterate 3 apply rfl))|(with_reducible first|refine Sr.nil ?_|refine S.seq ?_|refine S.block ?_|refine S.reg ?_)|(apply T.ungV;apply rfl;(first|with_reducible rfl|decide))|(apply S.condQ;apply rfl;all_goals (intro _;try (exfalso;first|omega|with_reducible contradiction)))|(apply T.gcase;apply rfl;apply rfl;all_goals (intro _;try (exfalso;first|omega|with_reducible contradiction)))|(apply T.retW;apply rfl)|fail)
  all_goals exact ⟨_,PSub.refl _,rfl,rfl⟩
 by_cases h4:65≤c.toNat∧c.toNat≤70
 ·have e1:hexV c=.tuple ⟨[.int .i32 ((c.toNat - 65:Nat)+10:Int),.bool true]⟩:=by rw [hexV,Z2c,if_neg h1,if_neg h3,if_pos h4];simp only;rw [show ((c.toNat - 55:Nat):Int)=((c.toNat - 65:Nat)+10:Int) by omega]
  rw [e1]
  obtain ⟨h4,h2⟩:=h4
  repeat' (first|((with_reducible apply T.subU8N (n:=65));apply rfl;apply rfl;omega;apply rfl)|(apply T.convI32;apply rfl;omega;apply rfl)|(apply T.raddR;apply rfl;apply rfl;omega;apply rfl)|((first|apply T.mv|apply T.asn);apply rfl;apply rfl)|((first|apply T.leq|apply T.geq);(iterate 3 apply rfl))|(apply T.pickT;(iterate 3 apply rfl))|(apply T.pickF;(iterate 3 apply rfl))|(with_reducible first|refine Sr.nil ?_|refine S.seq ?_|refine S.block ?_|refine S.reg ?_)|(apply T.ungV;apply rfl;(first|with_reducible rfl|decide))|(apply T.skip;apply rfl;(first|with_reducible rfl|decide);apply rfl)|(apply S.condFV;apply rfl;(first|with_reducible rfl|decide))|(apply S.condQ;apply rfl;all_goals (intro _;try (exfalso;first|omega|with_reducible contradiction)))|(apply T.gcase;apply rfl;apply rfl;all_goals (intro _;try (exfalso;first|omega|with_reducible contradiction)))|(apply T.retW;apply rfl)|fail)
  all_goals exact ⟨_,PSub.refl _,rfl,rfl⟩
 ·have e1:hexV c=.tuple ⟨[.int .i32 0,.bool false]⟩:=by rw [hexV,Z2c,if_neg h1,if_neg h3,if_neg h4]
  rw [e1]
  repeat' (first|((first|apply T.mv|apply T.asn);apply rfl;apply rfl)|((first|apply T.leq|apply T.geq);(iterate 3 apply rfl))|(apply T.pickT;(iterate 3 apply rfl))|(apply T.pickF;(iterate 3 apply rfl))|(with_reducible first|refine Sr.nil ?_|refine S.seq ?_|refine S.block ?_|refine S.reg ?_|refine S.skip ?_|refine S.inBlock ?_)|(apply T.ungV;apply rfl;(first|with_reducible rfl|decide))|(apply T.skip;apply rfl;(first|with_reducible rfl|decide);apply rfl)|(apply S.condFV;apply rfl;(first|with_reducible rfl|decide))|(apply S.condQ;apply rfl;all_goals (intro _;try (exfalso;first|omega|with_reducible contradiction)))|(apply T.gcase;apply rfl;apply rfl;all_goals (intro _;try (exfalso;first|omega|with_reducible contradiction)))|(apply T.retW;apply rfl)|fail)
  all_goals exact ⟨_,PSub.refl _,rfl,rfl⟩
section
variable {F:World} {M:List Nat} {H:List Res} {p:Nat} {t:List UInt8} {o n m:Value} {a s:Nat} {k:List UInt8} {c b:Int}
def JrR (p:Nat) (t:List UInt8) (o n m:Value) (s:Nat) (k:List UInt8) (c b:Int) (B:Int) (H:List Res):Gt Nat→Ending→List Res→Prop
 | .ok a' u=>fun e H'=>e=.returned (.tuple ⟨[.int .i32 (u:Nat),.bool true]⟩)∧H'=.blk p (jrV t o n m a' s k c b) 136::H
 | .bad c' b'=>fun e H'=>∃ (a':Nat) (z:Int),(-B≤z∧z≤B)∧e=.returned (.tuple ⟨[.int .i32 z,.bool false]⟩)∧H'=.blk p (jrV t o n m a' s k c' b') 136::H
theorem badT {i u d:Nat}:Z0b true i u d=true↔(i=0∧d≠13∨i=1∧d < 12):=by
 unfold Z0b
 simp
theorem badF {i u d:Nat}:Z0b false i u d=true↔(i=1∧u=13∧12≤d):=by
 unfold Z0b
 simp [and_assoc]
theorem Z7J {u d:Nat} (h:d < 16):u*2 ^ 4|||d=16*u+d:=by
 have:=Nat.two_pow_add_eq_or_of_lt (i:=4) (b:=d) h u
 rw [Nat.mul_comm (2 ^ 4) u] at this
 omega
theorem Z5V {t:List UInt8} {low:Bool} {fr k p u:Nat}:Zr t low fr (k+1) p u=match t[p]? with
  | none=>.bad 31 p
  | some c=>match hexN c with
   | none=>.bad 33 fr
   | some d=>if Z0b low (3 - k) u d then .bad 33 fr else Zr t low fr k (p+1) (16*u+d):=rfl
theorem Z3u {fr:Nat} {low:Bool} (ha:a≤t.length) (hl:t.length≤1000000000):Meets Tryz.prog 160 [.pointer (some ⟨p,0,none⟩),.int .i64 fr,.bool low] F M (.blk p (jrV t o n m a s k c b) 136::H) (JrR p t o n m s k c b 0 H (Zr t low fr 4 a 0)):=by
 refine Meets.enter Tryz.func160 rfl rfl ?_
 repeat' (first|((first|apply T.mv|apply T.asn);apply rfl;apply rfl)|(with_reducible first|refine Sr.nil ?_|refine S.seq ?_|refine S.block ?_|refine S.reg ?_)|fail)
 refine S.loopE 1 [0,1,2] (fun R b' μ H' e=>∃ q i u:Nat,H'=.blk p (jrV t o n m q s k c b) 136::R∧e=(8,.int .i32 (u:Nat))::(12,.int .i64 i)::b'∧(q≤t.length∧i≤4∧u < 16 ^ i∧Zr t low fr 4 a 0=Zr t low fr (4 - i) q u)∧μ=4 - i) rfl rfl ?_ _ _ ⟨a,0,0,rfl,rfl,⟨ha,by omega,by decide,rfl⟩,rfl⟩ (by repeat' first|exact trivial|refine And.intro rfl ?_)
 rintro _ _ _ ⟨q,i,u,rfl,rfl,⟨h1,h2,h3,h4⟩,rfl⟩ ih
 by_cases h5:i < 4
 ·have h6:u < 4096:=Nat.lt_of_lt_of_le h3 (Nat.le_trans (Nat.pow_le_pow_right (by decide) (show i≤3 by omega)) (by decide))
  obtain ⟨j,hj⟩:∃ j,4 - i=j+1:=⟨3 - i,by omega⟩
  have hi:3 - j=i:=by omega
  rw [hj,Z5V (p:=q),hi] at h4
  rcases Nat.lt_or_ge q t.length with h7|h7
  ·have hq:t[q]?=some (t.getD q 0):=by simp [List.getD,h7]
   rw [hq] at h4
   have d1:∀ {X:List Res},Meets Tryz.prog 162 [.int .u8 ((t.getD q 0).toNat:Int)] F M X (fun e H'=>e=.returned (hexV (t.getD q 0))∧H'=X):=Z5Y
   cases hx:hexN (t.getD q 0) with
   | none =>
    have e2:hexV (t.getD q 0)=.tuple ⟨[.int .i32 0,.bool false]⟩:=by rw [hexV,hx]
    rw [e2] at d1
    simp only [hx] at h4
    repeat' (first|((first|apply T.slen|apply T.mv|apply T.asn|apply T.nilCheck|apply T.fieldAddrZ);apply rfl;apply rfl)|(apply T.load;apply rfl;apply rfl;infer_instance;apply rfl;apply rfl)|((first|apply T.lss|apply T.eql);(iterate 3 apply rfl))|(with_reducible first|refine Sr.nil ?_|refine S.seq ?_|refine S.block ?_|refine S.reg ?_|refine S.skip ?_)|(apply S.quiet;apply rfl;kernel_rfl)|(apply S.condQ;apply rfl;all_goals (intro _;try (exfalso;first|omega|with_reducible contradiction)))|fail)
    (apply S.draw;(case Hs=>exact .blk p (jrV t o n m q s k c b) 136::H);(case es=>exact  [9]);(case n=>exact  15);(case hn=>rfl))
    repeat' (first|(apply T.call;apply rfl;apply rfl;with_reducible exact d1;rintro _ _ ⟨rfl,rfl⟩)|(apply T.sidx;apply rfl;apply rfl;omega;apply rfl)|((first|apply T.mv|apply T.asn|apply T.nilCheck|apply T.fieldAddrZ);apply rfl;apply rfl)|(apply T.load;apply rfl;apply rfl;infer_instance;apply rfl;apply rfl)|(apply T.extract;(iterate 3 apply rfl))|(apply T.notB;apply rfl;apply rfl)|(with_reducible first|refine Sr.nil ?_|refine S.seq ?_|refine S.block ?_|refine S.reg ?_|refine S.skip ?_)|(apply S.condTV;apply rfl;(first|with_reducible rfl|decide))|(with_reducible apply T.ofRet)|(apply SA.qn;(iterate 4 apply rfl);kernel_rfl)|(apply SA.en;apply rfl;apply rfl;kernel_rfl)|(apply SA.done;apply rfl;kernel_rfl)|(apply SK.intro;(first|exact fun _ h=>h|exact fun _ h=>St.psub h (by ((repeat (first|dsimp only [List.set_cons_zero]|dsimp only [List.set_cons_succ]));repeat' first|exact PSub.refl _|exact PSub.nil|(apply PSub.take;(repeat' first|(with_reducible exact Z0)|(with_reducible apply Z1)))|(with_reducible apply PSub.drop)|((apply PSub.take);(repeat' first|exact Z0|(apply Z1)))))))|fail)
    rw [h4]
    refine T.call rfl rfl Zx ?_
    rintro _ _ ⟨rfl,rfl⟩
    repeat' (first|(apply T.asn;apply rfl;apply rfl)|with_reducible refine Sr.nil ?_|(apply T.retW;apply rfl)|(with_reducible apply T.ofRet)|fail)
    exact ⟨_,PSub.refl _,q,0,by omega,rfl,rfl⟩
   | some d =>
    have e2:hexV (t.getD q 0)=.tuple ⟨[.int .i32 (d:Nat),.bool true]⟩:=by rw [hexV,hx]
    rw [e2] at d1
    simp only [hx] at h4
    have hd:=Z89 hx
    cases low with
    | false =>
     repeat' (first|((first|apply T.slen|apply T.mv|apply T.asn|apply T.nilCheck|apply T.fieldAddrZ);apply rfl;apply rfl)|(apply T.load;apply rfl;apply rfl;infer_instance;apply rfl;apply rfl)|((first|apply T.lss|apply T.eql);(iterate 3 apply rfl))|(with_reducible first|refine Sr.nil ?_|refine S.seq ?_|refine S.block ?_|refine S.reg ?_|refine S.skip ?_)|(apply S.quiet;apply rfl;kernel_rfl)|(apply S.condQ;apply rfl;all_goals (intro _;try (exfalso;first|omega|with_reducible contradiction)))|fail)
     (apply S.draw;(case Hs=>exact .blk p (jrV t o n m q s k c b) 136::H);(case es=>exact  [9]);(case n=>exact  15);(case hn=>rfl))
     repeat' (first|(apply T.call;apply rfl;apply rfl;with_reducible exact d1;rintro _ _ ⟨rfl,rfl⟩)|(apply T.call;apply rfl;apply rfl;with_reducible exact Zx;rintro _ _ ⟨rfl,rfl⟩)|((with_reducible apply T.rshl 4);apply rfl;apply rfl;omega;apply rfl)|(apply T.ror;apply rfl;apply rfl;omega;omega;apply rfl)|(apply T.sidx;apply rfl;apply rfl;omega;apply rfl)|((first|apply T.mv|apply T.asn|apply T.nilCheck|apply T.fieldAddrZ);apply rfl;apply rfl)|(apply T.load;apply rfl;apply rfl;infer_instance;apply rfl;apply rfl)|((first|apply T.geq|apply T.eql|apply T.extract);(iterate 3 apply rfl))|(apply T.addI;apply rfl;apply rfl;omega;apply rfl)|(apply T.notB;apply rfl;apply rfl)|(apply T.pickT;(iterate 3 apply rfl))|(apply T.pickF;(iterate 3 apply rfl))|(apply T.store;apply rfl;apply rfl;infer_instance;(first|decide|(simp;omega)|simp);apply rfl)|(with_reducible first|refine Sr.nil ?_|refine S.seq ?_|refine S.block ?_|refine S.reg ?_|refine S.skip ?_|refine S.inBlock ?_)|(apply T.ungV;apply rfl;(first|with_reducible rfl|decide))|(apply T.skip;apply rfl;(first|with_reducible rfl|decide);apply rfl)|(apply S.condFV;apply rfl;(first|with_reducible rfl|decide))|(apply S.condQ;apply rfl;all_goals (intro _;try (exfalso;first|omega|with_reducible contradiction)))|(apply T.gcase;apply rfl;apply rfl;all_goals (intro _;try (exfalso;first|omega|with_reducible contradiction)))|(apply T.retW;apply rfl)|(with_reducible apply T.ofRet)|(apply SA.qn;(iterate 4 apply rfl);kernel_rfl)|(apply SA.en;apply rfl;apply rfl;kernel_rfl)|(apply SA.done;apply rfl;kernel_rfl)|(apply SK.intro;(first|exact fun _ h=>h|exact fun _ h=>St.psub h (by ((repeat (first|dsimp only [List.set_cons_zero]|dsimp only [List.set_cons_succ]));repeat' first|exact PSub.refl _|exact PSub.nil|(apply PSub.take;(repeat' first|(with_reducible exact Z0)|(with_reducible apply Z1)))|(with_reducible apply PSub.drop)|((apply PSub.take);(repeat' first|exact Z0|(apply Z1)))))))|fail)
     all_goals first
      | (rw [h4,if_pos (badF.2 (by omega))];exact ⟨_,PSub.refl _,q,0,by omega,rfl,rfl⟩)
      | (rw [if_neg (fun h=>(show ¬_ by omega) (badF.1 h))] at h4;rw [Z7J hd];exact ih _ _ _ _ ⟨q+1,i+1,16*u+d,rfl,rfl,⟨by omega,by omega,by rw [Nat.pow_succ];omega,by rw [h4,show 4 - (i+1)=j by omega]⟩,rfl⟩ (by omega) (by repeat' first|exact trivial|refine And.intro rfl ?_))
    | true =>
     repeat' (first|((first|apply T.slen|apply T.mv|apply T.asn|apply T.nilCheck|apply T.fieldAddrZ);apply rfl;apply rfl)|(apply T.load;apply rfl;apply rfl;infer_instance;apply rfl;apply rfl)|((first|apply T.lss|apply T.eql);(iterate 3 apply rfl))|(with_reducible first|refine Sr.nil ?_|refine S.seq ?_|refine S.block ?_|refine S.reg ?_|refine S.skip ?_)|(apply S.quiet;apply rfl;kernel_rfl)|(apply S.condQ;apply rfl;all_goals (intro _;try (exfalso;first|omega|with_reducible contradiction)))|fail)
     (apply S.draw;(case Hs=>exact .blk p (jrV t o n m q s k c b) 136::H);(case es=>exact  [9]);(case n=>exact  15);(case hn=>rfl))
     repeat' (first|(apply T.call;apply rfl;apply rfl;with_reducible exact d1;rintro _ _ ⟨rfl,rfl⟩)|(apply T.call;apply rfl;apply rfl;with_reducible exact Zx;rintro _ _ ⟨rfl,rfl⟩)|((with_reducible apply T.rshl 4);apply rfl;apply rfl;omega;apply rfl)|(apply T.ror;apply rfl;apply rfl;omega;omega;apply rfl)|(apply T.sidx;apply rfl;apply rfl;omega;apply rfl)|((first|apply T.mv|apply T.asn|apply T.nilCheck|apply T.fieldAddrZ);apply rfl;apply rfl)|(apply T.load;apply rfl;apply rfl;infer_instance;apply rfl;apply rfl)|((first|apply T.lss|apply T.eql|apply T.neq|apply T.extract);(iterate 3 apply rfl))|(apply T.addI;apply rfl;apply rfl;omega;apply rfl)|(apply T.notB;apply rfl;apply rfl)|(apply T.pickT;(iterate 3 apply rfl))|(apply T.pickF;(iterate 3 apply rfl))|(apply T.store;apply rfl;apply rfl;infer_instance;(first|decide|(simp;omega)|simp);apply rfl)|(with_reducible first|refine Sr.nil ?_|refine S.seq ?_|refine S.block ?_|refine S.reg ?_|refine S.skip ?_|refine S.inBlock ?_)|(apply T.ungV;apply rfl;(first|with_reducible rfl|decide))|(apply T.skip;apply rfl;(first|with_reducible rfl|decide);apply rfl)|(apply S.condFV;apply rfl;(first|with_reducible rfl|decide))|(apply S.condQ;apply rfl;all_goals (intro _;try (exfalso;first|omega|with_reducible contradiction)))|(apply T.gcase;apply rfl;apply rfl;all_goals (intro _;try (exfalso;first|omega|with_reducible contradiction)))|(apply T.retW;apply rfl)|(with_reducible apply T.ofRet)|(apply SA.qn;(iterate 4 apply rfl);kernel_rfl)|(apply SA.en;apply rfl;apply rfl;kernel_rfl)|(apply SA.done;apply rfl;kernel_rfl)|(apply SK.intro;(first|exact fun _ h=>h|exact fun _ h=>St.psub h (by ((repeat (first|dsimp only [List.set_cons_zero]|dsimp only [List.set_cons_succ]));repeat' first|exact PSub.refl _|exact PSub.nil|(apply PSub.take;(repeat' first|(with_reducible exact Z0)|(with_reducible apply Z1)))|(with_reducible apply PSub.drop)|((apply PSub.take);(repeat' first|exact Z0|(apply Z1)))))))|fail)
     all_goals first
      | (rw [h4,if_pos (badT.2 (by omega))];exact ⟨_,PSub.refl _,q,0,by omega,rfl,rfl⟩)
      | (rw [if_neg (fun h=>(show ¬_ by omega) (badT.1 h))] at h4;rw [Z7J hd];exact ih _ _ _ _ ⟨q+1,i+1,16*u+d,rfl,rfl,⟨by omega,by omega,by rw [Nat.pow_succ];omega,by rw [h4,show 4 - (i+1)=j by omega]⟩,rfl⟩ (by omega) (by repeat' first|exact trivial|refine And.intro rfl ?_))
  ·obtain rfl:q=t.length:=by omega
   rw [List.getElem?_eq_none (Nat.le_refl _)] at h4
   repeat' (first|((first|apply T.slen|apply T.mv|apply T.asn|apply T.nilCheck|apply T.fieldAddrZ);apply rfl;apply rfl)|(apply T.load;apply rfl;apply rfl;infer_instance;apply rfl;apply rfl)|((first|apply T.lss|apply T.eql);(iterate 3 apply rfl))|(with_reducible first|refine Sr.nil ?_|refine S.seq ?_|refine S.block ?_|refine S.reg ?_|refine S.skip ?_)|(apply S.quiet;apply rfl;kernel_rfl)|(apply S.condQ;apply rfl;all_goals (intro _;try (exfalso;first|omega|with_reducible contradiction)))|fail)
   rw [h4]
   refine T.call rfl rfl Zp ?_
   rintro _ _ ⟨rfl,rfl⟩
   repeat' (first|(apply T.asn;apply rfl;apply rfl)|with_reducible refine Sr.nil ?_|(apply T.retW;apply rfl)|(with_reducible apply T.ofRet)|fail)
   exact ⟨_,PSub.refl _,_,0,by omega,rfl,rfl⟩
 ·obtain rfl:i=4:=by omega
  rw [h4]
  repeat' (first|((first|apply T.mv|apply T.asn);apply rfl;apply rfl)|(apply T.lss;(iterate 3 apply rfl))|(with_reducible first|refine Sr.nil ?_|refine S.seq ?_|refine S.reg ?_)|(apply S.exit;apply rfl)|(apply S.condFV;apply rfl;(first|with_reducible rfl|decide))|(apply T.retW;apply rfl)|fail)
  exact ⟨_,PSub.refl _,rfl,rfl⟩
end
end Go.Proofs.YthomgjihagigcaaGreatDoor
/- What escapes say, in plain Lean: always a code point. -/
namespace Sg
theorem Z1r {t:List UInt8} {low:Bool} {fr k p u a v:Nat} (h:Zr t low fr (k+1) p u=.ok a v):∃ d,d < 16∧Z0b low (3 - k) u d=false∧Zr t low fr k (p+1) (16*u+d)=.ok a v:=by
 rw [Zr] at h
 split at h
 ·cases h
 ·rename_i c _
  split at h
  ·cases h
  ·rename_i d hd
   split at h
   ·cases h
   ·rename_i hb
    refine ⟨d,?_,by simpa using hb,h⟩
    unfold hexN at hd
    have hc:=c.toNat_lt
    simp only [UInt8.le_iff_toNat_le] at hd
    have e1:(48:UInt8).toNat=48:=rfl
    have e2:(57:UInt8).toNat=57:=rfl
    have e3:(97:UInt8).toNat=97:=rfl
    have e4:(102:UInt8).toNat=102:=rfl
    have e5:(65:UInt8).toNat=65:=rfl
    have e6:(70:UInt8).toNat=70:=rfl
    rw [e1,e2,e3,e4,e5,e6] at hd
    repeat' split at hd
    all_goals first|(simp only [Option.some.injEq] at hd;omega)|cases hd
theorem Z2U {t:List UInt8} {low:Bool} {fr p a v:Nat} (h:Zr t low fr 4 p 0=.ok a v):∃ d0 d1 d2 d3,d0 < 16∧d1 < 16∧d2 < 16∧d3 < 16∧Z0b low 0 0 d0=false∧Z0b low 1 d0 d1=false∧v=4096*d0+256*d1+16*d2+d3∧a=p+4:=by
 obtain ⟨d0,h0,b0,h⟩:=Z1r h
 obtain ⟨d1,h1,b1,h⟩:=Z1r h
 obtain ⟨d2,h2,b2,h⟩:=Z1r h
 obtain ⟨d3,h3,b3,h⟩:=Z1r h
 rw [Zr] at h
 cases h
 refine ⟨d0,d1,d2,d3,h0,h1,h2,h3,b0,?_,by omega,rfl⟩
 simpa using b1
theorem Z2j {t:List UInt8} {fr p a v:Nat} (h:Zr t false fr 4 p 0=.ok a v):v < 65536∧(v < 56320∨57343 < v):=by
 obtain ⟨d0,d1,d2,d3,h0,h1,h2,h3,b0,b1,rfl,_⟩:=Z2U h
 simp [Z0b] at b1
 omega
theorem Z3m {t:List UInt8} {fr p a v:Nat} (h:Zr t true fr 4 p 0=.ok a v):56320≤v∧v≤57343:=by
 obtain ⟨d0,d1,d2,d3,h0,h1,h2,h3,b0,b1,rfl,_⟩:=Z2U h
 simp [Z0b] at b0 b1
 omega
theorem Z4w {t:List UInt8} {fr p a u:Nat} (h:Z0G t fr p=.ok a u):u < 1114112∧(u < 55296∨57343 < u):=by
 unfold Z0G at h
 cases h1:Zr t false fr 4 p 0 with
 | bad e q=>rw [h1] at h;cases h
 | ok b hi =>
  rw [h1] at h
  have h2:=Z2j h1
  simp only [Gt.bind] at h
  split at h
  ·cases h
   omega
  ·cases h3:Z0q t fr b 92 with
   | bad e q=>rw [h3] at h;cases h
   | ok b2 _ =>
    rw [h3] at h
    simp only at h
    cases h4:Z0q t fr b2 117 with
    | bad e q=>rw [h4] at h;cases h
    | ok b3 _ =>
     rw [h4] at h
     simp only at h
     cases h5:Zr t true fr 4 b3 0 with
     | bad e q=>rw [h5] at h;cases h
     | ok b4 lo =>
      rw [h5] at h
      have h6:=Z3m h5
      cases h
      omega
theorem Z6R {t:List UInt8} {fr a u:Nat} (h:escX t fr=.ok a u):u < 1114112∧(u < 55296∨57343 < u):=by
 unfold escX at h
 split at h
 ·cases h
 ·split at h
  ·exact Z4w h
  ·split at h
   ·rename_i u' hu
    cases h
    unfold escS at hu
    repeat' split at hu
    all_goals cases hu
    all_goals decide
   ·cases h
theorem Z1N {t:List UInt8} {fr p:Nat} {c:UInt8} (h:p < t.length):Z0q t fr p c=if bAt t p=c.toNat then .ok (p+1) () else .bad 33 fr:=by
 obtain ⟨d,h1,h2⟩:=Z2p h
 unfold Z0q
 rw [h1,←h2]
 by_cases e:d=c
 ·subst e;simp
 ·have:¬d.toNat=c.toNat:=fun e'=>e (UInt8.toNat_inj.1 e')
  simp [e,this]
theorem Z1h {t:List UInt8} {fr p:Nat} {c:UInt8} (h:¬p < t.length):Z0q t fr p c=.bad 31 p:=by
 unfold Z0q
 rw [List.getElem?_eq_none (by omega)]
def escN (c:Nat):Option Nat:=if c=34 then some 34 else if c=92 then some 92 else if c=47 then some 47 else if c=98 then some 8 else if c=102 then some 12 else if c=110 then some 10 else if c=114 then some 13 else if c=116 then some 9 else none
theorem Z8b (c:UInt8):escS c=escN c.toNat:=by
 have key:∀ d:UInt8,(c=d)=(c.toNat=d.toNat):=fun d=>propext UInt8.toNat_inj.symm
 unfold escS escN
 simp only [key]
 rfl
theorem Z4K {t:List UInt8} {fr:Nat} (h:fr+1 < t.length):escX t fr=if bAt t (fr+1)=117 then Z0G t fr (fr+2) else match escN (bAt t (fr+1)) with
  | some u=>.ok (fr+2) u
  | none=>.bad 33 fr:=by
 obtain ⟨d,h1,h2⟩:=Z2p h
 have h3:(d=117)=(d.toNat=117):=propext UInt8.toNat_inj.symm
 unfold escX
 rw [h1]
 simp only [Z8b,h2,h3]
 by_cases hh:bAt t (fr+1)=117
 ·rw [if_pos hh,if_pos hh]
 ·rw [if_neg hh,if_neg hh]
  cases escN (bAt t (fr+1))<;>rfl
theorem Z5l {t:List UInt8} {fr:Nat} (h:¬fr+1 < t.length):escX t fr=.bad 31 (fr+1):=by
 unfold escX
 rw [List.getElem?_eq_none (by omega)]
end Sg
/- The walks of the program's reader of JSON: whole escapes. -/
namespace Go.Proofs.YthomgjihagigcaaGreatDoor
open Sg Go.IntWalk
set_option maxRecDepth 100000
set_option maxHeartbeats 2000000
section
variable {F:World} {M:List Nat} {H:List Res} {p:Nat} {t:List UInt8} {o n m:Value} {a s:Nat} {k:List UInt8} {c b:Int}
theorem Z5G {fr:Nat} (ha:a≤t.length) (hl:t.length≤1000000000):Meets Tryz.prog 150 [.pointer (some ⟨p,0,none⟩),.int .i64 fr] F M (.blk p (jrV t o n m a s k c b) 136::H) (JrR p t o n m s k c b 100000000 H (Z0G t fr a)):=by
 refine Meets.enter Tryz.func150 rfl rfl ?_
 repeat' (first|((first|apply T.mv|apply T.asn);apply rfl;apply rfl)|(with_reducible first|refine Sr.nil ?_|refine S.seq ?_|refine S.reg ?_)|fail)
 refine T.call rfl rfl (Z3u (fr:=fr) (low:=false) ha hl) ?_
 unfold Z0G
 cases h1:Zr t false fr 4 a 0 with
 | bad e1 q1 =>
  rintro _ _ ⟨a1,z,hz,rfl,rfl⟩
  repeat' (first|((first|apply T.mv|apply T.asn);apply rfl;apply rfl)|(apply T.extract;(iterate 3 apply rfl))|(apply T.notB;apply rfl;apply rfl)|(apply T.pickT;(iterate 3 apply rfl))|(with_reducible first|refine Sr.nil ?_|refine S.seq ?_|refine S.reg ?_)|(apply T.skip;apply rfl;(first|with_reducible rfl|decide);apply rfl)|(apply S.condTV;apply rfl;(first|with_reducible rfl|decide))|(apply T.retW;apply rfl)|(with_reducible apply T.ofRet)|fail)
  exact ⟨_,PSub.refl _,a1,z,by omega,rfl,rfl⟩
 | ok a1 hi =>
  rintro _ _ ⟨rfl,rfl⟩
  have hb:=Z2j h1
  have hf:=Z0l (low:=false) (fr:=fr) (k:=4) (u:=0) ha a1 hi h1
  simp only [Gt.bind]
  by_cases h2:hi < 55296∨57343 < hi
  ·rw [if_pos h2]
   repeat' (first|((first|apply T.mv|apply T.asn);apply rfl;apply rfl)|((first|apply T.lss|apply T.gtr|apply T.extract);(iterate 3 apply rfl))|(apply T.notB;apply rfl;apply rfl)|(apply T.pickT;(iterate 3 apply rfl))|(apply T.pickF;(iterate 3 apply rfl))|(with_reducible first|refine Sr.nil ?_|refine S.seq ?_|refine S.reg ?_)|(apply T.ungV;apply rfl;(first|with_reducible rfl|decide))|(apply T.skip;apply rfl;(first|with_reducible rfl|decide);apply rfl)|(apply S.condTV;apply rfl;(first|with_reducible rfl|decide))|(apply S.condQ;apply rfl;all_goals (intro _;try (exfalso;first|omega|with_reducible contradiction)))|(apply T.gcase;apply rfl;apply rfl;all_goals (intro _;try (exfalso;first|omega|with_reducible contradiction)))|(apply T.retW;apply rfl)|(with_reducible apply T.ofRet)|fail)
   all_goals exact ⟨_,PSub.refl _,rfl,rfl⟩
  ·rw [if_neg h2]
   have h3:¬hi < 55296:=by omega
   have h4:¬57343 < hi:=by omega
   repeat' (first|(apply T.convM;apply rfl;apply rfl)|((first|apply T.mv|apply T.asn|apply T.len);apply rfl;apply rfl)|((first|apply T.lss|apply T.gtr|apply T.extract);(iterate 3 apply rfl))|(apply T.notB;apply rfl;apply rfl)|(apply T.pickF;(iterate 3 apply rfl))|(apply T.bs;(iterate 6 apply rfl);intro nb)|(with_reducible first|refine Sr.nil ?_|refine S.seq ?_|refine S.block ?_|refine S.reg ?_|refine S.skip ?_)|(apply T.ungV;apply rfl;(first|with_reducible rfl|decide))|(apply S.condQ;apply rfl;all_goals (intro _;try (exfalso;first|omega|with_reducible contradiction)))|(apply T.gcase;apply rfl;apply rfl;all_goals (intro _;try (exfalso;first|omega|with_reducible contradiction)))|(with_reducible apply T.ofRet)|fail)
   refine S.unroll ?_
   by_cases h5:a1 < t.length
   ·rw [Z1N h5]
    have hg:bAt t a1=(t.getD a1 0).toNat:=rfl
    by_cases h6:bAt t a1=(92:UInt8).toNat
    ·rw [if_pos h6]
     have h6':(t.getD a1 0).toNat=92:=h6
     simp only
     repeat' (first|(apply T.loadE;apply rfl;apply rfl;infer_instance;apply rfl;apply rfl)|(apply T.ixK;apply rfl;apply rfl;infer_instance;decide;decide;apply rfl)|((first|apply T.slen|apply T.mv|apply T.asn|apply T.nilCheck|apply T.fieldAddrZ);apply rfl;apply rfl)|(apply T.sidx;apply rfl;apply rfl;omega;apply rfl)|(apply T.load;apply rfl;apply rfl;infer_instance;apply rfl;apply rfl)|((first|apply T.lss|apply T.eql|apply T.neq);(iterate 3 apply rfl))|(apply T.addI;apply rfl;apply rfl;omega;apply rfl)|(apply T.store;apply rfl;apply rfl;infer_instance;(first|decide|(simp;omega)|simp);apply rfl)|(with_reducible first|refine Sr.nil ?_|refine S.seq ?_|refine S.block ?_|refine S.reg ?_|refine S.skip ?_|refine S.inBlock ?_)|(apply S.quiet;apply rfl;kernel_rfl)|(apply S.condTV;apply rfl;(first|with_reducible rfl|decide))|(apply S.condQ;apply rfl;all_goals (intro _;try (exfalso;first|omega|with_reducible contradiction)))|fail)
     refine S.again ?_
     by_cases h7:a1+1 < t.length
     ·rw [Z1N h7]
      by_cases h8:bAt t (a1+1)=(117:UInt8).toNat
      ·rw [if_pos h8]
       have h8':((t.getD (a1+1) 0).toNat:Int)=117:=congrArg Int.ofNat h8
       simp only
       repeat' (first|(apply T.loadE;apply rfl;apply rfl;infer_instance;apply rfl;apply rfl)|(apply T.ixK;apply rfl;apply rfl;infer_instance;decide;decide;apply rfl)|(refine T.sidx (i:=a1+1) rfl rfl (by omega) rfl ?_)|((first|apply T.slen|apply T.mv|apply T.asn|apply T.nilCheck|apply T.fieldAddrZ);apply rfl;apply rfl)|(apply T.load;apply rfl;apply rfl;infer_instance;apply rfl;apply rfl)|((first|apply T.lss|apply T.eql|apply T.neq);(iterate 3 apply rfl))|(apply T.addI;apply rfl;apply rfl;omega;apply rfl)|(apply T.store;apply rfl;apply rfl;infer_instance;(first|decide|(simp;omega)|simp);apply rfl)|(with_reducible first|refine Sr.nil ?_|refine S.seq ?_|refine S.block ?_|refine S.reg ?_|refine S.skip ?_|refine S.inBlock ?_)|(apply S.quiet;apply rfl;kernel_rfl)|(apply S.condTV;apply rfl;(first|with_reducible rfl|decide))|(apply S.condQ;apply rfl;all_goals (intro _;try (exfalso;first|omega|with_reducible contradiction)))|fail)
       refine S.again ?_
       repeat' (first|(apply T.mv;apply rfl;apply rfl)|(apply T.lss;(iterate 3 apply rfl))|(with_reducible first|refine Sr.nil ?_|refine S.seq ?_|refine S.reg ?_)|(apply S.exit;apply rfl)|(apply S.condFV;apply rfl;(first|with_reducible rfl|decide))|fail)
       refine Sr.front p ?_
       refine T.call rfl rfl (Z3u (a:=a1+1+1) (fr:=fr) (low:=true) (by omega) hl) ?_
       cases h9:Zr t true fr 4 (a1+1+1) 0 with
       | bad e1 q1 =>
        rintro _ _ ⟨a2,z,hz,rfl,rfl⟩
        repeat' (first|(apply T.raddR;apply rfl;apply rfl;omega;apply rfl)|(apply T.rsubR;apply rfl;apply rfl;omega;apply rfl)|((with_reducible apply T.rshlZ 10);apply rfl;apply rfl;omega;apply rfl)|((first|apply T.mv|apply T.asn);apply rfl;apply rfl)|(apply T.extract;(iterate 3 apply rfl))|(with_reducible first|refine Sr.nil ?_|refine S.seq ?_|refine S.reg ?_)|(apply T.retW;apply rfl)|(with_reducible apply T.ofRet)|fail)
        exact ⟨_,by ((repeat (first|dsimp only [List.set_cons_zero]|dsimp only [List.set_cons_succ]));repeat' first|exact PSub.refl _|exact PSub.nil|(with_reducible apply PSub.app)|(apply PSub.take;(repeat' first|(with_reducible exact Z0)|(with_reducible apply Z1)))|(with_reducible apply PSub.drop)|((apply PSub.take);(repeat' first|exact Z0|(apply Z1)))),a2,_,by omega,rfl,rfl⟩
       | ok a2 lo =>
        rintro _ _ ⟨rfl,rfl⟩
        have hb2:=Z3m h9
        repeat' (first|(apply T.raddR;apply rfl;apply rfl;omega;apply rfl)|(apply T.rsubR;apply rfl;apply rfl;omega;apply rfl)|((with_reducible apply T.rshlZ 10);apply rfl;apply rfl;omega;apply rfl)|((first|apply T.mv|apply T.asn);apply rfl;apply rfl)|(apply T.extract;(iterate 3 apply rfl))|(with_reducible first|refine Sr.nil ?_|refine S.seq ?_|refine S.reg ?_)|(apply T.retW;apply rfl)|(with_reducible apply T.ofRet)|fail)
        have e1:(65536+((hi:Int) - 55296)*2 ^ 10+((lo:Int) - 56320))=((65536+1024*(hi - 55296)+lo - 56320:Nat):Int):=by omega
        rw [e1]
        exact ⟨_,by ((repeat (first|dsimp only [List.set_cons_zero]|dsimp only [List.set_cons_succ]));repeat' first|exact PSub.refl _|exact PSub.nil|(with_reducible apply PSub.app)|(apply PSub.take;(repeat' first|(with_reducible exact Z0)|(with_reducible apply Z1)))|(with_reducible apply PSub.drop)|((apply PSub.take);(repeat' first|exact Z0|(apply Z1)))),rfl,rfl⟩
      ·rw [if_neg h8]
       have h8':¬((t.getD (a1+1) 0).toNat:Int)=117:=fun h=>h8 (Int.ofNat.inj h)
       repeat' (first|(apply T.loadE;apply rfl;apply rfl;infer_instance;apply rfl;apply rfl)|(apply T.ixK;apply rfl;apply rfl;infer_instance;decide;decide;apply rfl)|(refine T.sidx (i:=a1+1) rfl rfl (by omega) rfl ?_)|((first|apply T.slen|apply T.mv|apply T.asn|apply T.nilCheck|apply T.fieldAddrZ);apply rfl;apply rfl)|(apply T.load;apply rfl;apply rfl;infer_instance;apply rfl;apply rfl)|((first|apply T.lss|apply T.eql|apply T.neq);(iterate 3 apply rfl))|(with_reducible first|refine Sr.nil ?_|refine S.seq ?_|refine S.block ?_|refine S.reg ?_|refine S.skip ?_)|(apply S.quiet;apply rfl;kernel_rfl)|(apply S.condTV;apply rfl;(first|with_reducible rfl|decide))|(apply S.condQ;apply rfl;all_goals (intro _;try (exfalso;first|omega|with_reducible contradiction)))|fail)
       refine Sr.front p ?_
       refine T.call rfl rfl Zx ?_
       rintro _ _ ⟨rfl,rfl⟩
       repeat' (first|(apply T.asn;apply rfl;apply rfl)|with_reducible refine Sr.nil ?_|(apply T.retW;apply rfl)|(with_reducible apply T.ofRet)|fail)
       exact ⟨_,by ((repeat (first|dsimp only [List.set_cons_zero]|dsimp only [List.set_cons_succ]));repeat' first|exact PSub.refl _|exact PSub.nil|(with_reducible apply PSub.app)|(apply PSub.take;(repeat' first|(with_reducible exact Z0)|(with_reducible apply Z1)))|(with_reducible apply PSub.drop)|((apply PSub.take);(repeat' first|exact Z0|(apply Z1)))),a1+1,0,by omega,rfl,rfl⟩
     ·rw [Z1h h7]
      have e9:(t.length:Int)=(a1:Int)+1:=by omega
      repeat' (first|(apply T.ixK;apply rfl;apply rfl;infer_instance;decide;decide;apply rfl)|(apply T.loadE;apply rfl;apply rfl;infer_instance;apply rfl;apply rfl)|((first|apply T.slen|apply T.mv|apply T.asn|apply T.nilCheck|apply T.fieldAddrZ);apply rfl;apply rfl)|(apply T.load;apply rfl;apply rfl;infer_instance;apply rfl;apply rfl)|((first|apply T.lss|apply T.eql);(iterate 3 apply rfl))|(with_reducible first|refine Sr.nil ?_|refine S.seq ?_|refine S.block ?_|refine S.reg ?_|refine S.skip ?_)|(apply S.quiet;apply rfl;kernel_rfl)|(apply S.condTV;apply rfl;(first|with_reducible rfl|decide))|(apply S.condQ;apply rfl;all_goals (intro _;try (exfalso;first|omega|with_reducible contradiction)))|fail)
      refine Sr.front p ?_
      refine T.call rfl rfl (Zp (a:=a1+1)) ?_
      rintro _ _ ⟨rfl,rfl⟩
      repeat' (first|(apply T.asn;apply rfl;apply rfl)|with_reducible refine Sr.nil ?_|(apply T.retW;apply rfl)|(with_reducible apply T.ofRet)|fail)
      exact ⟨_,by ((repeat (first|dsimp only [List.set_cons_zero]|dsimp only [List.set_cons_succ]));repeat' first|exact PSub.refl _|exact PSub.nil|(with_reducible apply PSub.app)|(apply PSub.take;(repeat' first|(with_reducible exact Z0)|(with_reducible apply Z1)))|(with_reducible apply PSub.drop)|((apply PSub.take);(repeat' first|exact Z0|(apply Z1)))),a1+1,0,by omega,rfl,rfl⟩
    ·rw [if_neg h6]
     have h6':¬(t.getD a1 0).toNat=92:=h6
     repeat' (first|(apply T.loadE;apply rfl;apply rfl;infer_instance;apply rfl;apply rfl)|(apply T.ixK;apply rfl;apply rfl;infer_instance;decide;decide;apply rfl)|((first|apply T.slen|apply T.mv|apply T.asn|apply T.nilCheck|apply T.fieldAddrZ);apply rfl;apply rfl)|(apply T.sidx;apply rfl;apply rfl;omega;apply rfl)|(apply T.load;apply rfl;apply rfl;infer_instance;apply rfl;apply rfl)|((first|apply T.lss|apply T.eql|apply T.neq);(iterate 3 apply rfl))|(with_reducible first|refine Sr.nil ?_|refine S.seq ?_|refine S.block ?_|refine S.reg ?_|refine S.skip ?_)|(apply S.quiet;apply rfl;kernel_rfl)|(apply S.condTV;apply rfl;(first|with_reducible rfl|decide))|(apply S.condQ;apply rfl;all_goals (intro _;try (exfalso;first|omega|with_reducible contradiction)))|fail)
     refine Sr.front p ?_
     refine T.call rfl rfl Zx ?_
     rintro _ _ ⟨rfl,rfl⟩
     repeat' (first|(apply T.asn;apply rfl;apply rfl)|with_reducible refine Sr.nil ?_|(apply T.retW;apply rfl)|(with_reducible apply T.ofRet)|fail)
     exact ⟨_,by ((repeat (first|dsimp only [List.set_cons_zero]|dsimp only [List.set_cons_succ]));repeat' first|exact PSub.refl _|exact PSub.nil|(with_reducible apply PSub.app)|(apply PSub.take;(repeat' first|(with_reducible exact Z0)|(with_reducible apply Z1)))|(with_reducible apply PSub.drop)|((apply PSub.take);(repeat' first|exact Z0|(apply Z1)))),a1,0,by omega,rfl,rfl⟩
   ·rw [Z1h h5]
    repeat' (first|(apply T.ixK;apply rfl;apply rfl;infer_instance;decide;decide;apply rfl)|(apply T.loadE;apply rfl;apply rfl;infer_instance;apply rfl;apply rfl)|((first|apply T.slen|apply T.mv|apply T.asn|apply T.nilCheck|apply T.fieldAddrZ);apply rfl;apply rfl)|(apply T.load;apply rfl;apply rfl;infer_instance;apply rfl;apply rfl)|((first|apply T.lss|apply T.eql);(iterate 3 apply rfl))|(with_reducible first|refine Sr.nil ?_|refine S.seq ?_|refine S.block ?_|refine S.reg ?_|refine S.skip ?_)|(apply S.quiet;apply rfl;kernel_rfl)|(apply S.condTV;apply rfl;(first|with_reducible rfl|decide))|(apply S.condQ;apply rfl;all_goals (intro _;try (exfalso;first|omega|with_reducible contradiction)))|fail)
    refine Sr.front p ?_
    refine T.call rfl rfl Zp ?_
    rintro _ _ ⟨rfl,rfl⟩
    repeat' (first|(apply T.asn;apply rfl;apply rfl)|with_reducible refine Sr.nil ?_|(apply T.retW;apply rfl)|(with_reducible apply T.ofRet)|fail)
    exact ⟨_,by ((repeat (first|dsimp only [List.set_cons_zero]|dsimp only [List.set_cons_succ]));repeat' first|exact PSub.refl _|exact PSub.nil|(with_reducible apply PSub.app)|(apply PSub.take;(repeat' first|(with_reducible exact Z0)|(with_reducible apply Z1)))|(with_reducible apply PSub.drop)|((apply PSub.take);(repeat' first|exact Z0|(apply Z1)))),a1,0,by omega,rfl,rfl⟩
end
end Go.Proofs.YthomgjihagigcaaGreatDoor
/- The walks of the program's reader of JSON: escapes. -/
namespace Go.Proofs.YthomgjihagigcaaGreatDoor
open Sg Go.IntWalk
set_option maxRecDepth 100000
set_option maxHeartbeats 4000000
section
variable {F:World} {M:List Nat} {H:List Res} {p:Nat} {t:List UInt8} {o n m:Value} {s:Nat} {k:List UInt8} {c b:Int}
theorem Z4J {fr:Nat} (ha:fr < t.length) (hl:t.length≤1000000000):Meets Tryz.prog 136 [.pointer (some ⟨p,0,none⟩)] F M (.blk p (jrV t o n m fr s k c b) 136::H) (JrR p t o n m s k c b 100000000 H (escX t fr)):=by
 refine Meets.enter Tryz.func136 rfl rfl ?_
 have hu:=Z14 t (fr+1)
 repeat' (first|((first|apply T.mv|apply T.asn|apply T.nilCheck|apply T.fieldAddrZ);apply rfl;apply rfl)|(apply T.load;apply rfl;apply rfl;infer_instance;apply rfl;apply rfl)|(apply T.addI;apply rfl;apply rfl;omega;apply rfl)|(apply T.store;apply rfl;apply rfl;infer_instance;(first|decide|(simp;omega)|simp);apply rfl)|(with_reducible first|refine Sr.nil ?_|refine S.seq ?_|refine S.reg ?_)|fail)
 refine T.call rfl rfl (Zw (a:=fr+1)) ?_
 rintro _ _ ⟨rfl,rfl⟩
 by_cases h1:fr+1 < t.length
 ·rw [Z4K h1]
  by_cases h2:bAt t (fr+1)=117
  ·rw [if_pos h2]
   repeat' (first|((first|apply T.slen|apply T.mv|apply T.asn|apply T.nilCheck|apply T.fieldAddrZ);apply rfl;apply rfl)|(apply T.load;apply rfl;apply rfl;infer_instance;apply rfl;apply rfl)|(apply T.eql;(iterate 3 apply rfl))|(apply T.addI;apply rfl;apply rfl;omega;apply rfl)|(apply T.store;apply rfl;apply rfl;infer_instance;(first|decide|(simp;omega)|simp);apply rfl)|(with_reducible first|refine Sr.nil ?_|refine S.seq ?_|refine S.block ?_|refine S.reg ?_)|(apply S.quiet;apply rfl;kernel_rfl)|(apply S.condQ;apply rfl;all_goals (intro _;try (exfalso;first|omega|with_reducible contradiction)))|(with_reducible apply T.ofRet)|fail)
   refine T.call rfl rfl (Z5G (a:=fr+2) (fr:=fr) (by omega) hl) ?_
   cases Z0G t fr (fr+2) with
   | bad e1 q1 =>
    rintro _ _ ⟨a1,z,hz,rfl,rfl⟩
    repeat' (first|(apply T.asn;apply rfl;apply rfl)|(apply T.extract;(iterate 3 apply rfl))|with_reducible refine Sr.nil ?_|(apply T.retW;apply rfl)|(with_reducible apply T.ofRet)|fail)
    exact ⟨_,PSub.refl _,a1,z,hz,rfl,rfl⟩
   | ok a1 u =>
    rintro _ _ ⟨rfl,rfl⟩
    repeat' (first|(apply T.asn;apply rfl;apply rfl)|(apply T.extract;(iterate 3 apply rfl))|with_reducible refine Sr.nil ?_|(apply T.retW;apply rfl)|(with_reducible apply T.ofRet)|fail)
    exact ⟨_,PSub.refl _,rfl,rfl⟩
  ·rw [if_neg h2]
   repeat' (first|((first|apply T.slen|apply T.mv|apply T.asn|apply T.nilCheck|apply T.fieldAddrZ);apply rfl;apply rfl)|(apply T.load;apply rfl;apply rfl;infer_instance;apply rfl;apply rfl)|(apply T.eql;(iterate 3 apply rfl))|(apply T.buildAL;(iterate 3 apply rfl))|(with_reducible first|refine Sr.nil ?_|refine S.seq ?_|refine S.block ?_|refine S.reg ?_|refine S.skip ?_|refine S.inBlock ?_)|(apply S.quiet;apply rfl;kernel_rfl)|(apply S.condQ;apply rfl;all_goals (intro _;try (exfalso;first|omega|with_reducible contradiction)))|(with_reducible apply T.ofRet)|fail)
   refine S.unroll ?_
   repeat' (first|(apply T.aidx;(iterate 3 apply rfl);decide;apply rfl;apply rfl)|(apply T.convI32;apply rfl;omega;apply rfl)|((first|apply T.mv|apply T.asn|apply T.nilCheck|apply T.fieldAddrZ);apply rfl;apply rfl)|(apply T.load;apply rfl;apply rfl;infer_instance;apply rfl;apply rfl)|((first|apply T.lss|apply T.eql);(iterate 3 apply rfl))|(apply T.addI;apply rfl;apply rfl;omega;apply rfl)|(apply T.ixA;apply rfl;apply rfl;omega;apply rfl)|(apply T.storeW;apply rfl;apply rfl;infer_instance;(first|rfl|(simp only [List.length_append,List.length_map,List.length_set,List.length_replicate,List.length_cons,List.length_nil];first|done|omega));(first|rfl|(simp only [List.length_append,List.length_map,List.length_set,List.length_replicate,List.length_cons,List.length_nil];first|done|omega));(first|rfl|(repeat' first|apply all_nV|apply all_bV|apply all_iV|rfl|apply all_app)))|(apply T.store;apply rfl;apply rfl;infer_instance;(first|decide|(simp;omega)|simp);apply rfl)|(apply T.alloc;apply rfl;intro nb)|(with_reducible first|refine Sr.nil ?_|refine S.seq ?_|refine S.block ?_|refine S.reg ?_|refine S.skip ?_|refine S.inBlock ?_)|(apply S.condTV;apply rfl;(first|with_reducible rfl|decide))|(apply S.condQ;apply rfl;all_goals (intro _;try (exfalso;first|omega|with_reducible contradiction)))|(apply T.retW;apply rfl)|fail)
   ·rw [show bAt t (fr+1)=34 by omega]
    exact ⟨_,PSub.drop (PSub.refl _),rfl,rfl⟩
   refine S.again ?_
   repeat' (first|(apply T.aidx;(iterate 3 apply rfl);decide;apply rfl;apply rfl)|(apply T.convI32;apply rfl;omega;apply rfl)|((first|apply T.mv|apply T.asn|apply T.nilCheck|apply T.fieldAddrZ);apply rfl;apply rfl)|(apply T.load;apply rfl;apply rfl;infer_instance;apply rfl;apply rfl)|((first|apply T.lss|apply T.eql);(iterate 3 apply rfl))|(apply T.addI;apply rfl;apply rfl;omega;apply rfl)|(apply T.ixA;apply rfl;apply rfl;omega;apply rfl)|(apply T.storeW;apply rfl;apply rfl;infer_instance;(first|rfl|(simp only [List.length_append,List.length_map,List.length_set,List.length_replicate,List.length_cons,List.length_nil];first|done|omega));(first|rfl|(simp only [List.length_append,List.length_map,List.length_set,List.length_replicate,List.length_cons,List.length_nil];first|done|omega));(first|rfl|(repeat' first|apply all_nV|apply all_bV|apply all_iV|rfl|apply all_app)))|(apply T.store;apply rfl;apply rfl;infer_instance;(first|decide|(simp;omega)|simp);apply rfl)|(apply T.alloc;apply rfl;intro nb)|(with_reducible first|refine Sr.nil ?_|refine S.seq ?_|refine S.block ?_|refine S.reg ?_|refine S.skip ?_|refine S.inBlock ?_)|(apply S.condTV;apply rfl;(first|with_reducible rfl|decide))|(apply S.condQ;apply rfl;all_goals (intro _;try (exfalso;first|omega|with_reducible contradiction)))|(apply T.retW;apply rfl)|fail)
   ·rw [show bAt t (fr+1)=92 by omega]
    exact ⟨_,PSub.drop (PSub.drop (PSub.refl _)),rfl,rfl⟩
   refine S.again ?_
   repeat' (first|(apply T.aidx;(iterate 3 apply rfl);decide;apply rfl;apply rfl)|(apply T.convI32;apply rfl;omega;apply rfl)|((first|apply T.mv|apply T.asn|apply T.nilCheck|apply T.fieldAddrZ);apply rfl;apply rfl)|(apply T.load;apply rfl;apply rfl;infer_instance;apply rfl;apply rfl)|((first|apply T.lss|apply T.eql);(iterate 3 apply rfl))|(apply T.addI;apply rfl;apply rfl;omega;apply rfl)|(apply T.ixA;apply rfl;apply rfl;omega;apply rfl)|(apply T.storeW;apply rfl;apply rfl;infer_instance;(first|rfl|(simp only [List.length_append,List.length_map,List.length_set,List.length_replicate,List.length_cons,List.length_nil];first|done|omega));(first|rfl|(simp only [List.length_append,List.length_map,List.length_set,List.length_replicate,List.length_cons,List.length_nil];first|done|omega));(first|rfl|(repeat' first|apply all_nV|apply all_bV|apply all_iV|rfl|apply all_app)))|(apply T.store;apply rfl;apply rfl;infer_instance;(first|decide|(simp;omega)|simp);apply rfl)|(apply T.alloc;apply rfl;intro nb)|(with_reducible first|refine Sr.nil ?_|refine S.seq ?_|refine S.block ?_|refine S.reg ?_|refine S.skip ?_|refine S.inBlock ?_)|(apply S.condTV;apply rfl;(first|with_reducible rfl|decide))|(apply S.condQ;apply rfl;all_goals (intro _;try (exfalso;first|omega|with_reducible contradiction)))|(apply T.retW;apply rfl)|fail)
   ·rw [show bAt t (fr+1)=47 by omega]
    exact ⟨_,PSub.drop (PSub.drop (PSub.drop (PSub.refl _))),rfl,rfl⟩
   refine S.again ?_
   repeat' (first|(apply T.aidx;(iterate 3 apply rfl);decide;apply rfl;apply rfl)|(apply T.convI32;apply rfl;omega;apply rfl)|((first|apply T.mv|apply T.asn|apply T.nilCheck|apply T.fieldAddrZ);apply rfl;apply rfl)|(apply T.load;apply rfl;apply rfl;infer_instance;apply rfl;apply rfl)|((first|apply T.lss|apply T.eql);(iterate 3 apply rfl))|(apply T.addI;apply rfl;apply rfl;omega;apply rfl)|(apply T.ixA;apply rfl;apply rfl;omega;apply rfl)|(apply T.storeW;apply rfl;apply rfl;infer_instance;(first|rfl|(simp only [List.length_append,List.length_map,List.length_set,List.length_replicate,List.length_cons,List.length_nil];first|done|omega));(first|rfl|(simp only [List.length_append,List.length_map,List.length_set,List.length_replicate,List.length_cons,List.length_nil];first|done|omega));(first|rfl|(repeat' first|apply all_nV|apply all_bV|apply all_iV|rfl|apply all_app)))|(apply T.store;apply rfl;apply rfl;infer_instance;(first|decide|(simp;omega)|simp);apply rfl)|(apply T.alloc;apply rfl;intro nb)|(with_reducible first|refine Sr.nil ?_|refine S.seq ?_|refine S.block ?_|refine S.reg ?_|refine S.skip ?_|refine S.inBlock ?_)|(apply S.condTV;apply rfl;(first|with_reducible rfl|decide))|(apply S.condQ;apply rfl;all_goals (intro _;try (exfalso;first|omega|with_reducible contradiction)))|(apply T.retW;apply rfl)|fail)
   ·rw [show bAt t (fr+1)=98 by omega]
    exact ⟨_,PSub.drop (PSub.drop (PSub.drop (PSub.drop (PSub.refl _)))),rfl,rfl⟩
   refine S.again ?_
   repeat' (first|(apply T.aidx;(iterate 3 apply rfl);decide;apply rfl;apply rfl)|(apply T.convI32;apply rfl;omega;apply rfl)|((first|apply T.mv|apply T.asn|apply T.nilCheck|apply T.fieldAddrZ);apply rfl;apply rfl)|(apply T.load;apply rfl;apply rfl;infer_instance;apply rfl;apply rfl)|((first|apply T.lss|apply T.eql);(iterate 3 apply rfl))|(apply T.addI;apply rfl;apply rfl;omega;apply rfl)|(apply T.ixA;apply rfl;apply rfl;omega;apply rfl)|(apply T.storeW;apply rfl;apply rfl;infer_instance;(first|rfl|(simp only [List.length_append,List.length_map,List.length_set,List.length_replicate,List.length_cons,List.length_nil];first|done|omega));(first|rfl|(simp only [List.length_append,List.length_map,List.length_set,List.length_replicate,List.length_cons,List.length_nil];first|done|omega));(first|rfl|(repeat' first|apply all_nV|apply all_bV|apply all_iV|rfl|apply all_app)))|(apply T.store;apply rfl;apply rfl;infer_instance;(first|decide|(simp;omega)|simp);apply rfl)|(apply T.alloc;apply rfl;intro nb)|(with_reducible first|refine Sr.nil ?_|refine S.seq ?_|refine S.block ?_|refine S.reg ?_|refine S.skip ?_|refine S.inBlock ?_)|(apply S.condTV;apply rfl;(first|with_reducible rfl|decide))|(apply S.condQ;apply rfl;all_goals (intro _;try (exfalso;first|omega|with_reducible contradiction)))|(apply T.retW;apply rfl)|fail)
   ·rw [show bAt t (fr+1)=102 by omega]
    exact ⟨_,PSub.drop (PSub.drop (PSub.drop (PSub.drop (PSub.drop (PSub.refl _))))),rfl,rfl⟩
   refine S.again ?_
   repeat' (first|(apply T.aidx;(iterate 3 apply rfl);decide;apply rfl;apply rfl)|(apply T.convI32;apply rfl;omega;apply rfl)|((first|apply T.mv|apply T.asn|apply T.nilCheck|apply T.fieldAddrZ);apply rfl;apply rfl)|(apply T.load;apply rfl;apply rfl;infer_instance;apply rfl;apply rfl)|((first|apply T.lss|apply T.eql);(iterate 3 apply rfl))|(apply T.addI;apply rfl;apply rfl;omega;apply rfl)|(apply T.ixA;apply rfl;apply rfl;omega;apply rfl)|(apply T.storeW;apply rfl;apply rfl;infer_instance;(first|rfl|(simp only [List.length_append,List.length_map,List.length_set,List.length_replicate,List.length_cons,List.length_nil];first|done|omega));(first|rfl|(simp only [List.length_append,List.length_map,List.length_set,List.length_replicate,List.length_cons,List.length_nil];first|done|omega));(first|rfl|(repeat' first|apply all_nV|apply all_bV|apply all_iV|rfl|apply all_app)))|(apply T.store;apply rfl;apply rfl;infer_instance;(first|decide|(simp;omega)|simp);apply rfl)|(apply T.alloc;apply rfl;intro nb)|(with_reducible first|refine Sr.nil ?_|refine S.seq ?_|refine S.block ?_|refine S.reg ?_|refine S.skip ?_|refine S.inBlock ?_)|(apply S.condTV;apply rfl;(first|with_reducible rfl|decide))|(apply S.condQ;apply rfl;all_goals (intro _;try (exfalso;first|omega|with_reducible contradiction)))|(apply T.retW;apply rfl)|fail)
   ·rw [show bAt t (fr+1)=110 by omega]
    exact ⟨_,PSub.drop (PSub.drop (PSub.drop (PSub.drop (PSub.drop (PSub.drop (PSub.refl _)))))),rfl,rfl⟩
   refine S.again ?_
   repeat' (first|(apply T.aidx;(iterate 3 apply rfl);decide;apply rfl;apply rfl)|(apply T.convI32;apply rfl;omega;apply rfl)|((first|apply T.mv|apply T.asn|apply T.nilCheck|apply T.fieldAddrZ);apply rfl;apply rfl)|(apply T.load;apply rfl;apply rfl;infer_instance;apply rfl;apply rfl)|((first|apply T.lss|apply T.eql);(iterate 3 apply rfl))|(apply T.addI;apply rfl;apply rfl;omega;apply rfl)|(apply T.ixA;apply rfl;apply rfl;omega;apply rfl)|(apply T.storeW;apply rfl;apply rfl;infer_instance;(first|rfl|(simp only [List.length_append,List.length_map,List.length_set,List.length_replicate,List.length_cons,List.length_nil];first|done|omega));(first|rfl|(simp only [List.length_append,List.length_map,List.length_set,List.length_replicate,List.length_cons,List.length_nil];first|done|omega));(first|rfl|(repeat' first|apply all_nV|apply all_bV|apply all_iV|rfl|apply all_app)))|(apply T.store;apply rfl;apply rfl;infer_instance;(first|decide|(simp;omega)|simp);apply rfl)|(apply T.alloc;apply rfl;intro nb)|(with_reducible first|refine Sr.nil ?_|refine S.seq ?_|refine S.block ?_|refine S.reg ?_|refine S.skip ?_|refine S.inBlock ?_)|(apply S.condTV;apply rfl;(first|with_reducible rfl|decide))|(apply S.condQ;apply rfl;all_goals (intro _;try (exfalso;first|omega|with_reducible contradiction)))|(apply T.retW;apply rfl)|fail)
   ·rw [show bAt t (fr+1)=114 by omega]
    exact ⟨_,PSub.drop (PSub.drop (PSub.drop (PSub.drop (PSub.drop (PSub.drop (PSub.drop (PSub.refl _))))))),rfl,rfl⟩
   refine S.again ?_
   repeat' (first|(apply T.aidx;(iterate 3 apply rfl);decide;apply rfl;apply rfl)|(apply T.convI32;apply rfl;omega;apply rfl)|((first|apply T.mv|apply T.asn|apply T.nilCheck|apply T.fieldAddrZ);apply rfl;apply rfl)|(apply T.load;apply rfl;apply rfl;infer_instance;apply rfl;apply rfl)|((first|apply T.lss|apply T.eql);(iterate 3 apply rfl))|(apply T.addI;apply rfl;apply rfl;omega;apply rfl)|(apply T.ixA;apply rfl;apply rfl;omega;apply rfl)|(apply T.storeW;apply rfl;apply rfl;infer_instance;(first|rfl|(simp only [List.length_append,List.length_map,List.length_set,List.length_replicate,List.length_cons,List.length_nil];first|done|omega));(first|rfl|(simp only [List.length_append,List.length_map,List.length_set,List.length_replicate,List.length_cons,List.length_nil];first|done|omega));(first|rfl|(repeat' first|apply all_nV|apply all_bV|apply all_iV|rfl|apply all_app)))|(apply T.store;apply rfl;apply rfl;infer_instance;(first|decide|(simp;omega)|simp);apply rfl)|(apply T.alloc;apply rfl;intro nb)|(with_reducible first|refine Sr.nil ?_|refine S.seq ?_|refine S.block ?_|refine S.reg ?_|refine S.skip ?_|refine S.inBlock ?_)|(apply S.condTV;apply rfl;(first|with_reducible rfl|decide))|(apply S.condQ;apply rfl;all_goals (intro _;try (exfalso;first|omega|with_reducible contradiction)))|(apply T.retW;apply rfl)|fail)
   ·rw [show bAt t (fr+1)=116 by omega]
    exact ⟨_,PSub.drop (PSub.drop (PSub.drop (PSub.drop (PSub.drop (PSub.drop (PSub.drop (PSub.drop (PSub.refl _)))))))),rfl,rfl⟩
   refine S.again ?_
   repeat' (first|(apply T.mv;apply rfl;apply rfl)|(apply T.lss;(iterate 3 apply rfl))|(with_reducible first|refine Sr.nil ?_|refine S.seq ?_|refine S.reg ?_)|(apply S.exit;apply rfl)|(apply S.condFV;apply rfl;(first|with_reducible rfl|decide))|fail)
   refine Sr.front p ?_
   refine T.call rfl rfl Zx ?_
   rintro _ _ ⟨rfl,rfl⟩
   repeat' (first|(apply T.asn;apply rfl;apply rfl)|with_reducible refine Sr.nil ?_|(apply T.retW;apply rfl)|(with_reducible apply T.ofRet)|fail)
   have e9:escN (bAt t (fr+1))=none:=by
    unfold escN
    repeat' (split;· omega)
    rfl
   rw [e9]
   exact ⟨_,by ((repeat (first|dsimp only [List.set_cons_zero]|dsimp only [List.set_cons_succ]));repeat' first|exact PSub.refl _|exact PSub.nil|(with_reducible apply PSub.app)|(apply PSub.take;(repeat' first|(with_reducible exact Z0)|(with_reducible apply Z1)))|(with_reducible apply PSub.drop)|((apply PSub.take);(repeat' first|exact Z0|(apply Z1)))),fr+1,0,by omega,rfl,rfl⟩
 ·rw [Z5l h1]
  repeat' (first|((first|apply T.slen|apply T.mv|apply T.asn|apply T.nilCheck|apply T.fieldAddrZ);apply rfl;apply rfl)|(apply T.load;apply rfl;apply rfl;infer_instance;apply rfl;apply rfl)|(apply T.eql;(iterate 3 apply rfl))|(with_reducible first|refine Sr.nil ?_|refine S.seq ?_|refine S.block ?_|refine S.reg ?_)|(apply S.quiet;apply rfl;kernel_rfl)|(apply S.condQ;apply rfl;all_goals (intro _;try (exfalso;first|omega|with_reducible contradiction)))|(with_reducible apply T.ofRet)|fail)
  refine T.call rfl rfl (Zp (a:=fr+1)) ?_
  rintro _ _ ⟨rfl,rfl⟩
  repeat' (first|(apply T.asn;apply rfl;apply rfl)|with_reducible refine Sr.nil ?_|(apply T.retW;apply rfl)|(with_reducible apply T.ofRet)|fail)
  exact ⟨_,PSub.refl _,fr+1,0,by omega,rfl,rfl⟩
end
end Go.Proofs.YthomgjihagigcaaGreatDoor
/- The library's contracts, laid at this program (printed by the kit's tools lay-shelf and lay-plain, cut out by a program). -/
namespace Go.Proofs
open Go.Shelf
def Tryz.lays197_ren:Go.Shelf.Ren:=⟨fun|197=>126|260=>141|n=>n,fun|9=>9|21=>21|3=>3|4=>4|5=>5|105=>162|119=>183|0=>0|46=>100|139=>186|138=>185|n=>n,fun|3=>3|4=>4|n=>n⟩
theorem Tryz.lays197:Go.Proofs.Lays.n197 Tryz.prog Tryz.lays197_ren:={
 mixed:=by kernel_rfl
 f197:=Tryz.func126.trans (congrArg some (by kernel_rfl))
 f260:=Tryz.func141.trans (congrArg some (by kernel_rfl))
 t0:=Tryz.underlying0
 a0:=Tryz.isAgg0
 z0:=Tryz.sizeOf0
 v0:=Tryz.zeroValue0
 t3:=Tryz.underlying3
 a3:=Tryz.isAgg3
 z3:=Tryz.sizeOf3
 v3:=Tryz.zeroValue3
 t4:=Tryz.underlying4
 a4:=Tryz.isAgg4
 z4:=Tryz.sizeOf4
 v4:=Tryz.zeroValue4
 t5:=Tryz.underlying5
 a5:=Tryz.isAgg5
 z5:=Tryz.sizeOf5
 v5:=Tryz.zeroValue5
 t9:=Tryz.underlying9
 a9:=Tryz.isAgg9
 z9:=Tryz.sizeOf9
 v9:=Tryz.zeroValue9
 t21:=Tryz.underlying21
 a21:=Tryz.isAgg21
 z21:=Tryz.sizeOf21
 v21:=Tryz.zeroValue21
 t46:=Tryz.underlying100
 a46:=Tryz.isAgg100
 z46:=Tryz.sizeOf100
 v46:=Tryz.zeroValue100
 t105:=Tryz.underlying162
 a105:=Tryz.isAgg162
 z105:=Tryz.sizeOf162
 v105:=Tryz.zeroValue162
 t119:=Tryz.underlying183
 a119:=Tryz.isAgg183
 z119:=Tryz.sizeOf183
 t138:=Tryz.underlying185
 a138:=Tryz.isAgg185
 z138:=Tryz.sizeOf185
 v138:=Tryz.zeroValue185
 t139:=Tryz.underlying186
 a139:=Tryz.isAgg186
 z139:=Tryz.sizeOf186
 v139:=Tryz.zeroValue186
 g3:=by kernel_rfl
 g4:=by kernel_rfl }
open Go.RowKit Go.Lib in
theorem Tryz.utf8_DecodeRuneInString (s:ByteArray) (w:World) (hT:Lib.Utf8Tabs 3 4 w) :
  Calls Tryz.prog 126 #[.string s] w fun e w'=>e=.returned (.tuple #[.int .i32 (Lib.decodeGo s).1,.int .i64 (Lib.decodeGo s).2])∧Below w.heap.size w w':=Any.utf8_DecodeRuneInString Tryz.lays197 s w hT
end Go.Proofs
