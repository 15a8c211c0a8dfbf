/- More rules: a whole slice of records appended. -/
import Derived.Test.YtcojlgkfkifhmaaDoorMoreB
namespace Sg
open Go Go.RowKit
section
variable {c : Ctx} {dr : Bool} {ds : List Deferred} {H : List Res} {e : Env} {ops : Array Oper} {l : List Oper} {κ : List Res → Env → Prop} {ty : TypeId} {pos : String} {aft : Array Edge}
theorem T.appendAllF {α : Type} {g : α → List Value} {sz : Nat} {d : Tmp} {x y : Operand} {ad sad : Option Addr} {n cp m scp t E : Nat} [HU c.P t (.slice E)] {z : Value} {by_ : Nat} [HI c.P E z sz by_] {xs us : List α} {f : Res → List Res} (hx : ev e x = some (.slice ad n cp)) (hy : ev e y = some (.slice sad m scp))
    (hr : AtR H ad cp E sz n (xs.flatMap g) f) (hs : Rd c.F c.M H sad (us.flatMap g)) (hm : us.length = m) (hg : ∀ a, (g a).length = sz) (hone : ∀ a, (g a).all (·.oneCell') = true) (hzs : z.cells.size = sz) (hsz : Nat.blt 0 sz = true) (hroom : (n + m) * by_ ≤ 140737488355328 ∧ n + m ≤ 140737488355328) (hlt : Nat.blt d c.fn.ntmps = true)
    (hk : ∀ ad' cp', Sr (.eff dr) c ds (f (.row ad' cp' E sz (n + m) ((xs ++ us).flatMap g))) ops l κ ((d, .slice ad' (n + m) cp') :: e)) :
    Sr (.eff dr) c ds H ops (⟨some d, .call ⟨.builtin .append, #[x, y], #[t, t]⟩, ty, pos, aft, none⟩ :: l) κ e := by
  have hs0 : 0 < sz := by simpa [Nat.blt_eq] using hsz
  have hk' : ∀ ad' cp', Sr (.eff dr) c ds (f (.row ad' cp' E sz (n + m) (xs.flatMap g ++ us.flatMap g))) ops l κ ((d, .slice ad' (n + m) cp') :: e) := fun ad' cp' => by rw [← List.flatMap_append]; exact hk ad' cp'
  have hfl : (us.flatMap g).length = m * sz := by rw [flat_len hg, hm]
  have hall : (us.flatMap g).all (·.oneCell') = true := by
    rw [List.all_eq_true]
    intro v hv
    obtain ⟨a, _, ha⟩ := List.mem_flatMap.1 hv
    exact List.all_eq_true.1 (hone a) v ha
  cases sad with
  | some q => exact Sr.appendR (z := z) (by_ := by_) hx hy (by simp) hfl hall hzs hs0 hroom hlt hk'
  | none =>
    have he : Ef c H e ⟨some d, .call ⟨.builtin .append, #[x, y], #[t, t]⟩, ty, pos, aft, none⟩ (fun v H' => ∃ ad' cp', v = .slice ad' (n + m) cp' ∧ H' = f (.row ad' cp' E sz (n + m) (xs.flatMap g ++ us.flatMap g))) := fun w a hw ha => by
      have hus : us = [] := by
        cases us with
        | nil => rfl
        | cons u r =>
          cases hgu : g u with
          | nil =>
            have := hg u
            rw [hgu] at this
            simp at this
            omega
          | cons v vs =>
            obtain ⟨ad', h1, -⟩ := hs.h w hw 0 v (by simp [hgu])
            cases h1
      subst hus
      subst hm
      obtain ⟨rest, h1, h2⟩ := hr.h
      have hcap : n ≤ cp := row_cap ((hw.perm h1).res _ (List.mem_cons_self ..))
      have hrun := appendNone (P := c.P) (t := t) (E := E) (ty := ty) (z := z) (sz := sz) (by_ := by_) (ad := ad) (scp := scp) hcap w
      refine ⟨.slice ad n cp, w, _, .inl (by simp [execOp, ha.ev hx, ha.ev hy, resolve, invoke, builtin, hrun]), hw.perm ((h1.trans ?_)), ad, cp, rfl, rfl⟩
      simpa using h2 (.row ad cp E sz n (xs.flatMap g))
    exact Sr.eff he hlt rfl (fun v H' ⟨ad', cp', hv, hH⟩ => by subst hv hH; exact hk' ad' cp')
end
end Sg
