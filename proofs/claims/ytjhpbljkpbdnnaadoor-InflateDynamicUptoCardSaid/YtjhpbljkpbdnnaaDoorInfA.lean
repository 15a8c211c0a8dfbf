/- The walks of the statement's own helpers. -/
import Derived.Test.YtjhpbljkpbdnnaaDoorFacts
namespace Go.Proofs.YtjhpbljkpbdnnaaDoor
open Sg Go.IntWalk
set_option maxRecDepth 100000

theorem same_spec {F : World} {M : List Nat} {H : List Res} {a b : Option Addr} {m n : Nat} {xs ys : List UInt8} [hA : Rd F M H a (xs.map bV)] [hB : Rd F M H b (ys.map bV)] (hx : xs.length ≤ 1000000000000000) :
    Meets Tryd.prog 13 [.slice a xs.length m, .slice b ys.length n] F M H (fun e H' => e = .returned (.bool (decide (xs = ys))) ∧ H' = H) := by
  refine Meets.enter Tryd.func13 rfl rfl ?_
  repeat' (first | ((with_reducible apply T.mv); apply rfl; apply rfl) | ((with_reducible apply T.asn); apply rfl; apply rfl) | ((with_reducible apply T.len); apply rfl; apply rfl) | ((with_reducible apply T.neq); apply rfl; apply rfl; apply rfl) | with_reducible refine Sr.nil ?_ | with_reducible refine S.seq ?_ | with_reducible refine S.block ?_ | with_reducible refine S.reg ?_ | with_reducible refine S.skip ?_ | ((with_reducible apply T.retW); apply rfl) | ((with_reducible apply S.condQ); apply rfl; all_goals (intro _; try (exfalso; omega))) | fail)
  · refine ⟨_, .refl _, ?_, rfl⟩
    have : xs ≠ ys := fun h => by subst h; omega
    simp [this]
  · have hxy : xs.length = ys.length := by omega
    refine S.loop (fun μ H' e => ∃ i : Nat, H' = H ∧ e = [(0, .slice a xs.length m), (1, .slice b ys.length n), (5, .int .i64 i)] ∧ (i ≤ xs.length ∧ ∀ j < i, xs.getD j 0 = ys.getD j 0) ∧ μ = xs.length - i) ?_ _ _ ⟨0, rfl, rfl, by simp, rfl⟩ ⟨rfl, rfl, rfl, trivial⟩
    rintro _ _ _ ⟨i, rfl, rfl, ⟨hi, hp⟩, rfl⟩ ih
    repeat' (first | ((with_reducible apply T.mv); apply rfl; apply rfl) | ((with_reducible apply T.asn); apply rfl; apply rfl) | ((with_reducible apply T.len); apply rfl; apply rfl) | ((with_reducible apply T.lss); apply rfl; apply rfl; apply rfl) | ((with_reducible apply T.neq); apply rfl; apply rfl; apply rfl) | ((with_reducible apply T.addI); apply rfl; apply rfl; omega; apply rfl) | ((with_reducible apply T.ixN); apply rfl; apply rfl; infer_instance; omega; (first | omega | (simp; omega)); apply rfl) | ((with_reducible apply T.loadB); apply rfl; infer_instance; omega; apply rfl) | with_reducible refine Sr.nil ?_ | with_reducible refine S.seq ?_ | with_reducible refine S.block ?_ | with_reducible refine S.reg ?_ | with_reducible refine S.skip ?_ | with_reducible refine S.inBlock ?_ | ((with_reducible apply S.exit); apply rfl) | ((with_reducible apply S.quiet); apply rfl; kernel_rfl) | ((with_reducible apply T.retW); apply rfl) | ((with_reducible apply S.condQ); apply rfl; all_goals (intro _; try (exfalso; omega))) | fail)
    · refine ⟨_, .refl _, ?_, rfl⟩
      have : xs ≠ ys := fun h => by subst h; simp_all
      simp [this]
    · refine ih _ _ _ _ ⟨i + 1, rfl, rfl, ⟨by omega, fun j hj => ?_⟩, rfl⟩ (by omega) ⟨rfl, rfl, rfl, trivial⟩
      by_cases h : j = i
      · subst h
        rename_i h2
        exact UInt8.toNat_inj.1 (by omega)
      · exact hp j (by omega)
    · refine ⟨_, .refl _, ?_, rfl⟩
      have : xs = ys := List.ext_getElem hxy fun j h1 h2 => by
        have := hp j (by omega)
        simpa [List.getD, h1, h2] using this
      simp [this]
theorem same_eq {F : World} {M : List Nat} {H : List Res} {a b : Option Addr} {m n : Nat} {xs : List UInt8} (hA : Rd F M H a (xs.map bV)) (hB : Rd F M H b (xs.map bV)) (hx : xs.length ≤ 1000000000000000) :
    Meets Tryd.prog 13 [.slice a xs.length m, .slice b xs.length n] F M H (fun e H' => e = .returned (.bool true) ∧ H' = H) := by
  have := same_spec (hA := hA) (hB := hB) (m := m) (n := n) hx
  simpa using this
end Go.Proofs.YtjhpbljkpbdnnaaDoor
