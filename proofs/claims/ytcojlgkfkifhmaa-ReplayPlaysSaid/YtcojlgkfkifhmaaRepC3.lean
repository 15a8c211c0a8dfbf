/- ReplayPlays: whatever it is given: the law returns true and its arguments read as they did. -/
import Derived.Test.YtcojlgkfkifhmaaRepG2
import Derived.Test.YtcojlgkfkifhmaaRepT
import Derived.ChangeMaps5
namespace Go.Proofs.Ytcojlgkfkifhmaa
open Sg Go Go.ChangeShapes Go.WideShapes Go.RowKit
set_option maxRecDepth 100000
theorem replayPlaysWalk : LawWalk Try.prog 5 Try.f5 (fun _ => True) := by
  intro H enc W base args ds p hval hA hz _
  have hval' : ∀ (j : Nat) t v, Try.f5.params[j]? = some t → args[j]? = some v → Value.okWide Try.prog W .any base t v := hval
  rw [Try.params5] at hA hval' hz
  obtain ⟨v0, r0, d0, e0, p0, q0, hr0, rfl, rfl, h0, hA⟩ := trodAll_cons hA
  obtain ⟨v1, r1, d1, e1, p1, q1, hr1, rfl, rfl, h1, hA⟩ := trodAll_cons hA
  obtain ⟨rfl, rfl, rfl⟩ := trodAll_nil hA
  obtain rfl : args = #[v0, v1] := by cases args; simp_all
  obtain ⟨ad0, cp0, l0, rfl, hle0, hcp0, hR0⟩ := open_bytes Try.underlying30 Try.underlying5 c5 (hval' 0 30 _ rfl rfl) h0
  have b0 := bytes_bound hz (j := 0) rfl rfl Try.underlying30 (by rw [by5]; omega) hle0 hcp0
  obtain ⟨ad1, cp1, l1, rfl, hle1, hcp1, hO1, hR1⟩ := open_ops (hval' 1 22 _ rfl rfl) h1
  have b1 : l1.length * 40 ≤ 140737488351232 := by
    rcases hcp1 with h | ⟨el, sp, rfl, h⟩
    · omega
    · have h1 := sized_slice hz (j := 1) rfl rfl Try.underlying22
      have h3 : reachBytes = 140737488351232 := rfl
      rw [by27] at h1
      omega
  exact plays_walk (l := l0) (xs := l1) (by omega) hle0 hO1 (by omega)
theorem replayPlays_lifted (os : Os) (started : os.Started) (H : Type) (enc : TypeId × Value → H) :
    ReturnsInHanded {} Try.checked os 5 .any (Rows.replayPlaysSpec.pre6 enc Try.prog Try.f5 [] false) (Rows.replayPlaysSpec.post enc Try.prog Try.f5 false true false false) :=
  law_plain (C := Try.checked) H enc own started (by kernel_rfl) Try.func5
    (ChangeSpec.witness6 (enc := enc) (C := Try.checked) false ⟨#[], #[.slice none 0 0, .slice none 0 0], []⟩ 8 (by kernel_rfl) (by kernel_rfl) (by kernel_rfl) (by kernel_rfl))
    (by kernel_rfl) Try.underlying4 rfl (fun H ds h => by
      match ds, h with
      | [_, _], _ => rfl) laidOut (by kernel_rfl) replayPlaysWalk
theorem replayPlays_holds : Rows.ReplayPlaysSaid :=
  OpenClaim.holds_of_wide 5 Try.f5 rfl rfl rfl rfl rfl rfl rfl ⟨rfl, rfl, rfl, rfl, rfl⟩ rfl rfl rfl rfl rfl (by kernel_rfl) Try.func5 (by kernel_rfl)
    (of_decide_eq_true (by kernel_rfl)) (by unfold Func.isWrapper; rw [if_neg (of_decide_eq_false (by kernel_rfl))]; exact ⟨rfl, rfl⟩)
    (fun os started H enc _ => replayPlays_lifted os started H enc)
#print axioms replayPlays_holds
end Go.Proofs.Ytcojlgkfkifhmaa
