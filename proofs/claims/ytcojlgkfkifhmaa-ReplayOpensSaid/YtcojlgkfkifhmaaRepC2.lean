/- ReplayOpens: whatever it is given: the law returns true and its arguments read as they did. -/
import Derived.Test.YtcojlgkfkifhmaaRepB2
import Derived.Test.YtcojlgkfkifhmaaRepT
import Derived.ChangeMaps5
namespace Go.Proofs.Ytcojlgkfkifhmaa
open Sg Go Go.ChangeShapes Go.WideShapes Go.RowKit
set_option maxRecDepth 100000
theorem replayOpensWalk : LawWalk Try.prog 4 Try.f4 (fun _ => True) := by
  intro H enc W base args ds p hval hA hz _
  have hval' : ∀ (j : Nat) t v, Try.f4.params[j]? = some t → args[j]? = some v → Value.okWide Try.prog W .any base t v := hval
  rw [Try.params4] at hA hval' hz
  obtain ⟨v0, r0, d0, e0, p0, q0, hr0, rfl, rfl, h0, hA⟩ := trodAll_cons hA
  obtain ⟨rfl, rfl, rfl⟩ := trodAll_nil hA
  obtain rfl : args = #[v0] := by cases args; simp_all
  obtain ⟨ad0, cp0, l0, rfl, hle0, hcp0, hR0⟩ := open_bytes Try.underlying30 Try.underlying5 c5 (hval' 0 30 _ rfl rfl) h0
  have b0 := bytes_bound hz (j := 0) rfl rfl Try.underlying30 (by rw [by5]; omega) hle0 hcp0
  exact opens_walk (bs := l0) (by omega) hle0
theorem replayOpens_lifted (os : Os) (started : os.Started) (H : Type) (enc : TypeId × Value → H) :
    ReturnsInHanded {} Try.checked os 4 .any (Rows.replayOpensSpec.pre6 enc Try.prog Try.f4 [] false) (Rows.replayOpensSpec.post enc Try.prog Try.f4 false true false false) :=
  law_plain (C := Try.checked) H enc own started (by kernel_rfl) Try.func4
    (ChangeSpec.witness6 (enc := enc) (C := Try.checked) false ⟨#[], #[.slice none 0 0], []⟩ 8 (by kernel_rfl) (by kernel_rfl) (by kernel_rfl) (by kernel_rfl))
    (by kernel_rfl) Try.underlying4 rfl (fun H ds h => by
      match ds, h with
      | [_], _ => rfl) laidOut (by kernel_rfl) replayOpensWalk
theorem replayOpens_holds : Rows.ReplayOpensSaid :=
  OpenClaim.holds_of_wide 4 Try.f4 rfl rfl rfl rfl rfl rfl rfl ⟨rfl, rfl, rfl, rfl, rfl⟩ rfl rfl rfl rfl rfl (by kernel_rfl) Try.func4 (by kernel_rfl)
    (of_decide_eq_true (by kernel_rfl)) (by unfold Func.isWrapper; rw [if_neg (of_decide_eq_false (by kernel_rfl))]; exact ⟨rfl, rfl⟩)
    (fun os started H enc _ => replayOpens_lifted os started H enc)
#print axioms replayOpens_holds
end Go.Proofs.Ytcojlgkfkifhmaa
