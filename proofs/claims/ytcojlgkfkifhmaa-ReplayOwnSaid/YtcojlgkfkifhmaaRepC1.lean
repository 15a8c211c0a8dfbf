/- ReplayOwn: whatever scripts: the law returns true and its arguments read as they did. -/
import Derived.Test.YtcojlgkfkifhmaaRepT
namespace Go.Proofs.Ytcojlgkfkifhmaa
open Sg Go Go.ChangeShapes Go.WideShapes Go.RowKit
set_option maxRecDepth 100000
theorem ownWalk : LawWalk Try.prog 3 Try.f3 (fun _ => True) := by
  intro H enc W base args ds p hval hA hz _
  have hval' : ∀ (j : Nat) t v, Try.f3.params[j]? = some t → args[j]? = some v → Value.okWide Try.prog W .any base t v := hval
  rw [Try.params3] at hA hval' hz
  obtain ⟨v0, v1, d0, d1, p0, p1, rfl, rfl, rfl, h0, h1⟩ := trodAll_two hA
  obtain ⟨ad, cp, xs, rfl, hle, hcp, hO, hR⟩ := open_ops (hval' 0 22 _ rfl rfl) h0
  obtain ⟨ad2, cp2, ys, rfl, hle2, hcp2, hO2, hR2⟩ := open_ops (hval' 1 22 _ rfl rfl) h1
  have b0 := bytes_bound hz (j := 0) rfl rfl Try.underlying22 (by rw [by27]; omega) hle hcp
  have b1 := bytes_bound hz (j := 1) rfl rfl Try.underlying22 (by rw [by27]; omega) hle2 hcp2
  exact own_walk hO hO2 (by omega) (by omega)
theorem own_lifted (os : Os) (started : os.Started) (H : Type) (enc : TypeId × Value → H) :
    ReturnsInHanded {} Try.checked os 3 .any (Rows.replayOwnSpec.pre6 enc Try.prog Try.f3 [] false) (Rows.replayOwnSpec.post enc Try.prog Try.f3 false true false false) :=
  law_plain (C := Try.checked) H enc own started (by kernel_rfl) Try.func3
    (ChangeSpec.witness6 (enc := enc) (C := Try.checked) false ⟨#[], #[.slice none 0 0, .slice none 0 0], []⟩ 8 (by kernel_rfl) (by kernel_rfl) (by kernel_rfl) (by kernel_rfl))
    (by kernel_rfl) Try.underlying4 rfl (fun H ds h => by
      match ds, h with
      | [_, _], _ => rfl) laidOut (by kernel_rfl) ownWalk
theorem replayOwn_holds : Rows.ReplayOwnSaid :=
  OpenClaim.holds_of_wide 3 Try.f3 rfl rfl rfl rfl rfl rfl rfl ⟨rfl, rfl, rfl, rfl, rfl⟩ rfl rfl rfl rfl rfl (by kernel_rfl) Try.func3 (by kernel_rfl)
    (of_decide_eq_true (by kernel_rfl)) (by unfold Func.isWrapper; rw [if_neg (of_decide_eq_false (by kernel_rfl))]; exact ⟨rfl, rfl⟩)
    (fun os started H enc _ => own_lifted os started H enc)
#print axioms replayOwn_holds
end Go.Proofs.Ytcojlgkfkifhmaa
