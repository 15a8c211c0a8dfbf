/- ReplayBack: whatever it is given: the law returns true and its arguments read as they did. -/
import Derived.Test.YtcojlgkfkifhmaaRepM
import Derived.Test.YtcojlgkfkifhmaaRepT
import Derived.ChangeMaps5
namespace Go.Proofs.Ytcojlgkfkifhmaa
open Sg Go Go.ChangeShapes Go.WideShapes Go.RowKit
set_option maxRecDepth 100000
theorem replayBackWalk : LawWalk Try.prog 8 Try.f8 (fun _ => True) := by
  intro H enc W base args ds p hval hA hz _
  have hval' : ∀ (j : Nat) t v, Try.f8.params[j]? = some t → args[j]? = some v → Value.okWide Try.prog W .any base t v := hval
  rw [Try.params8] at hA hval' hz
  obtain ⟨v0, r0, d0, e0, p0, q0, hr0, rfl, rfl, h0, hA⟩ := trodAll_cons hA
  obtain ⟨v1, r1, d1, e1, p1, q1, hr1, rfl, rfl, h1, hA⟩ := trodAll_cons hA
  obtain ⟨v2, r2, d2, e2, p2, q2, hr2, rfl, rfl, h2, hA⟩ := trodAll_cons hA
  obtain ⟨rfl, rfl, rfl⟩ := trodAll_nil hA
  obtain rfl : args = #[v0, v1, v2] := by cases args; simp_all
  obtain ⟨ad0, cp0, l0, rfl, hle0, hcp0, hR0⟩ := open_bytes Try.underlying30 Try.underlying5 c5 (hval' 0 30 _ rfl rfl) h0
  have b0 := bytes_bound hz (j := 0) rfl rfl Try.underlying30 (by rw [by5]; omega) hle0 hcp0
  obtain ⟨ad1, cp1, l1, rfl, hle1, hcp1, hO1, hR1⟩ := open_ops (hval' 1 22 _ rfl rfl) h1
  have b1 := bytes_bound hz (j := 1) rfl rfl Try.underlying22 (by rw [by27]; omega) hle1 hcp1
  obtain ⟨ad2, cp2, l2, rfl, hle2, hcp2, hO2, hR2⟩ := open_ops (hval' 2 22 _ rfl rfl) h2
  have b2 := bytes_bound hz (j := 2) rfl rfl Try.underlying22 (by rw [by27]; omega) hle2 hcp2
  exact back_walk (l := l0) (ys := l1) (zs := l2) (by omega) hle0 hO1 (by omega) hO2 (by omega)
theorem replayBack_lifted (os : Os) (started : os.Started) (H : Type) (enc : TypeId × Value → H) :
    ReturnsInHanded {} Try.checked os 8 .any (Rows.replayBackSpec.pre6 enc Try.prog Try.f8 [] false) (Rows.replayBackSpec.post enc Try.prog Try.f8 false true false false) :=
  law_plain (C := Try.checked) H enc own started (by kernel_rfl) Try.func8
    (ChangeSpec.witness6 (enc := enc) (C := Try.checked) false ⟨#[], #[.slice none 0 0, .slice none 0 0, .slice none 0 0], []⟩ 8 (by kernel_rfl) (by kernel_rfl) (by kernel_rfl) (by kernel_rfl))
    (by kernel_rfl) Try.underlying4 rfl (fun H ds h => by
      match ds, h with
      | [_, _, _], _ => rfl) laidOut (by kernel_rfl) replayBackWalk
theorem replayBack_holds : Rows.ReplayBackSaid :=
  OpenClaim.holds_of_wide 8 Try.f8 rfl rfl rfl rfl rfl rfl rfl ⟨rfl, rfl, rfl, rfl, rfl⟩ rfl rfl rfl rfl rfl (by kernel_rfl) Try.func8 (by kernel_rfl)
    (of_decide_eq_true (by kernel_rfl)) (by unfold Func.isWrapper; rw [if_neg (of_decide_eq_false (by kernel_rfl))]; exact ⟨rfl, rfl⟩)
    (fun os started H enc _ => replayBack_lifted os started H enc)
#print axioms replayBack_holds
end Go.Proofs.Ytcojlgkfkifhmaa
