/- ReplayRefuses: whatever it is given: the law returns true and its arguments read as they did. -/
import Derived.Test.YtcojlgkfkifhmaaRepL
import Derived.Test.YtcojlgkfkifhmaaRepT
import Derived.ChangeMaps5
namespace Go.Proofs.Ytcojlgkfkifhmaa
open Sg Go Go.ChangeShapes Go.WideShapes Go.RowKit
set_option maxRecDepth 100000
theorem replayRefusesWalk : LawWalk Try.prog 7 Try.f7 (fun _ => True) := by
  intro H enc W base args ds p hval hA hz _
  have hval' : ∀ (j : Nat) t v, Try.f7.params[j]? = some t → args[j]? = some v → Value.okWide Try.prog W .any base t v := hval
  rw [Try.params7] at hA hval' hz
  obtain ⟨v0, r0, d0, e0, p0, q0, hr0, rfl, rfl, h0, hA⟩ := trodAll_cons hA
  obtain ⟨v1, r1, d1, e1, p1, q1, hr1, rfl, rfl, h1, hA⟩ := trodAll_cons hA
  obtain ⟨v2, r2, d2, e2, p2, q2, hr2, rfl, rfl, h2, hA⟩ := trodAll_cons hA
  obtain ⟨v3, r3, d3, e3, p3, q3, hr3, rfl, rfl, h3, hA⟩ := trodAll_cons hA
  obtain ⟨v4, r4, d4, e4, p4, q4, hr4, rfl, rfl, h4, hA⟩ := trodAll_cons hA
  obtain ⟨rfl, rfl, rfl⟩ := trodAll_nil hA
  obtain rfl : args = #[v0, v1, v2, v3, v4] := by cases args; simp_all
  obtain ⟨ad0, cp0, l0, rfl, hle0, hcp0, hR0⟩ := open_bytes Try.underlying30 Try.underlying5 c5 (hval' 0 30 _ rfl rfl) h0
  have b0 := bytes_bound hz (j := 0) rfl rfl Try.underlying30 (by rw [by5]; omega) hle0 hcp0
  obtain ⟨ad1, cp1, l1, rfl, hle1, hcp1, hO1, hR1⟩ := open_ops (hval' 1 22 _ rfl rfl) h1
  have b1 := bytes_bound hz (j := 1) rfl rfl Try.underlying22 (by rw [by27]; omega) hle1 hcp1
  obtain ⟨s2, rfl, rfl, rfl, hs2⟩ := Go.ChangeMaps.open_string Try.underlying9 (hval' 2 9 _ rfl rfl) h2
  have hs2' : s2.data.toList.length ≤ maxLen := by rw [Array.length_toList]; exact hs2
  rw [sV_of s2]
  obtain ⟨z3, rfl, rfl, rfl, hw3⟩ := open_int Try.underlying2 (hval' 3 2 _ rfl rfl) h3
  obtain ⟨z4, rfl, rfl, rfl, hw4⟩ := open_int Try.underlying2 (hval' 4 2 _ rfl rfl) h4
  exact refuses_walk (l := l0) (ys := l1) (by omega) hle0 hO1 (by omega) hs2' hw3 hw4
theorem replayRefuses_lifted (os : Os) (started : os.Started) (H : Type) (enc : TypeId × Value → H) :
    ReturnsInHanded {} Try.checked os 7 .any (Rows.replayRefusesSpec.pre6 enc Try.prog Try.f7 [] false) (Rows.replayRefusesSpec.post enc Try.prog Try.f7 false true false false) :=
  law_plain (C := Try.checked) H enc own started (by kernel_rfl) Try.func7
    (ChangeSpec.witness6 (enc := enc) (C := Try.checked) false ⟨#[], #[.slice none 0 0, .slice none 0 0, .string ⟨#[]⟩, .int .i64 0, .int .i64 0], []⟩ 8 (by kernel_rfl) (by kernel_rfl) (by kernel_rfl) (by kernel_rfl))
    (by kernel_rfl) Try.underlying4 rfl (fun H ds h => by
      match ds, h with
      | [_, _, _, _, _], _ => rfl) laidOut (by kernel_rfl) replayRefusesWalk
theorem replayRefuses_holds : Rows.ReplayRefusesSaid :=
  OpenClaim.holds_of_wide 7 Try.f7 rfl rfl rfl rfl rfl rfl rfl ⟨rfl, rfl, rfl, rfl, rfl⟩ rfl rfl rfl rfl rfl (by kernel_rfl) Try.func7 (by kernel_rfl)
    (of_decide_eq_true (by kernel_rfl)) (by unfold Func.isWrapper; rw [if_neg (of_decide_eq_false (by kernel_rfl))]; exact ⟨rfl, rfl⟩)
    (fun os started H enc _ => replayRefuses_lifted os started H enc)
#print axioms replayRefuses_holds
end Go.Proofs.Ytcojlgkfkifhmaa
