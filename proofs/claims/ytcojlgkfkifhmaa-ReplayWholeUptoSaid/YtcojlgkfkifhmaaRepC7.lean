/- ReplayWhole, where what it reads is of bulk at most 1048576: the law returns true and its arguments read as they did. -/
import Derived.Test.YtcojlgkfkifhmaaRepQ
import Derived.Test.YtcojlgkfkifhmaaRepT
import Derived.Test.YtcojlgkfkifhmaaLawU
import Derived.Test.YtcojlgkfkifhmaaBulk
import Derived.ChangeMaps5
namespace Go.Proofs.Ytcojlgkfkifhmaa
open Sg Go Go.ChangeShapes Go.WideShapes Go.RowKit
set_option maxRecDepth 100000
theorem replayWholeWalk : LawWalkU Try.prog 9 Try.f9 (laidMetH Try.prog []) Rows.uptoSmall := by
  intro H enc W base args ds p hval hA hz hk _
  have hval' : ∀ (j : Nat) t v, Try.f9.params[j]? = some t → args[j]? = some v → Value.okWide Try.prog W .any base t v := hval
  rw [Try.params9] at hA hval' hz
  obtain ⟨v0, r0, d0, e0, p0, q0, hr0, rfl, rfl, h0, hA⟩ := trodAll_cons hA
  obtain ⟨v1, r1, d1, e1, p1, q1, hr1, rfl, rfl, h1, hA⟩ := trodAll_cons hA
  obtain ⟨v2, r2, d2, e2, p2, q2, hr2, rfl, rfl, h2, hA⟩ := trodAll_cons hA
  obtain ⟨v3, r3, d3, e3, p3, q3, hr3, rfl, rfl, h3, hA⟩ := trodAll_cons hA
  obtain ⟨v4, r4, d4, e4, p4, q4, hr4, rfl, rfl, h4, hA⟩ := trodAll_cons hA
  obtain ⟨v5, r5, d5, e5, p5, q5, hr5, rfl, rfl, h5, hA⟩ := trodAll_cons hA
  obtain ⟨rfl, rfl, rfl⟩ := trodAll_nil hA
  obtain rfl : args = #[v0, v1, v2, v3, v4, v5] := by cases args; simp_all
  obtain ⟨ad0, cp0, l0, rfl, hle0, hcp0, hR0⟩ := open_bytes Try.underlying30 Try.underlying5 c5 (hval' 0 30 _ rfl rfl) h0
  have b0 := bulk_slice hcp0
  obtain ⟨ad1, cp1, l1, rfl, hle1, hcp1, hO1, hR1⟩ := open_ops (hval' 1 22 _ rfl rfl) h1
  have b1 := bulk_slice hcp1
  obtain ⟨z2, rfl, rfl, rfl, hw2⟩ := open_int Try.underlying3 (hval' 2 3 _ rfl rfl) h2
  obtain ⟨z3, rfl, rfl, rfl, hw3⟩ := open_int Try.underlying3 (hval' 3 3 _ rfl rfl) h3
  obtain ⟨z4, rfl, rfl, rfl, hw4⟩ := open_int Try.underlying5 (hval' 4 5 _ rfl rfl) h4
  have hu4 := u8_of_wf hw4
  have hue4 : z4 = ((UInt8.ofNat z4.toNat).toNat : Int) := by rw [UInt8.toNat_ofNat']; omega
  rw [hue4]
  obtain ⟨ad5, cp5, l5, rfl, hle5, hcp5, hR5⟩ := open_bytes Try.underlying30 Try.underlying5 c5 (hval' 5 30 _ rfl rfl) h5
  have b5 := bulk_slice hcp5
  have hk' := small_all hk
  simp only [Rows.uptoBulkAll] at hk'
  exact whole_walk (l := l0) (ys := l1) (bh := l5) (by omega) hle0 hO1 (by omega) (by omega)
theorem replayWhole_lifted (os : Os) (started : os.Started) (H : Type) (enc : TypeId × Value → H) (F : Stop.Interp) :
    ReturnsInHanded {} Try.checked os 9 .any ((Rows.OpenSpec.upto Rows.replayWholeSpec).preRow enc Try.prog Try.f9 Rows.replayWholeUptoRow.domain false Rows.replayWholeUptoRow.laid) (((Rows.OpenSpec.upto Rows.replayWholeSpec).at F).post enc Try.prog Try.f9 false true false false) := by
  obtain ⟨places, hx⟩ : ∃ places, DataW.whole enc Try.prog ((World.holding Try.prog os ⟨#[], #[.slice none 0 0, .slice none 0 0, .int .i64 0, .int .i64 0, .int .u8 0, .slice none 0 0], []⟩).forCall (fun _ _ => 0) ⟨#[], #[.slice none 0 0, .slice none 0 0, .int .i64 0, .int .i64 0, .int .u8 0, .slice none 0 0], []⟩).memory Try.f9.params.toList Rows.replayWholeSpec.vars false (#[.slice none 0 0, .slice none 0 0, .int .i64 0, .int .i64 0, .int .u8 0, .slice none 0 0] : Array Value).toList 8 = some ([.nil, .nil, .lit (.int .i64 0), .lit (.int .i64 0), .lit (.int .u8 0), .nil], [], places) := ⟨[], by kernel_rfl⟩
  exact law_lifted_upto (C := Try.checked) H enc F own started (by kernel_rfl) Try.func9
    (witness_row_at (enc := enc) (C := Try.checked) false (World.holding Try.prog os ⟨#[], #[.slice none 0 0, .slice none 0 0, .int .i64 0, .int .i64 0, .int .u8 0, .slice none 0 0], []⟩) #[.slice none 0 0, .slice none 0 0, .int .i64 0, .int .i64 0, .int .u8 0, .slice none 0 0] rfl (by kernel_rfl) (by kernel_rfl) (by kernel_rfl)
      (OpenSpec.preRow_of_cond 8 hx (by kernel_rfl) (fun k hk => by cases hk; kernel_rfl) (by kernel_rfl) (laidMet_nil _ _)))
    (by kernel_rfl) Try.underlying4 rfl (fun H ds h => by
      match ds, h with
      | [_, _, _, _, _, _], _ => rfl) laidOut (by kernel_rfl) replayWholeWalk
theorem replayWhole_upto : Rows.ReplayWholeUptoSaid :=
  OpenClaim.holds_of_cond 9 Try.f9 rfl rfl rfl rfl rfl rfl rfl ⟨rfl, rfl, rfl, rfl, rfl⟩ rfl rfl rfl rfl rfl (by kernel_rfl) Try.func9 (by kernel_rfl)
    (of_decide_eq_true (by kernel_rfl)) (by unfold Func.isWrapper; rw [if_neg (of_decide_eq_false (by kernel_rfl))]; exact ⟨rfl, rfl⟩)
    (fun os started H enc _ F => by rw [OpenClaim.pre_eq_preRow]; exact replayWhole_lifted os started H enc F)
#print axioms replayWhole_upto
end Go.Proofs.Ytcojlgkfkifhmaa
