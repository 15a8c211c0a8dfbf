/- InflateStored, where what it reads is of bulk at most 1048576: the law returns true and its arguments read as they did. Condition: the listed variable order holds what the program's text lays (the card ties it to the text). -/
import Derived.Test.YtjhpbljkpbdnnaaDoorInfLf
import Derived.Test.YtjhpbljkpbdnnaaDoorInfX1
import Derived.Test.YtjhpbljkpbdnnaaDoorLawU
import Derived.Test.YtjhpbljkpbdnnaaDoorBulk
import Derived.Test.YtjhpbljkpbdnnaaDoorCards
import Derived.Test.YtjhpbljkpbdnnaaDoorTie
import Derived.SevenTiedAt
namespace Go.Proofs.YtjhpbljkpbdnnaaDoor
open Sg Go Go.ChangeShapes Go.WideShapes Go.RowKit Infl
set_option maxRecDepth 100000
theorem storedWalk : LawWalkU Tryd.prog 6 Tryd.f6 (laidMetH Tryd.prog laid1) Rows.uptoSmall := by
  intro H enc W base args ds p hval hA hz hk hL
  have hval' : ∀ (j : Nat) t v, Tryd.f6.params[j]? = some t → args[j]? = some v → Value.okWide Tryd.prog W .any base t v := hval
  rw [Tryd.params6] at hA hval' hz
  obtain ⟨v0, r0, d0, e0, p0, q0, hr0, rfl, rfl, h0, hA⟩ := trodAll_cons hA
  obtain ⟨v1, r1, d1, e1, p1, q1, hr1, rfl, rfl, h1, hA⟩ := trodAll_cons hA
  obtain ⟨v2, r2, d2, e2, p2, q2, hr2, rfl, rfl, h2, hA⟩ := trodAll_cons hA
  obtain ⟨v3, r3, d3, e3, p3, q3, hr3, rfl, rfl, h3, hA⟩ := trodAll_cons hA
  obtain ⟨v4, r4, d4, e4, p4, q4, hr4, rfl, rfl, h4, hA⟩ := trodAll_cons hA
  obtain ⟨rfl, rfl, rfl⟩ := trodAll_nil hA
  obtain rfl : args = #[v0, v1, v2, v3, v4] := by cases args; simp_all
  obtain ⟨ad, cp, bs, rfl, hle, hcp, hR⟩ := open_bytes Tryd.underlying22 Tryd.underlying5 c5 (hval' 0 22 _ rfl rfl) h0
  obtain ⟨n, rfl, rfl, rfl, hwn⟩ := open_int Tryd.underlying3 (hval' 1 3 _ rfl rfl) h1
  obtain ⟨ad2, cp2, bs2, rfl, hle2, hcp2, hR2⟩ := open_bytes Tryd.underlying22 Tryd.underlying5 c5 (hval' 2 22 _ rfl rfl) h2
  obtain ⟨n3, rfl, rfl, rfl, hwn3⟩ := open_int Tryd.underlying3 (hval' 3 3 _ rfl rfl) h3
  obtain ⟨n4, rfl, rfl, rfl, hwn4⟩ := open_int Tryd.underlying3 (hval' 4 3 _ rfl rfl) h4
  have hk' := small_all hk
  have b0 := bulk_slice hcp
  have b2 := bulk_slice hcp2
  simp only [Rows.uptoBulkAll] at hk'
  have hg := of_laid hL
  exact stored_walk (by omega) hle
theorem stored_lifted (os : Os) (started : os.Started) (H : Type) (enc : TypeId × Value → H) (F : Stop.Interp) :
    ReturnsInHanded {} Tryd.checked os 6 .any ((Rows.OpenSpec.upto Rows.inflateStoredSpec).preRow enc Tryd.prog Tryd.f6 Rows.inflateStoredUptoRow.domain false Rows.inflateStoredUptoRow.laid) (((Rows.OpenSpec.upto Rows.inflateStoredSpec).at F).post enc Tryd.prog Tryd.f6 false true false false) := by
  obtain ⟨places, hx⟩ : ∃ places, DataW.whole enc Tryd.prog ((World.doorLaid Tryd.prog 400 os).forCall (fun _ _ => 0) ⟨#[], #[.slice none 0 0, .int .i64 0, .slice none 0 0, .int .i64 0, .int .i64 0], []⟩).memory Tryd.f6.params.toList Rows.inflateStoredSpec.vars false (#[.slice none 0 0, .int .i64 0, .slice none 0 0, .int .i64 0, .int .i64 0] : Array Value).toList 8 = some ([.nil, .lit (.int .i64 0), .nil, .lit (.int .i64 0), .lit (.int .i64 0)], [], places) := ⟨[], by kernel_rfl⟩
  exact law_lifted_upto (C := Tryd.checked) H enc F own started (by kernel_rfl) Tryd.func6
    (witness_row_at (enc := enc) (C := Tryd.checked) false (World.doorLaid Tryd.prog 400 os) #[.slice none 0 0, .int .i64 0, .slice none 0 0, .int .i64 0, .int .i64 0] rfl (by kernel_rfl) (by kernel_rfl) (by kernel_rfl)
      (OpenSpec.preRow_of_cond 8 hx (by kernel_rfl) (fun k hk => by cases hk; kernel_rfl) (by kernel_rfl) (door_met os _)))
    (by kernel_rfl) Tryd.underlying4 rfl (fun H ds h => by
      match ds, h with
      | [_, _, _, _, _], _ => rfl) laidOut (by kernel_rfl) storedWalk
theorem stored_holds : Rows.InflateStoredUptoSaid :=
  OpenClaim.holds_of_cond 6 Tryd.f6 rfl rfl rfl rfl rfl rfl rfl ⟨rfl, rfl, rfl, rfl, rfl⟩ rfl rfl rfl rfl rfl (by kernel_rfl) Tryd.func6 (by kernel_rfl)
    (of_decide_eq_true (by kernel_rfl)) (by unfold Func.isWrapper; rw [if_neg (of_decide_eq_false (by kernel_rfl))]; exact ⟨rfl, rfl⟩)
    (fun os started H enc _ F => by rw [OpenClaim.pre_eq_preRow]; exact stored_lifted os started H enc F)
theorem inflateStored_card : Rows.InflateStoredUptoCardSaid :=
  Claim7.holds_tied_plain_at .later [] [.widerDeep] true (true, "09a29e5df1fa1ecc26127dbb287ed38c2eed0de171c89193b42420fd63885dcf") true
    stored_holds (fun _ h => by cases h) (by kernel_rfl) (fun _ h => by cases h) inflateStoredUpto_row_tie rfl ⟨rfl, rfl⟩ (by kernel_rfl) rfl
    (fun f fn hf hfn => by
      obtain rfl : f = 6 := Option.some.inj ((show Tryd.prog.funcNamed "signet/signetlaw34.InflateStored" = some 6 by kernel_rfl).symm.trans hf) |>.symm
      obtain rfl : fn = Tryd.f6 := (Option.some.inj (Tryd.func6.symm.trans hfn)).symm
      exact ⟨by kernel_rfl, fun j t ht => by
        rw [Tryd.params6] at ht
        have hm : t ∈ [22, 3, 22, 3, 3] := by simpa using Array.mem_of_getElem? ht
        have hall : ([22, 3, 22, 3, 3].all fun u => !Tryd.prog.wantsStandIn u) = true := by kernel_rfl
        exact (show Tryd.prog.wantsStandIn t = false by simpa using List.all_eq_true.1 hall t hm)⟩)
    (by kernel_rfl)
#print axioms inflateStored_card
end Go.Proofs.YtjhpbljkpbdnnaaDoor
