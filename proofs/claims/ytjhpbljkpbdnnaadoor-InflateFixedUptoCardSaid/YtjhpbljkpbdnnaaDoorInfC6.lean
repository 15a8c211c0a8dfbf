/- InflateFixed, where what it reads is of bulk at most 1048576: the law returns true and its arguments read as they did. Condition: the listed variable order holds what the program's text lays (the card ties it to the text). -/
import Derived.Test.YtjhpbljkpbdnnaaDoorInfWh
import Derived.Test.YtjhpbljkpbdnnaaDoorInfTk
import Derived.Test.YtjhpbljkpbdnnaaDoorInfX1
import Derived.Test.YtjhpbljkpbdnnaaDoorLawU
import Derived.Test.YtjhpbljkpbdnnaaDoorBulk
import Derived.Test.YtjhpbljkpbdnnaaDoorCards
import Derived.Test.YtjhpbljkpbdnnaaDoorTie
import Derived.SevenTiedAt
namespace Go.Proofs.YtjhpbljkpbdnnaaDoor
open Sg Go Go.ChangeShapes Go.WideShapes Go.RowKit Infl
set_option maxRecDepth 100000
theorem fixedWalk : LawWalkU Tryd.prog 4 Tryd.f4 (laidMetH Tryd.prog laid1) Rows.uptoSmall := by
  intro H enc W base args ds p hval hA hz hk hL
  have hval' : ∀ (j : Nat) t v, Tryd.f4.params[j]? = some t → args[j]? = some v → Value.okWide Tryd.prog W .any base t v := hval
  rw [Tryd.params4] at hA hval' hz
  obtain ⟨v0, v1, d0, d1, p0, p1, rfl, rfl, rfl, h0, h1⟩ := trodAll_two hA
  obtain ⟨ad, cp, xs, rfl, hle, hcp, hR⟩ := open_toks (hval' 0 31 _ rfl rfl) h0
  obtain ⟨ad2, cp2, ys, rfl, hle2, hcp2, hR2⟩ := open_toks (hval' 1 31 _ rfl rfl) h1
  have hk' := small_all hk
  have b0 := bulk_slice hcp
  have b1 := bulk_slice hcp2
  simp only [Rows.uptoBulkAll] at hk'
  have hg := of_laid hL
  exact fixed_walk (by omega)
theorem fixed_lifted (os : Os) (started : os.Started) (H : Type) (enc : TypeId × Value → H) (F : Stop.Interp) :
    ReturnsInHanded {} Tryd.checked os 4 .any ((Rows.OpenSpec.upto Rows.inflateFixedSpec).preRow enc Tryd.prog Tryd.f4 Rows.inflateFixedUptoRow.domain false Rows.inflateFixedUptoRow.laid) (((Rows.OpenSpec.upto Rows.inflateFixedSpec).at F).post enc Tryd.prog Tryd.f4 false true false false) := by
  obtain ⟨places, hx⟩ : ∃ places, DataW.whole enc Tryd.prog ((World.doorLaid Tryd.prog 400 os).forCall (fun _ _ => 0) ⟨#[], #[.slice none 0 0, .slice none 0 0], []⟩).memory Tryd.f4.params.toList Rows.inflateFixedSpec.vars false (#[.slice none 0 0, .slice none 0 0] : Array Value).toList 8 = some ([.nil, .nil], [], places) := ⟨[], by kernel_rfl⟩
  exact law_lifted_upto (C := Tryd.checked) H enc F own started (by kernel_rfl) Tryd.func4
    (witness_row_at (enc := enc) (C := Tryd.checked) false (World.doorLaid Tryd.prog 400 os) #[.slice none 0 0, .slice none 0 0] rfl (by kernel_rfl) (by kernel_rfl) (by kernel_rfl)
      (OpenSpec.preRow_of_cond 8 hx (by kernel_rfl) (fun k hk => by cases hk; kernel_rfl) (by kernel_rfl) (door_met os _)))
    (by kernel_rfl) Tryd.underlying4 rfl (fun H ds h => by
      match ds, h with
      | [_, _], _ => rfl) laidOut (by kernel_rfl) fixedWalk
theorem fixed_holds : Rows.InflateFixedUptoSaid :=
  OpenClaim.holds_of_cond 4 Tryd.f4 rfl rfl rfl rfl rfl rfl rfl ⟨rfl, rfl, rfl, rfl, rfl⟩ rfl rfl rfl rfl rfl (by kernel_rfl) Tryd.func4 (by kernel_rfl)
    (of_decide_eq_true (by kernel_rfl)) (by unfold Func.isWrapper; rw [if_neg (of_decide_eq_false (by kernel_rfl))]; exact ⟨rfl, rfl⟩)
    (fun os started H enc _ F => by rw [OpenClaim.pre_eq_preRow]; exact fixed_lifted os started H enc F)
theorem inflateFixed_card : Rows.InflateFixedUptoCardSaid :=
  Claim7.holds_tied_plain_at .later [] [.widerDeep] true (true, "09a29e5df1fa1ecc26127dbb287ed38c2eed0de171c89193b42420fd63885dcf") true
    fixed_holds (fun _ h => by cases h) (by kernel_rfl) (fun _ h => by cases h) inflateFixedUpto_row_tie rfl ⟨rfl, rfl⟩ (by kernel_rfl) rfl
    (fun f fn hf hfn => by
      obtain rfl : f = 4 := Option.some.inj ((show Tryd.prog.funcNamed "signet/signetlaw34.InflateFixed" = some 4 by kernel_rfl).symm.trans hf) |>.symm
      obtain rfl : fn = Tryd.f4 := (Option.some.inj (Tryd.func4.symm.trans hfn)).symm
      exact ⟨by kernel_rfl, fun j t ht => by
        rw [Tryd.params4] at ht
        have hm : t ∈ [31, 31] := by simpa using Array.mem_of_getElem? ht
        have hall : ([31, 31].all fun u => !Tryd.prog.wantsStandIn u) = true := by kernel_rfl
        exact (show Tryd.prog.wantsStandIn t = false by simpa using List.all_eq_true.1 hall t hm)⟩)
    (by kernel_rfl)
#print axioms inflateFixed_card
end Go.Proofs.YtjhpbljkpbdnnaaDoor
