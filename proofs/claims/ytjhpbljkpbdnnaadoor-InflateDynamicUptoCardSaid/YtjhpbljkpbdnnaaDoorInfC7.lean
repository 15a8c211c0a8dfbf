/- InflateDynamic, where what it reads is of bulk at most 1048576: the law returns true and its arguments read as they did. Condition: the listed variable order holds what the program's text lays (the card ties it to the text). -/
import Derived.Test.YtjhpbljkpbdnnaaDoorInfWi
import Derived.Test.YtjhpbljkpbdnnaaDoorInfTk
import Derived.Test.YtjhpbljkpbdnnaaDoorInfX1
import Derived.Test.YtjhpbljkpbdnnaaDoorLawU
import Derived.Test.YtjhpbljkpbdnnaaDoorBulk
import Derived.Test.YtjhpbljkpbdnnaaDoorCards
import Derived.Test.YtjhpbljkpbdnnaaDoorTie
import Derived.SevenTiedAt
namespace Go.Proofs.YtjhpbljkpbdnnaaDoor
open Sg Go Go.ChangeShapes Go.WideShapes Go.RowKit Infl
set_option maxRecDepth 100000
theorem dynamicWalk : LawWalkU Tryd.prog 5 Tryd.f5 (laidMetH Tryd.prog laid1) Rows.uptoSmall := by
  intro H enc W base args ds p hval hA hz hk hL
  have hval' : ∀ (j : Nat) t v, Tryd.f5.params[j]? = some t → args[j]? = some v → Value.okWide Tryd.prog W .any base t v := hval
  rw [Tryd.params5] at hA hval' hz
  obtain ⟨v0, v1, v2, d0, d1, d2, p0, p1, p2, rfl, rfl, rfl, h0, h1, h2⟩ := trodAll_three hA
  obtain ⟨ad, cp, xs, rfl, hle, hcp, hR⟩ := open_toks (hval' 0 31 _ rfl rfl) h0
  obtain ⟨ad1, cp1, ls, rfl, hle1, hcp1, _, hR1⟩ := open_slice_ints Tryd.underlying40 Tryd.underlying3 c3 (hval' 1 40 _ rfl rfl) h1
  obtain ⟨ad2, cp2, ds, rfl, hle2, hcp2, _, hR2⟩ := open_slice_ints Tryd.underlying40 Tryd.underlying3 c3 (hval' 2 40 _ rfl rfl) h2
  have hk' := small_all hk
  have b0 := bulk_slice hcp
  have b1 := bulk_slice hcp1
  have b2 := bulk_slice hcp2
  simp only [Rows.uptoBulkAll] at hk'
  have hg := of_laid hL
  have g1 : ∀ H, Rd W [] H ad1 (ls.map iV) := hR1
  have g2 : ∀ H, Rd W [] H ad2 (ds.map iV) := hR2
  exact dynamic_walk (by omega) (by omega) (by omega)
theorem dynamic_lifted (os : Os) (started : os.Started) (H : Type) (enc : TypeId × Value → H) (F : Stop.Interp) :
    ReturnsInHanded {} Tryd.checked os 5 .any ((Rows.OpenSpec.upto Rows.inflateDynamicSpec).preRow enc Tryd.prog Tryd.f5 Rows.inflateDynamicUptoRow.domain false Rows.inflateDynamicUptoRow.laid) (((Rows.OpenSpec.upto Rows.inflateDynamicSpec).at F).post enc Tryd.prog Tryd.f5 false true false false) := by
  obtain ⟨places, hx⟩ : ∃ places, DataW.whole enc Tryd.prog ((World.doorLaid Tryd.prog 400 os).forCall (fun _ _ => 0) ⟨#[], #[.slice none 0 0, .slice none 0 0, .slice none 0 0], []⟩).memory Tryd.f5.params.toList Rows.inflateDynamicSpec.vars false (#[.slice none 0 0, .slice none 0 0, .slice none 0 0] : Array Value).toList 8 = some ([.nil, .nil, .nil], [], places) := ⟨[], by kernel_rfl⟩
  exact law_lifted_upto (C := Tryd.checked) H enc F own started (by kernel_rfl) Tryd.func5
    (witness_row_at (enc := enc) (C := Tryd.checked) false (World.doorLaid Tryd.prog 400 os) #[.slice none 0 0, .slice none 0 0, .slice none 0 0] rfl (by kernel_rfl) (by kernel_rfl) (by kernel_rfl)
      (OpenSpec.preRow_of_cond 8 hx (by kernel_rfl) (fun k hk => by cases hk; kernel_rfl) (by kernel_rfl) (door_met os _)))
    (by kernel_rfl) Tryd.underlying4 rfl (fun H ds h => by
      match ds, h with
      | [_, _, _], _ => rfl) laidOut (by kernel_rfl) dynamicWalk
theorem dynamic_holds : Rows.InflateDynamicUptoSaid :=
  OpenClaim.holds_of_cond 5 Tryd.f5 rfl rfl rfl rfl rfl rfl rfl ⟨rfl, rfl, rfl, rfl, rfl⟩ rfl rfl rfl rfl rfl (by kernel_rfl) Tryd.func5 (by kernel_rfl)
    (of_decide_eq_true (by kernel_rfl)) (by unfold Func.isWrapper; rw [if_neg (of_decide_eq_false (by kernel_rfl))]; exact ⟨rfl, rfl⟩)
    (fun os started H enc _ F => by rw [OpenClaim.pre_eq_preRow]; exact dynamic_lifted os started H enc F)
theorem inflateDynamic_card : Rows.InflateDynamicUptoCardSaid :=
  Claim7.holds_tied_plain_at .later [] [.widerDeep] true (true, "09a29e5df1fa1ecc26127dbb287ed38c2eed0de171c89193b42420fd63885dcf") true
    dynamic_holds (fun _ h => by cases h) (by kernel_rfl) (fun _ h => by cases h) inflateDynamicUpto_row_tie rfl ⟨rfl, rfl⟩ (by kernel_rfl) rfl
    (fun f fn hf hfn => by
      obtain rfl : f = 5 := Option.some.inj ((show Tryd.prog.funcNamed "signet/signetlaw34.InflateDynamic" = some 5 by kernel_rfl).symm.trans hf) |>.symm
      obtain rfl : fn = Tryd.f5 := (Option.some.inj (Tryd.func5.symm.trans hfn)).symm
      exact ⟨by kernel_rfl, fun j t ht => by
        rw [Tryd.params5] at ht
        have hm : t ∈ [31, 40, 40] := by simpa using Array.mem_of_getElem? ht
        have hall : ([31, 40, 40].all fun u => !Tryd.prog.wantsStandIn u) = true := by kernel_rfl
        exact (show Tryd.prog.wantsStandIn t = false by simpa using List.all_eq_true.1 hall t hm)⟩)
    (by kernel_rfl)
#print axioms inflateDynamic_card
end Go.Proofs.YtjhpbljkpbdnnaaDoor
