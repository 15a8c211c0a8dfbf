/- SdPlain: an object in which nothing is hidden reveals itself, without its _sd_alg. Condition: the listed tables hold what the program's text lays (the card ties them to the text). -/
import Derived.Test.YtjajcmedipjfhaaGreatDoorMm
import Derived.Test.YtjajcmedipjfhaaGreatDoorCards
import Derived.Test.YtjajcmedipjfhaaGreatDoorTie
import Derived.SevenTiedAt
namespace Go.Proofs.YtjajcmedipjfhaaGreatDoor
open Sg Go Go.ChangeShapes Go.WideShapes Go.RowKit Go.Lib
set_option maxRecDepth 100000
abbrev laid1 : List (String × DataW Unit) := [("unicode/utf8.acceptRanges", Rows.laid_unicode_utf8_acceptRanges), ("signet/sha.k256", Rows.laid_signet_sha_k256), ("signet/sha.k512", Rows.laid_signet_sha_k512), ("signet/sha.start256", Rows.laid_signet_sha_start256), ("signet/sha.start384", Rows.laid_signet_sha_start384), ("signet/sha.start512", Rows.laid_signet_sha_start512), ("unicode/utf8.first", Rows.laid_unicode_utf8_first)]
theorem of_laid {W : World} (h : laidMetH Tryz.prog laid1 W) : Tabs W [] ∧ ShP W [] := by
 rw [MakeChecks.laidMetH_plain _ _ _ (by kernel_rfl)] at h
 exact ⟨tabs_of h (by simp) (by simp), shp_of h (by simp) (by simp)⟩
theorem plainsWalk : LawWalkS Tryz.prog 5 Tryz.f5 (laidMetH Tryz.prog laid1) := by
 intro H enc W base args ds p hval hA hz hL hsh
 have hval' : ∀ (j : Nat) t v, Tryz.f5.params[j]? = some t → args[j]? = some v → Value.okWide Tryz.prog W .any base t v := hval
 rw [Tryz.params5] at hA hval' hz
 obtain ⟨v0, d0, rfl, rfl, h0⟩ := trodAll_one hA
 obtain ⟨s0, rfl, rfl, rfl, hs0⟩ := Go.ChangeMaps.open_string Tryz.underlying9 (hval' 0 9 _ rfl rfl) h0
 have hb := sized_string hz (j := 0) (t := 9) rfl rfl
 have hr : reachBytes = 140737488351232 := rfl
 rw [sV_of s0]
 exact plain_walk (of_laid hL).1 (of_laid hL).2 (by have hb' : s0.data.toList.length ≤ reachBytes := hb; rw [hr] at hb'; unfold maxLen; omega)
theorem plains_lifted (os : Os) (started : os.Started) (H : Type) (enc : TypeId × Value → H) :
  ReturnsInHanded {} Tryz.checked os 5 .any (fun w args => (Rows.sdPlainSpec.pre enc Tryz.prog Tryz.f5 [] false w args ∧ laidMetH Tryz.prog laid1 w) ∧ sizedMet enc Tryz.prog Tryz.f5 (OpenSpec.ofChange Rows.sdPlainSpec) false w args)
   (Rows.sdPlainSpec.post enc Tryz.prog Tryz.f5 false true false false) :=
 law_lifted_shaped (C := Tryz.checked) (X := laidMetH Tryz.prog laid1) H enc (fun _ _ hh h => h.of_heap hh) own started (by kernel_rfl) Tryz.func5
  (ChangeSpec.witness_shaped (enc := enc) (C := Tryz.checked) (os := os) (X := fun w _ => laidMetH Tryz.prog laid1 w) false (World.laidAll Tryz.prog os laid1) #[.string ⟨#[]⟩] 8 (World.laidAll_os _ _ _)
   (World.shaped_of_ZipB (by kernel_rfl) (by kernel_rfl)) (by kernel_rfl) (by kernel_rfl) (by kernel_rfl)
   (by rw [MakeChecks.laidMetH_plain _ _ _ (by kernel_rfl)]; exact laidMet_laidAll _ (by kernel_rfl) (by kernel_rfl)))
  (by kernel_rfl) Tryz.underlying4 rfl (fun H ds h => by
   match ds, h with
   | [_], _ => rfl) laidOut (by kernel_rfl) plainsWalk
theorem plains_holds : Rows.SdPlainSaid :=
 OpenClaim.holds_of_wide 5 Tryz.f5 rfl rfl rfl rfl rfl rfl rfl ⟨rfl, rfl, rfl, rfl, rfl⟩ rfl rfl rfl rfl rfl (by kernel_rfl) Tryz.func5 (by kernel_rfl)
  (of_decide_eq_true (by kernel_rfl)) (by unfold Func.isWrapper; rw [if_neg (of_decide_eq_false (by kernel_rfl))]; exact ⟨rfl, rfl⟩)
  (fun os started H enc _ => plains_lifted os started H enc)
theorem sdPlain_card : Rows.SdPlainCardSaid :=
 Claim7.holds_tied_plain_at .later [] [.data, .data, .data, .data, .data, .data, .pinned] true (true, "54b2a3a159c0c20cd4fa73cde0e23f708d36cb738ba8b015cea260e63ce7ebae") true
  plains_holds (fun _ h => by cases h) (by kernel_rfl) (fun _ h => by cases h) sdPlain_row_tie rfl ⟨rfl, rfl⟩ (by kernel_rfl) rfl
  (fun f fn hf hfn => by
   obtain rfl : f = 5 := Option.some.inj ((show Tryz.prog.funcNamed "signet/signetlaw28.SdPlain" = some 5 by kernel_rfl).symm.trans hf) |>.symm
   obtain rfl : fn = Tryz.f5 := (Option.some.inj (Tryz.func5.symm.trans hfn)).symm
   exact ⟨by kernel_rfl, fun j t ht => by
    rw [Tryz.params5] at ht
    have hm : t ∈ [9] := by simpa using Array.mem_of_getElem? ht
    have hall : ([9].all fun u => !Tryz.prog.wantsStandIn u) = true := by kernel_rfl
    exact (show Tryz.prog.wantsStandIn t = false by simpa using List.all_eq_true.1 hall t hm)⟩)
  (by kernel_rfl)
#print axioms sdPlain_card
end Go.Proofs.YtjajcmedipjfhaaGreatDoor
