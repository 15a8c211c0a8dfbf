/- SdSplits: of every text Split's answer is the document's, and what it says. Condition: the listed tables hold what the program's text lays (the card ties them to the text). -/
import Derived.Test.YtcojlgkfkifhmaaDoorSdD
import Derived.Test.YtcojlgkfkifhmaaDoorLawS
import Derived.Test.YtcojlgkfkifhmaaDoorCards
import Derived.Test.YtcojlgkfkifhmaaDoorTie
import Derived.SevenTiedAt
import Derived.Lay
import Derived.ChangeMaps5
namespace Go.Proofs.YtcojlgkfkifhmaaDoor
open Sg Go Go.ChangeShapes Go.WideShapes Go.RowKit
set_option maxRecDepth 100000
theorem own : ownKnob Tryd.prog.godebug = none := by kernel_rfl
theorem laidOut : laidOutB Tryd.prog = true := by kernel_rfl
abbrev laid1 : List (String × DataW Unit) := [("unicode/utf8.acceptRanges", Rows.laid_unicode_utf8_acceptRanges), ("signet/sha.k256", Rows.laid_signet_sha_k256), ("signet/sha.k512", Rows.laid_signet_sha_k512), ("signet/sha.start256", Rows.laid_signet_sha_start256), ("signet/sha.start384", Rows.laid_signet_sha_start384), ("signet/sha.start512", Rows.laid_signet_sha_start512), ("signet/signetref4.k256", Rows.laid_signet_signetref4_k256), ("signet/signetref4.k512", Rows.laid_signet_signetref4_k512), ("signet/signetref4.start256", Rows.laid_signet_signetref4_start256), ("signet/signetref4.start384", Rows.laid_signet_signetref4_start384), ("signet/signetref4.start512", Rows.laid_signet_signetref4_start512), ("unicode/utf8.first", Rows.laid_unicode_utf8_first)]
theorem n_k : Tryd.prog.globalNamed "signet/sha.k256" = some 9 := by kernel_rfl
theorem n_g : Tryd.prog.globalNamed "signet/sha.start256" = some 2 := by kernel_rfl
theorem n_rk : Tryd.prog.globalNamed "signet/signetref4.k256" = some 6 := by kernel_rfl
theorem n_rg : Tryd.prog.globalNamed "signet/signetref4.start256" = some 5 := by kernel_rfl
theorem c52 : Tryd.prog.cellsOf 52 = 1 := by kernel_rfl
theorem t_k : (Tryd.prog.globals[9]?).map (·.type) = some 61 := by kernel_rfl
theorem t_g : (Tryd.prog.globals[2]?).map (·.type) = some 53 := by kernel_rfl
theorem t_rk : (Tryd.prog.globals[6]?).map (·.type) = some 61 := by kernel_rfl
theorem t_rg : (Tryd.prog.globals[5]?).map (·.type) = some 53 := by kernel_rfl
theorem of_laid {W : World} (h : laidMetH Tryd.prog laid1 W) : Tabs W [] := by
  rw [MakeChecks.laidMetH_plain _ _ _ (by kernel_rfl)] at h
  exact ⟨fun H => laid_rd h (nm := "signet/sha.k256") (d := Rows.laid_signet_sha_k256) (by simp) n_k t_k Tryd.underlying61 Tryd.underlying52 c52 (by kernel_rfl) H,
    fun H => laid_rd h (nm := "signet/sha.start256") (d := Rows.laid_signet_sha_start256) (by simp) n_g t_g Tryd.underlying53 Tryd.underlying52 c52 (by kernel_rfl) H,
    fun H => laid_rd h (nm := "signet/signetref4.k256") (d := Rows.laid_signet_signetref4_k256) (by simp) n_rk t_rk Tryd.underlying61 Tryd.underlying52 c52 (by kernel_rfl) H,
    fun H => laid_rd h (nm := "signet/signetref4.start256") (d := Rows.laid_signet_signetref4_start256) (by simp) n_rg t_rg Tryd.underlying53 Tryd.underlying52 c52 (by kernel_rfl) H⟩
theorem maxL_of {W : World} (h : W.ShapedOpen Tryd.prog) : MaxL W [] := by
  obtain ⟨m, hm⟩ := cell_of_shapedOpen_int (P := Tryd.prog) (g := 8) (t := 3) (zero := #[.int .i64 0]) h (of_decide_eq_true (by kernel_rfl)) (by kernel_rfl) rfl (by kernel_rfl) (by kernel_rfl) Tryd.underlying3
  refine ⟨m, fun H => .ofF fun j u hu => ⟨_, rfl, ?_⟩⟩
  cases j with
  | zero =>
    simp only [List.getElem?_cons_zero, Option.some.injEq] at hu
    subst hu
    rw [addr_add]
    exact hm
  | succ j => simp at hu
theorem splitsWalk : LawWalkS Tryd.prog 3 Tryd.f3 (laidMetH Tryd.prog laid1) := by
  intro H enc W base args ds p hval hA hz hL hsh
  have hval' : ∀ (j : Nat) t v, Tryd.f3.params[j]? = some t → args[j]? = some v → Value.okWide Tryd.prog W .any base t v := hval
  rw [Tryd.params3] at hA hval' hz
  obtain ⟨v0, d0, rfl, rfl, h0⟩ := trodAll_one hA
  obtain ⟨s0, rfl, rfl, rfl, hs0⟩ := Go.ChangeMaps.open_string Tryd.underlying9 (hval' 0 9 _ rfl rfl) h0
  have hb := sized_string hz (j := 0) (t := 9) rfl rfl
  have hr : reachBytes = 140737488351232 := rfl
  rw [sV_of s0]
  exact splits_walk (of_laid hL) (maxL_of hsh) (by rw [← hr]; exact hb)
theorem splits_lifted (os : Os) (started : os.Started) (H : Type) (enc : TypeId × Value → H) :
    ReturnsInHanded {} Tryd.checked os 3 .any (fun w args => (Rows.sdSplitsSpec.pre enc Tryd.prog Tryd.f3 [] false w args ∧ laidMetH Tryd.prog laid1 w) ∧ sizedMet enc Tryd.prog Tryd.f3 (OpenSpec.ofChange Rows.sdSplitsSpec) false w args)
      (Rows.sdSplitsSpec.post enc Tryd.prog Tryd.f3 false true false false) :=
  law_lifted_shaped (C := Tryd.checked) (X := laidMetH Tryd.prog laid1) H enc (fun _ _ hh h => h.of_heap hh) own started (by kernel_rfl) Tryd.func3
    (ChangeSpec.witness_shaped (enc := enc) (C := Tryd.checked) (os := os) (X := fun w _ => laidMetH Tryd.prog laid1 w) false (World.laidAll Tryd.prog os laid1) #[.string ⟨#[]⟩] 8 (World.laidAll_os _ _ _)
      (World.shaped_of_ZipB (by kernel_rfl) (by kernel_rfl)) (by kernel_rfl) (by kernel_rfl) (by kernel_rfl)
      (by rw [MakeChecks.laidMetH_plain _ _ _ (by kernel_rfl)]; exact laidMet_laidAll _ (by kernel_rfl) (by kernel_rfl)))
    (by kernel_rfl) Tryd.underlying4 rfl (fun H ds h => by
      match ds, h with
      | [_], _ => rfl) laidOut (by kernel_rfl) splitsWalk
theorem splits_holds : Rows.SdSplitsSaid :=
  OpenClaim.holds_of_wide 3 Tryd.f3 rfl rfl rfl rfl rfl rfl rfl ⟨rfl, rfl, rfl, rfl, rfl⟩ rfl rfl rfl rfl rfl (by kernel_rfl) Tryd.func3 (by kernel_rfl)
    (of_decide_eq_true (by kernel_rfl)) (by unfold Func.isWrapper; rw [if_neg (of_decide_eq_false (by kernel_rfl))]; exact ⟨rfl, rfl⟩)
    (fun os started H enc _ => splits_lifted os started H enc)
theorem sdSplits_card : Rows.SdSplitsCardSaid :=
  Claim7.holds_tied_plain_at .later [] [.data, .data, .data, .data, .data, .data, .data, .data, .data, .data, .data, .pinned] true (true, "3f1d387e813d135c4c47189e16250a490c0ab7ff9a9ffc9e331710b0974e4ab1") false
    splits_holds (fun _ h => by cases h) (by kernel_rfl) (fun _ h => by cases h) sdSplits_row_tie rfl ⟨rfl, rfl⟩ (by kernel_rfl) rfl
    (fun f fn hf hfn => by
      obtain rfl : f = 3 := Option.some.inj ((show Tryd.prog.funcNamed "signet/signetlaw28.SdSplits" = some 3 by kernel_rfl).symm.trans hf) |>.symm
      obtain rfl : fn = Tryd.f3 := (Option.some.inj (Tryd.func3.symm.trans hfn)).symm
      exact ⟨by kernel_rfl, fun j t ht => by
        rw [Tryd.params3] at ht
        have hm : t ∈ [9] := by simpa using Array.mem_of_getElem? ht
        have hall : ([9].all fun u => !Tryd.prog.wantsStandIn u) = true := by kernel_rfl
        exact (show Tryd.prog.wantsStandIn t = false by simpa using List.all_eq_true.1 hall t hm)⟩)
    (by kernel_rfl)
#print axioms sdSplits_card
end Go.Proofs.YtcojlgkfkifhmaaDoor
