/- InflateZlibs: whatever bytes and whatever most: the law returns true and its arguments read as they did. Condition: the listed variable order holds what the program's text lays (the card ties it to the text). -/
import Derived.Test.YtjhpbljkpbdnnaaDoorInfLc
import Derived.Test.YtjhpbljkpbdnnaaDoorInfX1
import Derived.Test.YtjhpbljkpbdnnaaDoorCards
import Derived.Test.YtjhpbljkpbdnnaaDoorTie
import Derived.SevenTiedAt
namespace Go.Proofs.YtjhpbljkpbdnnaaDoor
open Sg Go Go.ChangeShapes Go.WideShapes Go.RowKit Infl
set_option maxRecDepth 100000
theorem zlibsWalk : LawWalk Tryd.prog 8 Tryd.f8 (laidMetH Tryd.prog laid1) := by
  intro H enc W base args ds p hval hA hz hL
  have hval' : ∀ (j : Nat) t v, Tryd.f8.params[j]? = some t → args[j]? = some v → Value.okWide Tryd.prog W .any base t v := hval
  rw [Tryd.params8] at hA hval' hz
  obtain ⟨v0, v1, d0, d1, p0, p1, rfl, rfl, rfl, h0, h1⟩ := trodAll_two hA
  obtain ⟨ad, cp, bs, rfl, hle, hcp, hR⟩ := open_bytes Tryd.underlying22 Tryd.underlying5 c5 (hval' 0 22 _ rfl rfl) h0
  obtain ⟨n, rfl, rfl, rfl, hwn⟩ := open_int Tryd.underlying3 (hval' 1 3 _ rfl rfl) h1
  have hb := bytes_bound hz (j := 0) rfl rfl Tryd.underlying22 (by rw [by5]; omega) hle hcp
  have hg := of_laid hL
  exact zlibs_walk (by omega) hle
theorem zlibs_lifted (os : Os) (started : os.Started) (H : Type) (enc : TypeId × Value → H) :
    ReturnsInHanded {} Tryd.checked os 8 .any (fun w args => (Rows.inflateZlibsSpec.pre enc Tryd.prog Tryd.f8 [] false w args ∧ laidMetH Tryd.prog laid1 w) ∧ sizedMet enc Tryd.prog Tryd.f8 (OpenSpec.ofChange Rows.inflateZlibsSpec) false w args)
      (Rows.inflateZlibsSpec.post enc Tryd.prog Tryd.f8 false true false false) :=
  law_lifted (C := Tryd.checked) (X := laidMetH Tryd.prog laid1) H enc (fun _ _ hh h => h.of_heap hh) own started (by kernel_rfl) Tryd.func8
    (ChangeSpec.witness_shaped (enc := enc) (C := Tryd.checked) (os := os) (X := fun w _ => laidMetH Tryd.prog laid1 w) false (World.doorLaid Tryd.prog 400 os) #[.slice none 0 0, .int .i64 0] 8 rfl (World.shaped_of_RefB (by kernel_rfl) (by kernel_rfl)) (by kernel_rfl) (by kernel_rfl) (by kernel_rfl) (door_met os _))
    (by kernel_rfl) Tryd.underlying4 rfl (fun H ds h => by
      match ds, h with
      | [_, _], _ => rfl) laidOut (by kernel_rfl) zlibsWalk
theorem zlibs_holds : Rows.InflateZlibsSaid :=
  OpenClaim.holds_of_wide 8 Tryd.f8 rfl rfl rfl rfl rfl rfl rfl ⟨rfl, rfl, rfl, rfl, rfl⟩ rfl rfl rfl rfl rfl (by kernel_rfl) Tryd.func8 (by kernel_rfl)
    (of_decide_eq_true (by kernel_rfl)) (by unfold Func.isWrapper; rw [if_neg (of_decide_eq_false (by kernel_rfl))]; exact ⟨rfl, rfl⟩)
    (fun os started H enc _ => zlibs_lifted os started H enc)
theorem inflateZlibs_card : Rows.InflateZlibsCardSaid :=
  Claim7.holds_tied_plain_at .later [] [.widerDeep] true (true, "09a29e5df1fa1ecc26127dbb287ed38c2eed0de171c89193b42420fd63885dcf") true
    zlibs_holds (fun _ h => by cases h) (by kernel_rfl) (fun _ h => by cases h) inflateZlibs_row_tie rfl ⟨rfl, rfl⟩ (by kernel_rfl) rfl
    (fun f fn hf hfn => by
      obtain rfl : f = 8 := Option.some.inj ((show Tryd.prog.funcNamed "signet/signetlaw34.InflateZlibs" = some 8 by kernel_rfl).symm.trans hf) |>.symm
      obtain rfl : fn = Tryd.f8 := (Option.some.inj (Tryd.func8.symm.trans hfn)).symm
      exact ⟨by kernel_rfl, fun j t ht => by
        rw [Tryd.params8] at ht
        have hm : t ∈ [22, 3] := by simpa using Array.mem_of_getElem? ht
        have hall : ([22, 3].all fun u => !Tryd.prog.wantsStandIn u) = true := by kernel_rfl
        exact (show Tryd.prog.wantsStandIn t = false by simpa using List.all_eq_true.1 hall t hm)⟩)
    (by kernel_rfl)
#print axioms inflateZlibs_card
end Go.Proofs.YtjhpbljkpbdnnaaDoor
