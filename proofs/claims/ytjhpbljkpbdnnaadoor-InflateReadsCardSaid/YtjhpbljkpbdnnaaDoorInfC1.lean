/- InflateReads: whatever bytes and whatever most: the law returns true and its arguments read as they did. Condition: the listed variable order holds what the program's text lays (the card ties it to the text). -/
import Derived.Test.YtjhpbljkpbdnnaaDoorInfLb
import Derived.Test.YtjhpbljkpbdnnaaDoorInfX1
import Derived.Test.YtjhpbljkpbdnnaaDoorCards
import Derived.Test.YtjhpbljkpbdnnaaDoorTie
import Derived.SevenTiedAt
namespace Go.Proofs.YtjhpbljkpbdnnaaDoor
open Sg Go Go.ChangeShapes Go.WideShapes Go.RowKit Infl
set_option maxRecDepth 100000
theorem readsWalk : LawWalk Tryd.prog 3 Tryd.f3 (laidMetH Tryd.prog laid1) := by
  intro H enc W base args ds p hval hA hz hL
  have hval' : ∀ (j : Nat) t v, Tryd.f3.params[j]? = some t → args[j]? = some v → Value.okWide Tryd.prog W .any base t v := hval
  rw [Tryd.params3] at hA hval' hz
  obtain ⟨v0, v1, d0, d1, p0, p1, rfl, rfl, rfl, h0, h1⟩ := trodAll_two hA
  obtain ⟨ad, cp, bs, rfl, hle, hcp, hR⟩ := open_bytes Tryd.underlying22 Tryd.underlying5 c5 (hval' 0 22 _ rfl rfl) h0
  obtain ⟨n, rfl, rfl, rfl, hwn⟩ := open_int Tryd.underlying3 (hval' 1 3 _ rfl rfl) h1
  have hb := bytes_bound hz (j := 0) rfl rfl Tryd.underlying22 (by rw [by5]; omega) hle hcp
  have hg := of_laid hL
  exact reads_walk (by omega)
theorem reads_lifted (os : Os) (started : os.Started) (H : Type) (enc : TypeId × Value → H) :
    ReturnsInHanded {} Tryd.checked os 3 .any (fun w args => (Rows.inflateReadsSpec.pre enc Tryd.prog Tryd.f3 [] false w args ∧ laidMetH Tryd.prog laid1 w) ∧ sizedMet enc Tryd.prog Tryd.f3 (OpenSpec.ofChange Rows.inflateReadsSpec) false w args)
      (Rows.inflateReadsSpec.post enc Tryd.prog Tryd.f3 false true false false) :=
  law_lifted (C := Tryd.checked) (X := laidMetH Tryd.prog laid1) H enc (fun _ _ hh h => h.of_heap hh) own started (by kernel_rfl) Tryd.func3
    (ChangeSpec.witness_shaped (enc := enc) (C := Tryd.checked) (os := os) (X := fun w _ => laidMetH Tryd.prog laid1 w) false (World.doorLaid Tryd.prog 400 os) #[.slice none 0 0, .int .i64 0] 8 rfl (World.shaped_of_RefB (by kernel_rfl) (by kernel_rfl)) (by kernel_rfl) (by kernel_rfl) (by kernel_rfl) (door_met os _))
    (by kernel_rfl) Tryd.underlying4 rfl (fun H ds h => by
      match ds, h with
      | [_, _], _ => rfl) laidOut (by kernel_rfl) readsWalk
theorem reads_holds : Rows.InflateReadsSaid :=
  OpenClaim.holds_of_wide 3 Tryd.f3 rfl rfl rfl rfl rfl rfl rfl ⟨rfl, rfl, rfl, rfl, rfl⟩ rfl rfl rfl rfl rfl (by kernel_rfl) Tryd.func3 (by kernel_rfl)
    (of_decide_eq_true (by kernel_rfl)) (by unfold Func.isWrapper; rw [if_neg (of_decide_eq_false (by kernel_rfl))]; exact ⟨rfl, rfl⟩)
    (fun os started H enc _ => reads_lifted os started H enc)
theorem inflateReads_card : Rows.InflateReadsCardSaid :=
  Claim7.holds_tied_plain_at .later [] [.widerDeep] true (true, "09a29e5df1fa1ecc26127dbb287ed38c2eed0de171c89193b42420fd63885dcf") true
    reads_holds (fun _ h => by cases h) (by kernel_rfl) (fun _ h => by cases h) inflateReads_row_tie rfl ⟨rfl, rfl⟩ (by kernel_rfl) rfl
    (fun f fn hf hfn => by
      obtain rfl : f = 3 := Option.some.inj ((show Tryd.prog.funcNamed "signet/signetlaw34.InflateReads" = some 3 by kernel_rfl).symm.trans hf) |>.symm
      obtain rfl : fn = Tryd.f3 := (Option.some.inj (Tryd.func3.symm.trans hfn)).symm
      exact ⟨by kernel_rfl, fun j t ht => by
        rw [Tryd.params3] at ht
        have hm : t ∈ [22, 3] := by simpa using Array.mem_of_getElem? ht
        have hall : ([22, 3].all fun u => !Tryd.prog.wantsStandIn u) = true := by kernel_rfl
        exact (show Tryd.prog.wantsStandIn t = false by simpa using List.all_eq_true.1 hall t hm)⟩)
    (by kernel_rfl)
#print axioms inflateReads_card
end Go.Proofs.YtjhpbljkpbdnnaaDoor
