/- SdAsked, where what it reads is of bulk at most 1048576: if a payload is revealed, each disclosure's digest stands as a string in it or in another disclosure, nothing of the format is left, and with one disclosure fewer less is revealed. Condition: the listed tables hold what the program's text lays (the card ties them to the text). -/
import Derived.Test.YtjajcmedipjfhaaGreatDoorMl
import Derived.Test.YtjajcmedipjfhaaGreatDoorMm
import Derived.Test.YtjajcmedipjfhaaGreatDoorCards
import Derived.Test.YtjajcmedipjfhaaGreatDoorTie
import Derived.SevenTiedAt
namespace Go.Proofs.YtjajcmedipjfhaaGreatDoor
open Sg Go Go.ChangeShapes Go.WideShapes Go.RowKit Go.Lib
set_option maxRecDepth 100000
abbrev laid1 : List (String × DataW Unit) := [("unicode/utf8.acceptRanges", Rows.laid_unicode_utf8_acceptRanges), ("signet/sha.k256", Rows.laid_signet_sha_k256), ("signet/sha.k512", Rows.laid_signet_sha_k512), ("signet/sha.start256", Rows.laid_signet_sha_start256), ("signet/sha.start384", Rows.laid_signet_sha_start384), ("signet/sha.start512", Rows.laid_signet_sha_start512), ("unicode/utf8.first", Rows.laid_unicode_utf8_first)]
theorem of_laid {W : World} (h : laidMetH Tryz.prog laid1 W) : Tabs W [] ∧ ShP W [] := by
 rw [MakeChecks.laidMetH_plain _ _ _ (by kernel_rfl)] at h
 exact ⟨tabs_of h (by simp) (by simp), shp_of h (by simp) (by simp)⟩
theorem open_cap {H : Type} {enc : TypeId × Value → H} {W : World} {t e : TypeId} {ad : Option Addr} {n cp : Nat} {d : DataW H} {ps : List MemPlace} (ht : Tryz.prog.underlying t = some (.slice e)) (hd : DataW.Trod enc Tryz.prog W 0 (fun _ => true) true t (.slice ad n cp) d ps) : n ≤ cp := by
 obtain ⟨fuel, hf⟩ := hd
 rcases DataW.trod_slice ht hf with ⟨hcs, hx⟩ | ⟨a, len', cap', elems, rest, n', _, hcs, hx, _, hl, _, hlen, hele, hsp, _⟩
 ·simp only [Value.cells, List.cons.injEq, Value.slice.injEq, and_true] at hcs
  omega
 ·simp only [Value.cells, List.cons.injEq, Value.slice.injEq, and_true] at hcs
  omega
theorem askedWalk : LawWalkT Tryz.prog 4 Tryz.f4 (laidMetH Tryz.prog laid1) Rows.uptoSmall := by
 intro H enc W base args ds p hval hA hz hk hL hsh
 have hval' : ∀ (j : Nat) t v, Tryz.f4.params[j]? = some t → args[j]? = some v → Value.okWide Tryz.prog W .any base t v := hval
 rw [Tryz.params4] at hA hval' hz
 obtain ⟨v0, v1, d0, d1, p0, p1, rfl, rfl, rfl, h0, h1⟩ := trodAll_two hA
 obtain ⟨va, vc, v, ta, tc, ts, rfl, rfl, hRv, hRt, b1, b2, b3, b4⟩ := open_two (hval' 0 22 _ rfl rfl) (hval' 1 23 _ rfl rfl) h0 h1 (small_all hk)
 exact asked_walk (of_laid hL).1 (of_laid hL).2 hRv hRt (open_cap Tryz.underlying23 h1) b1 b2 b3 b4
theorem asked_lifted (os : Os) (started : os.Started) (H : Type) (enc : TypeId × Value → H) (F : Stop.Interp) :
  ReturnsInHanded {} Tryz.checked os 4 .any ((Rows.OpenSpec.upto Rows.sdAskedSpec).preRow enc Tryz.prog Tryz.f4 Rows.sdAskedUptoRow.domain false Rows.sdAskedUptoRow.laid) (((Rows.OpenSpec.upto Rows.sdAskedSpec).at F).post enc Tryz.prog Tryz.f4 false true false false) := by
 obtain ⟨places, hx⟩ : ∃ places, DataW.whole enc Tryz.prog ((World.laidAll Tryz.prog os laid1).forCall (fun _ _ => 0) ⟨#[], #[.slice none 0 0, .slice none 0 0], []⟩).memory Tryz.f4.params.toList Rows.sdAskedSpec.vars false (#[.slice none 0 0, .slice none 0 0] : Array Value).toList 8 = some ([.nil, .nil], [], places) := ⟨[], by kernel_rfl⟩
 exact law_lifted_uptoT (C := Tryz.checked) H enc F own started (by kernel_rfl) Tryz.func4
  (witness_row_shaped (enc := enc) (C := Tryz.checked) false (World.laidAll Tryz.prog os laid1) #[.slice none 0 0, .slice none 0 0] (World.laidAll_os _ _ _) (World.shaped_of_ZipB (by kernel_rfl) (by kernel_rfl)) (by kernel_rfl)
   (OpenSpec.preRow_of_cond 8 hx (by kernel_rfl) (fun k hk => by cases hk; kernel_rfl) (by kernel_rfl) (by rw [MakeChecks.laidMetH_plain _ _ _ (by kernel_rfl)]; exact laidMet_laidAll _ (by kernel_rfl) (by kernel_rfl))))
  (by kernel_rfl) Tryz.underlying4 rfl (fun H ds h => by
   match ds, h with
   | [_, _], _ => rfl) laidOut (by kernel_rfl) askedWalk
theorem asked_holds : Rows.SdAskedUptoSaid :=
 OpenClaim.holds_of_cond 4 Tryz.f4 rfl rfl rfl rfl rfl rfl rfl ⟨rfl, rfl, rfl, rfl, rfl⟩ rfl rfl rfl rfl rfl (by kernel_rfl) Tryz.func4 (by kernel_rfl)
  (of_decide_eq_true (by kernel_rfl)) (by unfold Func.isWrapper; rw [if_neg (of_decide_eq_false (by kernel_rfl))]; exact ⟨rfl, rfl⟩)
  (fun os started H enc _ F => by rw [OpenClaim.pre_eq_preRow]; exact asked_lifted os started H enc F)
theorem sdAsked_card : Rows.SdAskedUptoCardSaid :=
 Claim7.holds_tied_plain_at .later [] [.data, .data, .data, .data, .data, .data, .pinned] true (true, "54b2a3a159c0c20cd4fa73cde0e23f708d36cb738ba8b015cea260e63ce7ebae") true
  asked_holds (fun _ h => by cases h) (by kernel_rfl) (fun _ h => by cases h) sdAskedUpto_row_tie rfl ⟨rfl, rfl⟩ (by kernel_rfl) rfl
  (fun f fn hf hfn => by
   obtain rfl : f = 4 := Option.some.inj ((show Tryz.prog.funcNamed "signet/signetlaw28.SdAsked" = some 4 by kernel_rfl).symm.trans hf) |>.symm
   obtain rfl : fn = Tryz.f4 := (Option.some.inj (Tryz.func4.symm.trans hfn)).symm
   exact ⟨by kernel_rfl, fun j t ht => by
    rw [Tryz.params4] at ht
    have hm : t ∈ [22, 23] := by simpa using Array.mem_of_getElem? ht
    have hall : ([22, 23].all fun u => !Tryz.prog.wantsStandIn u) = true := by kernel_rfl
    exact (show Tryz.prog.wantsStandIn t = false by simpa using List.all_eq_true.1 hall t hm)⟩)
  (by kernel_rfl)
#print axioms sdAsked_card
end Go.Proofs.YtjajcmedipjfhaaGreatDoor
