/-
  DERIVED. GIVEN WITH THE SEED: THE PROGRAM's TIES (one call each: nine closed facts by the kernel) AND EACH ROW's TIE, after the 31st guide's Derived/Test/Toyas{Tie, Card}.lean. No idea stands in it: it is a product of the set-up. Laid BY PROGRAM, IN A SANDBOX (cutbox-door.mjs). By AI agents, Wed Nov 11 2026. No macro, syntax, notation, axiom, sorry.
-/
import Derived.Test.YtophlopiigpbgaaGreatDoorRows
import Derived.LaidByTextLater
import Derived.SevenTiedAt
import Derived.LaidSub
import Derived.LaidOnce
namespace Go.Proofs.YtophlopiigpbgaaGreatDoor
open Go
set_option maxRecDepth 100000
theorem seatTie1 : Tryz.prog.laidByTextLater [("unicode/utf8.acceptRanges", Rows.laid_unicode_utf8_acceptRanges), ("signet/sha.k256", Rows.laid_signet_sha_k256), ("signet/sha.k512", Rows.laid_signet_sha_k512), ("signet/sha.start256", Rows.laid_signet_sha_start256), ("signet/sha.start384", Rows.laid_signet_sha_start384), ("signet/sha.start512", Rows.laid_signet_sha_start512), ("signet/signetref4.k256", Rows.laid_signet_signetref4_k256), ("signet/signetref4.k512", Rows.laid_signet_signetref4_k512), ("signet/signetref4.start256", Rows.laid_signet_signetref4_start256), ("signet/signetref4.start384", Rows.laid_signet_signetref4_start384), ("signet/signetref4.start512", Rows.laid_signet_signetref4_start512)] [.data, .data, .data, .data, .data, .data, .data, .data, .data, .data, .data] true :=
  Program.laidByTextLater_by_one 84 8 81 (by kernel_rfl) (by kernel_rfl) (by kernel_rfl) (by kernel_rfl) (by kernel_rfl) (by kernel_rfl) (fun _ _ => by kernel_rfl)
theorem seatTie2 : Tryz.prog.laidByTextLater [("math/bits.deBruijn32tab", Rows.laid_math_bits_deBruijn32tab), ("math/bits.deBruijn64tab", Rows.laid_math_bits_deBruijn64tab), ("internal/strconv.uint64pow10", Rows.laid_internal_strconv_uint64pow10), ("unicode/utf8.acceptRanges", Rows.laid_unicode_utf8_acceptRanges), ("signet/sha.k256", Rows.laid_signet_sha_k256), ("signet/sha.k512", Rows.laid_signet_sha_k512), ("signet/sha.start256", Rows.laid_signet_sha_start256), ("signet/sha.start384", Rows.laid_signet_sha_start384), ("signet/sha.start512", Rows.laid_signet_sha_start512)] [.data, .data, .data, .data, .data, .data, .data, .data, .data] true :=
  Program.laidByTextLater_by_one 84 8 81 (by kernel_rfl) (by kernel_rfl) (by kernel_rfl) (by kernel_rfl) (by kernel_rfl) (by kernel_rfl) (fun _ _ => by kernel_rfl)
theorem pin_laid_unicode_utf8_first : Tryz.pinned.checked.prog.pinnedFits "unicode/utf8.first" = true := by kernel_rfl
theorem noOwnUnsafe : Tryz.pinned.checked.prog.headLifts.contains "ownunsafe" = false := by kernel_rfl
theorem fits1 : Tryz.pinned.checked.prog.listedFits [("unicode/utf8.acceptRanges", Rows.laid_unicode_utf8_acceptRanges), ("signet/sha.k256", Rows.laid_signet_sha_k256), ("signet/sha.k512", Rows.laid_signet_sha_k512), ("signet/sha.start256", Rows.laid_signet_sha_start256), ("signet/sha.start384", Rows.laid_signet_sha_start384), ("signet/sha.start512", Rows.laid_signet_sha_start512), ("signet/signetref4.k256", Rows.laid_signet_signetref4_k256), ("signet/signetref4.k512", Rows.laid_signet_signetref4_k512), ("signet/signetref4.start256", Rows.laid_signet_signetref4_start256), ("signet/signetref4.start384", Rows.laid_signet_signetref4_start384), ("signet/signetref4.start512", Rows.laid_signet_signetref4_start512), ("unicode/utf8.first", Rows.laid_unicode_utf8_first)] = true := by
  unfold Program.listedFits
  rw [noOwnUnsafe]
  kernel_rfl
theorem tie : Tryz.prog.laidByTextLater [("unicode/utf8.acceptRanges", Rows.laid_unicode_utf8_acceptRanges), ("signet/sha.k256", Rows.laid_signet_sha_k256), ("signet/sha.k512", Rows.laid_signet_sha_k512), ("signet/sha.start256", Rows.laid_signet_sha_start256), ("signet/sha.start384", Rows.laid_signet_sha_start384), ("signet/sha.start512", Rows.laid_signet_sha_start512), ("signet/signetref4.k256", Rows.laid_signet_signetref4_k256), ("signet/signetref4.k512", Rows.laid_signet_signetref4_k512), ("signet/signetref4.start256", Rows.laid_signet_signetref4_start256), ("signet/signetref4.start384", Rows.laid_signet_signetref4_start384), ("signet/signetref4.start512", Rows.laid_signet_signetref4_start512)] [.data, .data, .data, .data, .data, .data, .data, .data, .data, .data, .data] true :=
  Program.laidByTextLater.sub seatTie1 ["unicode/utf8.acceptRanges", "signet/sha.k256", "signet/sha.k512", "signet/sha.start256", "signet/sha.start384", "signet/sha.start512", "signet/signetref4.k256", "signet/signetref4.k512", "signet/signetref4.start256", "signet/signetref4.start384", "signet/signetref4.start512"] (by kernel_rfl) (by kernel_rfl)
theorem sdReveals_row_tie : Rows.sdRevealsRow.laidByTextAt .later Tryz.pinned [.data, .data, .data, .data, .data, .data, .data, .data, .data, .data, .data, .pinned] true :=
  OpenClaim.laidByTextAt_pinned rfl rfl tie rfl rfl rfl rfl (fun y hy _e => by
    simp only [Rows.sdRevealsRow, List.zip_cons_cons, List.zip_nil_right, List.mem_cons, List.mem_nil_iff, or_false] at hy
    rcases hy with rfl | rfl | rfl | rfl | rfl | rfl | rfl | rfl | rfl | rfl | rfl | rfl
    · cases _e
    · cases _e
    · cases _e
    · cases _e
    · cases _e
    · cases _e
    · cases _e
    · cases _e
    · cases _e
    · cases _e
    · cases _e
    · exact ⟨pin_laid_unicode_utf8_first, by kernel_rfl⟩) fits1
theorem fits2 : Tryz.pinned.checked.prog.listedFits [("math/bits.deBruijn32tab", Rows.laid_math_bits_deBruijn32tab), ("math/bits.deBruijn64tab", Rows.laid_math_bits_deBruijn64tab), ("internal/strconv.uint64pow10", Rows.laid_internal_strconv_uint64pow10), ("unicode/utf8.acceptRanges", Rows.laid_unicode_utf8_acceptRanges), ("signet/sha.k256", Rows.laid_signet_sha_k256), ("signet/sha.k512", Rows.laid_signet_sha_k512), ("signet/sha.start256", Rows.laid_signet_sha_start256), ("signet/sha.start384", Rows.laid_signet_sha_start384), ("signet/sha.start512", Rows.laid_signet_sha_start512), ("unicode/utf8.first", Rows.laid_unicode_utf8_first)] = true := by
  unfold Program.listedFits
  rw [noOwnUnsafe]
  kernel_rfl
theorem tie2 : Tryz.prog.laidByTextLater [("math/bits.deBruijn32tab", Rows.laid_math_bits_deBruijn32tab), ("math/bits.deBruijn64tab", Rows.laid_math_bits_deBruijn64tab), ("internal/strconv.uint64pow10", Rows.laid_internal_strconv_uint64pow10), ("unicode/utf8.acceptRanges", Rows.laid_unicode_utf8_acceptRanges), ("signet/sha.k256", Rows.laid_signet_sha_k256), ("signet/sha.k512", Rows.laid_signet_sha_k512), ("signet/sha.start256", Rows.laid_signet_sha_start256), ("signet/sha.start384", Rows.laid_signet_sha_start384), ("signet/sha.start512", Rows.laid_signet_sha_start512)] [.data, .data, .data, .data, .data, .data, .data, .data, .data] true :=
  Program.laidByTextLater.sub seatTie2 ["math/bits.deBruijn32tab", "math/bits.deBruijn64tab", "internal/strconv.uint64pow10", "unicode/utf8.acceptRanges", "signet/sha.k256", "signet/sha.k512", "signet/sha.start256", "signet/sha.start384", "signet/sha.start512"] (by kernel_rfl) (by kernel_rfl)
theorem sdBack_row_tie : Rows.sdBackRow.laidByTextAt .later Tryz.pinned [.data, .data, .data, .data, .data, .data, .data, .data, .data, .pinned] true :=
  OpenClaim.laidByTextAt_pinned rfl rfl tie2 rfl rfl rfl rfl (fun y hy _e => by
    simp only [Rows.sdBackRow, List.zip_cons_cons, List.zip_nil_right, List.mem_cons, List.mem_nil_iff, or_false] at hy
    rcases hy with rfl | rfl | rfl | rfl | rfl | rfl | rfl | rfl | rfl | rfl
    · cases _e
    · cases _e
    · cases _e
    · cases _e
    · cases _e
    · cases _e
    · cases _e
    · cases _e
    · cases _e
    · exact ⟨pin_laid_unicode_utf8_first, by kernel_rfl⟩) fits2
theorem sdRevealsUpto_row_tie : Rows.sdRevealsUptoRow.laidByTextAt .later Tryz.pinned [.data, .data, .data, .data, .data, .data, .data, .data, .data, .data, .data, .pinned] true :=
  OpenClaim.laidByTextAt_pinned rfl rfl tie rfl rfl rfl rfl (fun y hy _e => by
    simp only [Rows.sdRevealsUptoRow, List.zip_cons_cons, List.zip_nil_right, List.mem_cons, List.mem_nil_iff, or_false] at hy
    rcases hy with rfl | rfl | rfl | rfl | rfl | rfl | rfl | rfl | rfl | rfl | rfl | rfl
    · cases _e
    · cases _e
    · cases _e
    · cases _e
    · cases _e
    · cases _e
    · cases _e
    · cases _e
    · cases _e
    · cases _e
    · cases _e
    · exact ⟨pin_laid_unicode_utf8_first, by kernel_rfl⟩) fits1
theorem sdBackUpto_row_tie : Rows.sdBackUptoRow.laidByTextAt .later Tryz.pinned [.data, .data, .data, .data, .data, .data, .data, .data, .data, .pinned] true :=
  OpenClaim.laidByTextAt_pinned rfl rfl tie2 rfl rfl rfl rfl (fun y hy _e => by
    simp only [Rows.sdBackUptoRow, List.zip_cons_cons, List.zip_nil_right, List.mem_cons, List.mem_nil_iff, or_false] at hy
    rcases hy with rfl | rfl | rfl | rfl | rfl | rfl | rfl | rfl | rfl | rfl
    · cases _e
    · cases _e
    · cases _e
    · cases _e
    · cases _e
    · cases _e
    · cases _e
    · cases _e
    · cases _e
    · exact ⟨pin_laid_unicode_utf8_first, by kernel_rfl⟩) fits2
end Go.Proofs.YtophlopiigpbgaaGreatDoor
