/- The second form's bound, on slices and texts. -/
import Derived.Test.YtcojlgkfkifhmaaRows
namespace Go.Proofs.Ytcojlgkfkifhmaa
open Go
theorem bulk_pos {H : Type} (d : DataW H) : 1 ≤ Rows.uptoBulk d := by
  cases d with
  | lit l => cases l <;> simp [Rows.uptoBulk]
  | _ => simp [Rows.uptoBulk]
theorem bulk_all {H : Type} : ∀ l : List (DataW H), l.length ≤ Rows.uptoBulkAll l
  | [] => Nat.zero_le _
  | d :: l => by
    have h1 := bulk_pos d
    have h2 := bulk_all l
    rw [Rows.uptoBulkAll, List.length_cons]
    omega
theorem bulk_slice {H : Type} {d : DataW H} {cp : Nat} (h : cp = 0 ∨ ∃ el sp, d = .slice el sp ∧ el.length + sp.length = cp) : cp ≤ Rows.uptoBulk d := by
  rcases h with rfl | ⟨el, sp, rfl, rfl⟩
  · exact Nat.zero_le _
  · have h1 := bulk_all el
    have h2 := bulk_all sp
    rw [Rows.uptoBulk]
    omega
theorem small_all {H : Type} {ds : List (DataW H)} (h : Rows.uptoSmall H ds = true) : Rows.uptoBulkAll ds ≤ 1048576 := of_decide_eq_true h
end Go.Proofs.Ytcojlgkfkifhmaa
