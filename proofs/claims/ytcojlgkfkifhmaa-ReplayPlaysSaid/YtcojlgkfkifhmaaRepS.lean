/- The sorted names of a map: the library's contracts in this form. -/
import Derived.Test.YtcojlgkfkifhmaaRepC
import Derived.Test.YtcojlgkfkifhmaaMapU
import Derived.Test.YtcojlgkfkifhmaaRepK
namespace Go.Proofs.Ytcojlgkfkifhmaa
open Sg Go.IntWalk Go.RowKit Go.Maps Go.Sort Go.Shelf
theorem sorts31 (m : Nat) : AnyZ.SortsIn Try.prog Try.sorted31_ren Fence.wide m :=
  ⟨fun blk off cap ss W hH hblk hsz => callsIn_wide.2 (AnyM.slices_Sort_string Try.sort49 blk off cap ss W hH hblk hsz),
   fun p cap W => callsIn_wide.2 (AnyM.slices_Sort_string_none Try.sort49 p cap W)⟩
theorem keys_spec {F : World} {M : List Nat} {H : List Res} {mb : Nat} : Meets Try.prog 32 [.map (some mb)] F M H (fun e H' => ∃ cb, e = .returned (.func (.func 50) #[] #[.pointer (some ⟨cb, 0, none⟩)]) ∧ H' = .blk cb [.map (some mb)] 61 :: H) := fun w hw =>
  (callsIn_wide.1 (AnyZ.keys_in Try.keys32 Fence.wide 5 trivial rfl (some mb) w)).mono fun e w' ⟨h1, h2⟩ => ⟨_, ⟨w.heap.size, h1, rfl⟩, by
    subst h2
    exact hw.alloc [.map (some mb)] 61⟩
theorem sorted_spec {F : World} {M : List Nat} {H : List Res} {mb cb n : Nat} {m : Ents} (hB : InB H cb [.map (some mb)] 61) (hE : InE H mb (mapQ Try.prog 9 2 n (mapD m))) (hr : Rise m) (hl : m.length ≤ 1000000000) :
    Meets Try.prog 31 [.func (.func 50) #[] #[.pointer (some ⟨cb, 0, none⟩)]] F M H (fun e H' => ∃ ad cp, e = .returned (.slice ad m.length cp) ∧ H' = .row ad cp 9 1 m.length ((m.map (·.1)).map sV) :: H) := fun w hw => by
  have hcell : w.cell? ⟨cb, 0, none⟩ = some (.map (some mb)) := hw.cell hB.h 0
  have hlt : cb < w.heap.size := Res.foot_lt (hw.res _ hB.h) cb (by simp [Res.foot])
  have hown := mapQ_iff.1 (hw.res _ hE.h)
  have hsz : Maps.size (mapD m) = m.length := mapD_size m
  have hseq : SeqGives Fence.wide 2 Try.prog 50 #[.pointer (some ⟨cb, 0, none⟩)] encStr (fun ss => ss.Perm (strKeys (mapD m))) (Maps.size (mapD m)) w :=
    AnyZ.keys_gives (ρ := Try.keys32_ren) { Try.keys32 with } Fence.wide _ trivial rfl (by omega) cb mb n (mapD m) w hlt hcell hown
  have hc := AnyZ.sorted_in Try.sorted31 Fence.wide 5 trivial trivial trivial trivial rfl (by omega) (sorts31 _) (enters_of Try.func49 (by kernel_rfl) rfl) 50 #[.pointer (some ⟨cb, 0, none⟩)] trivial (enters_of Try.func50 (by kernel_rfl) rfl) _ _ (by rw [hsz]; simp only [maxLen]; omega) (by rw [hsz]; omega) w hseq
  refine (callsIn_wide.1 hc).mono ?_
  rintro e w' ⟨v, ss, rfl, hp, hrow, hnil, hb⟩
  rw [strKeys_mapD] at hp
  have hlen : ss.length = m.length := by rw [hp.length_eq, List.length_map]
  have hs : ss.mergeSort (fun x y => decide (x ≤ y)) = m.map (·.1) := sort_keys hr hp
  rw [hs, hlen] at hrow
  obtain ⟨h1, h2⟩ := hrow
  rcases h2 with ⟨hv, h0⟩ | ⟨g, cap, cur, hv, hg, h3⟩
  · refine ⟨_, ⟨none, 0, by rw [hv, h0], rfl⟩, hw.fresh hb.os hb.tape hb.output hb.size (fun j hj => hb.block j hj) ⟨h1, .inl ⟨by rw [h0], h0⟩⟩ (by simp [Res.foot]) (by simp [Res.foot])⟩
  · refine ⟨_, ⟨_, _, by rw [hv], rfl⟩, hw.fresh hb.os hb.tape hb.output hb.size (fun j hj => hb.block j hj) ⟨h1, .inr ⟨g, cap, cur, rfl, Nat.zero_le _, h3⟩⟩ (by simpa [Res.foot] using hg) (by simp [Res.foot])⟩
end Go.Proofs.Ytcojlgkfkifhmaa
