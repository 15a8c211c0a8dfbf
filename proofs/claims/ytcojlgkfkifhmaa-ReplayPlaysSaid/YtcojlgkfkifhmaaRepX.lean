/- The plain law of the two Opens: where each of them stops. -/
import Derived.Test.YtcojlgkfkifhmaaRepW
namespace Go.Proofs.Ytcojlgkfkifhmaa
open Sg Go.IntWalk
theorem number_bad {l : List UInt8} {p n : Nat} : (Rr.number l ⟨p, true⟩ n).2 = ⟨p, true⟩ := by
  unfold Rr.number Rr.take
  rw [if_pos (.inl rfl)]
theorem need_bad {p n : Nat} {ok : Bool} : Rr.need ⟨p, true⟩ ok n = ⟨p, true⟩ := by
  unfold Rr.need
  rw [if_neg (by simp)]
theorem byte_bad {l : List UInt8} {p lo hi : Nat} : (Rr.byte l ⟨p, true⟩ lo hi).2 = ⟨p, true⟩ := by
  unfold Rr.byte
  rw [number_bad, need_bad]
theorem entriesR_bad {l : List UInt8} {p : Nat} {k : Bk} : ∀ (m : Nat) (first : Bool) (ahead : List UInt8), entriesR l m first ahead ⟨p, true⟩ k = (⟨p, true⟩, k)
  | 0, _, _ => rfl
  | m + 1, _, _ => by rw [entriesR, if_pos rfl]
theorem number_none {l : List UInt8} {p n : Nat} (h : l.length < p + n) : (Rr.number l ⟨p, false⟩ n).2 = ⟨p, true⟩ := by
  unfold Rr.number Rr.take
  rw [if_pos (.inr h)]
theorem number_some {l : List UInt8} {p n : Nat} (q : Nat) (hq : q = p + n) (h : ¬ l.length < p + n) : Rr.number l ⟨p, false⟩ n = (beV ((l.drop p).take n), ⟨q, false⟩) := by
  subst hq
  unfold Rr.number Rr.take
  rw [if_neg (not_or.2 ⟨by simp, h⟩)]
theorem need_no {p n : Nat} : Rr.need ⟨p, false⟩ false n = ⟨p - n, true⟩ := by
  unfold Rr.need
  rw [if_pos ⟨rfl, rfl⟩]
theorem beV_one {l : List UInt8} {p : Nat} (h : ¬ l.length < p + 1) : beV ((l.drop p).take 1) = (l.getD p 0).toNat := by
  have hp : p < l.length := by omega
  have e : (l.drop p).take 1 = [l[p]] := by
    rw [List.drop_eq_getElem_cons hp]
    rfl
  rw [e, List.getD_eq_getElem?_getD, List.getElem?_eq_getElem hp]
  simp [beV]
theorem byte_no {l : List UInt8} {p lo hi : Nat} (h : l.length < p + 1 ∨ ¬ (lo ≤ (l.getD p 0).toNat ∧ (l.getD p 0).toNat ≤ hi)) : (Rr.byte l ⟨p, false⟩ lo hi).2 = ⟨p, true⟩ := by
  unfold Rr.byte
  by_cases h1 : l.length < p + 1
  · rw [number_none h1, need_bad]
  · rw [number_some (p + 1) rfl h1, beV_one h1]
    have h2 := h.resolve_left h1
    have : (decide (lo ≤ (l.getD p 0).toNat) && decide ((l.getD p 0).toNat ≤ hi)) = false := by
      rw [← Bool.not_eq_true, Bool.and_eq_true, decide_eq_true_eq, decide_eq_true_eq]
      exact h2
    dsimp only
    rw [this, need_no, Nat.add_sub_cancel]
theorem byte_yes {l : List UInt8} {p lo hi : Nat} (q : Nat) (hq : q = p + 1) (h : ¬ l.length < p + 1) (h2 : lo ≤ (l.getD p 0).toNat ∧ (l.getD p 0).toNat ≤ hi) : Rr.byte l ⟨p, false⟩ lo hi = ((l.getD p 0).toNat, ⟨q, false⟩) := by
  unfold Rr.byte
  rw [number_some q hq h, beV_one h]
  dsimp only
  rw [decide_eq_true h2.1, decide_eq_true h2.2, Bool.and_true, need_true]
theorem openM_bad {l : List UInt8} {p : Nat} (h : (headR l).2.1 = ⟨p, true⟩) : openM l = (none, p) := by
  unfold openM
  dsimp only
  rw [h, entriesR_bad]
  dsimp only
  rw [number_bad, need_bad, if_pos (.inl rfl)]
theorem openM_bad2 {l : List UInt8} {p : Nat} {k : Bk} (h : entriesR l (headR l).1 true [] (headR l).2.1 (headR l).2.2 = (⟨p, true⟩, k)) : openM l = (none, p) := by
  unfold openM
  dsimp only
  rw [h]
  dsimp only
  rw [number_bad, need_bad, if_pos (.inl rfl)]
/- The head. -/
theorem head0 {l : List UInt8} (h : l.length < 1 ∨ ¬ (l.getD 0 0).toNat = 82) : openM l = (none, 0) := by
  refine openM_bad ?_
  unfold headR
  dsimp only
  rw [byte_no (p := 0) (by rcases h with h | h; exact .inl (by omega); exact .inr (by omega))]
  rw [byte_bad, byte_bad, number_bad, need_bad, number_bad, need_bad]
theorem head1 {l : List UInt8} (h0 : ¬ l.length < 1 ∧ (l.getD 0 0).toNat = 82) (h : l.length < 2 ∨ ¬ (l.getD 1 0).toNat = 1) : openM l = (none, 1) := by
  refine openM_bad ?_
  unfold headR
  dsimp only
  rw [byte_yes (p := 0) (lo := 82) (hi := 82) 1 rfl (by omega) (by omega)]
  dsimp only
  rw [byte_no (p := 1) (by rcases h with h | h; exact .inl (by omega); exact .inr (by omega))]
  rw [byte_bad, number_bad, need_bad, number_bad, need_bad]
theorem head2 {l : List UInt8} (h0 : ¬ l.length < 2 ∧ (l.getD 0 0).toNat = 82 ∧ (l.getD 1 0).toNat = 1) (h : l.length < 3 ∨ 1 < (l.getD 2 0).toNat) : openM l = (none, 2) := by
  refine openM_bad ?_
  unfold headR
  dsimp only
  rw [byte_yes (p := 0) (lo := 82) (hi := 82) 1 rfl (by omega) (by omega)]
  dsimp only
  rw [byte_yes (p := 1) (lo := 1) (hi := 1) 2 rfl (by omega) (by omega)]
  dsimp only
  rw [byte_no (p := 2) (lo := 0) (hi := 1) (by rcases h with h | h; exact .inl (by omega); exact .inr (by omega))]
  rw [number_bad, need_bad, number_bad, need_bad]
theorem toI_zero {v : Nat} (h : v < 18446744073709551616) : toI v = 0 ↔ v = 0 := by
  unfold toI
  split <;> omega
theorem bv8 (l : List UInt8) (p : Nat) : beV ((l.drop p).take 8) < 18446744073709551616 := beV_lt64 (by rw [List.length_take]; omega)
theorem head3 {l : List UInt8} (h0 : ¬ l.length < 3 ∧ (l.getD 0 0).toNat = 82 ∧ (l.getD 1 0).toNat = 1 ∧ (l.getD 2 0).toNat ≤ 1) (h : l.length < 11 ∨ (¬ (l.getD 2 0).toNat = 1 ∧ ¬ beV ((l.drop 3).take 8) = 0)) : openM l = (none, 3) := by
  refine openM_bad ?_
  unfold headR
  dsimp only
  rw [byte_yes (p := 0) (lo := 82) (hi := 82) 1 rfl (by omega) (by omega)]
  dsimp only
  rw [byte_yes (p := 1) (lo := 1) (hi := 1) 2 rfl (by omega) (by omega)]
  dsimp only
  rw [byte_yes (p := 2) (lo := 0) (hi := 1) 3 rfl (by omega) (by omega)]
  dsimp only
  by_cases h1 : l.length < 11
  · rw [number_none (p := 3) (by omega), need_bad, number_bad, need_bad]
  · obtain ⟨h2, h3⟩ := h.resolve_left h1
    rw [number_some (p := 3) 11 rfl (by omega)]
    dsimp only
    have hz : ¬ toI (beV ((l.drop 3).take 8)) = 0 := fun h => h3 ((toI_zero (bv8 l _)).1 h)
    rw [decide_eq_false h2, decide_eq_false hz, Bool.or_false, need_no, number_bad, need_bad]
theorem head4 {l : List UInt8} (h0 : ¬ l.length < 11 ∧ (l.getD 0 0).toNat = 82 ∧ (l.getD 1 0).toNat = 1 ∧ (l.getD 2 0).toNat ≤ 1) (h1 : (l.getD 2 0).toNat = 1 ∨ beV ((l.drop 3).take 8) = 0) (h : l.length < 15 ∨ 4096 < beV ((l.drop 11).take 4) ∨ (¬ (l.getD 2 0).toNat = 1 ∧ ¬ beV ((l.drop 11).take 4) = 0)) : openM l = (none, 11) := by
  refine openM_bad ?_
  unfold headR
  dsimp only
  rw [byte_yes (p := 0) (lo := 82) (hi := 82) 1 rfl (by omega) (by omega)]
  dsimp only
  rw [byte_yes (p := 1) (lo := 1) (hi := 1) 2 rfl (by omega) (by omega)]
  dsimp only
  rw [byte_yes (p := 2) (lo := 0) (hi := 1) 3 rfl (by omega) (by omega)]
  dsimp only
  rw [number_some (p := 3) 11 rfl (by omega)]
  dsimp only
  have hz : (decide ((l.getD 2 0).toNat = 1) || decide (toI (beV ((l.drop 3).take 8)) = 0)) = true := by
    rw [Bool.or_eq_true, decide_eq_true_eq, decide_eq_true_eq]
    rcases h1 with h1 | h1
    · exact .inl h1
    · exact .inr ((toI_zero (bv8 l _)).2 h1)
  rw [hz, need_true]
  by_cases h2 : l.length < 15
  · rw [number_none (by omega), need_bad]
  · have h3 := h.resolve_left h2
    rw [number_some (p := 11) 15 rfl (by omega)]
    dsimp only
    have hf : (decide (beV ((l.drop 11).take 4) = 0) || (decide (beV ((l.drop 11).take 4) ≤ 4096) && decide ((l.getD 2 0).toNat = 1))) = false := by
      rw [← Bool.not_eq_true, Bool.or_eq_true, Bool.and_eq_true, decide_eq_true_eq, decide_eq_true_eq, decide_eq_true_eq]
      omega
    rw [hf, need_no]
theorem head5 {l : List UInt8} (h0 : ¬ l.length < 15 ∧ (l.getD 0 0).toNat = 82 ∧ (l.getD 1 0).toNat = 1 ∧ (l.getD 2 0).toNat ≤ 1) (h1 : (l.getD 2 0).toNat = 1 ∨ beV ((l.drop 3).take 8) = 0) (h : beV ((l.drop 11).take 4) ≤ 4096 ∧ ((l.getD 2 0).toNat = 1 ∨ beV ((l.drop 11).take 4) = 0)) :
    headR l = (beV ((l.drop 11).take 4), ⟨15, false⟩, ⟨decide ((l.getD 2 0).toNat = 1), toI (beV ((l.drop 3).take 8)), []⟩) := by
  unfold headR
  dsimp only
  rw [byte_yes (p := 0) (lo := 82) (hi := 82) 1 rfl (by omega) (by omega)]
  dsimp only
  rw [byte_yes (p := 1) (lo := 1) (hi := 1) 2 rfl (by omega) (by omega)]
  dsimp only
  rw [byte_yes (p := 2) (lo := 0) (hi := 1) 3 rfl (by omega) (by omega)]
  dsimp only
  rw [number_some (p := 3) 11 rfl (by omega)]
  dsimp only
  have hz : (decide ((l.getD 2 0).toNat = 1) || decide (toI (beV ((l.drop 3).take 8)) = 0)) = true := by
    rw [Bool.or_eq_true, decide_eq_true_eq, decide_eq_true_eq]
    rcases h1 with h1 | h1
    · exact .inl h1
    · exact .inr ((toI_zero (bv8 l _)).2 h1)
  rw [hz, need_true, number_some (p := 11) 15 rfl (by omega)]
  dsimp only
  have hf : (decide (beV ((l.drop 11).take 4) = 0) || (decide (beV ((l.drop 11).take 4) ≤ 4096) && decide ((l.getD 2 0).toNat = 1))) = true := by
    rw [Bool.or_eq_true, Bool.and_eq_true, decide_eq_true_eq, decide_eq_true_eq, decide_eq_true_eq]
    omega
  rw [hf, need_true]
/- Entries. -/
theorem take_yes {l : List UInt8} {p n : Nat} (q : Nat) (hq : q = p + n) (h : ¬ l.length < p + n) : Rr.take l ⟨p, false⟩ n = ((l.drop p).take n, ⟨q, false⟩) := by
  subst hq
  unfold Rr.take
  rw [if_neg (not_or.2 ⟨by simp, h⟩)]
theorem take_no {l : List UInt8} {p n : Nat} (h : l.length < p + n) : (Rr.take l ⟨p, false⟩ n).2 = ⟨p, true⟩ := by
  unfold Rr.take
  rw [if_pos (.inr h)]
theorem take_bad {l : List UInt8} {p n : Nat} : (Rr.take l ⟨p, true⟩ n).2 = ⟨p, true⟩ := by
  unfold Rr.take
  rw [if_pos (.inl rfl)]
/-- Where the program's entry stops, and what it gives. -/
theorem entry_stop {l : List UInt8} {p : Nat} {k : Bk} {first : Bool} {ahead : List UInt8} : 
    ((l.length < p + 2 ∨ 1024 < beV ((l.drop p).take 2)) → (entryR l ⟨p, false⟩ k first ahead).2.1 = ⟨p, true⟩) ∧
    (¬ l.length < p + 2 → ¬ 1024 < beV ((l.drop p).take 2) → l.length < p + 2 + beV ((l.drop p).take 2) → (entryR l ⟨p, false⟩ k first ahead).2.1 = ⟨p + 2, true⟩) ∧
    (¬ l.length < p + 2 → ¬ 1024 < beV ((l.drop p).take 2) → ¬ l.length < p + 2 + beV ((l.drop p).take 2) → (first || gtB ((l.drop (p + 2)).take (beV ((l.drop p).take 2))) ahead) = false → (entryR l ⟨p, false⟩ k first ahead).2.1 = ⟨p + 2, true⟩) ∧
    (¬ l.length < p + 2 → ¬ 1024 < beV ((l.drop p).take 2) → ¬ l.length < p + 2 + beV ((l.drop p).take 2) → (first || gtB ((l.drop (p + 2)).take (beV ((l.drop p).take 2))) ahead) = true →
      (l.length < p + 2 + beV ((l.drop p).take 2) + 8 → (entryR l ⟨p, false⟩ k first ahead).2.1 = ⟨p + 2 + beV ((l.drop p).take 2), true⟩) ∧
      (¬ l.length < p + 2 + beV ((l.drop p).take 2) + 8 → ¬ k.last ≤ toI (beV ((l.drop (p + 2 + beV ((l.drop p).take 2))).take 8)) → (entryR l ⟨p, false⟩ k first ahead).2.1 = ⟨p + 2 + beV ((l.drop p).take 2), true⟩) ∧
      (¬ l.length < p + 2 + beV ((l.drop p).take 2) + 8 → k.last ≤ toI (beV ((l.drop (p + 2 + beV ((l.drop p).take 2))).take 8)) → entryR l ⟨p, false⟩ k first ahead = ((l.drop (p + 2)).take (beV ((l.drop p).take 2)), ⟨p + 2 + beV ((l.drop p).take 2) + 8, false⟩, ⟨k.has, k.last, eput k.ends ((l.drop (p + 2)).take (beV ((l.drop p).take 2))) (toI (beV ((l.drop (p + 2 + beV ((l.drop p).take 2))).take 8)))⟩))) := by
  refine ⟨fun h => ?_, fun a1 a2 a3 => ?_, fun a1 a2 a3 a4 => ?_, fun a1 a2 a3 a4 => ⟨fun a5 => ?_, fun a5 a6 => ?_, fun a5 a6 => ?_⟩⟩
  · unfold entryR
    dsimp only
    by_cases h1 : l.length < p + 2
    · rw [number_none h1, need_bad, if_pos rfl]
    · rw [number_some (p + 2) rfl h1]
      dsimp only
      rw [decide_eq_false (show ¬ beV ((l.drop p).take 2) ≤ 1024 by omega), need_no, if_pos rfl, Nat.add_sub_cancel]
  · unfold entryR
    dsimp only
    rw [number_some (p + 2) rfl a1]
    dsimp only
    rw [decide_eq_true (show beV ((l.drop p).take 2) ≤ 1024 by omega), need_true, if_neg (by simp), take_no a3, need_bad]
    rw [number_bad, need_bad, if_pos rfl]
  · unfold entryR
    dsimp only
    rw [number_some (p + 2) rfl a1]
    dsimp only
    rw [decide_eq_true (show beV ((l.drop p).take 2) ≤ 1024 by omega), need_true, if_neg (by simp), take_yes _ rfl a3]
    dsimp only
    rw [a4, need_no, number_bad, need_bad, if_pos rfl, Nat.add_sub_cancel]
  · unfold entryR
    dsimp only
    rw [number_some (p + 2) rfl a1]
    dsimp only
    rw [decide_eq_true (show beV ((l.drop p).take 2) ≤ 1024 by omega), need_true, if_neg (by simp), take_yes _ rfl a3]
    dsimp only
    rw [a4, need_true, number_none a5, need_bad, if_pos rfl]
  · unfold entryR
    dsimp only
    rw [number_some (p + 2) rfl a1]
    dsimp only
    rw [decide_eq_true (show beV ((l.drop p).take 2) ≤ 1024 by omega), need_true, if_neg (by simp), take_yes _ rfl a3]
    dsimp only
    rw [a4, need_true, number_some _ rfl a5]
    dsimp only
    rw [decide_eq_false a6, need_no, if_pos rfl, Nat.add_sub_cancel]
  · unfold entryR
    dsimp only
    rw [number_some (p + 2) rfl a1]
    dsimp only
    rw [decide_eq_true (show beV ((l.drop p).take 2) ≤ 1024 by omega), need_true, if_neg (by simp), take_yes _ rfl a3]
    dsimp only
    rw [a4, need_true, number_some _ rfl a5]
    dsimp only
    rw [decide_eq_true a6, need_true, if_neg (by simp)]
theorem entriesR_stop {l : List UInt8} {m : Nat} {first : Bool} {ahead : List UInt8} {p q : Nat} {k : Bk} (h : (entryR l ⟨p, false⟩ k first ahead).2.1 = ⟨q, true⟩) : ∃ k2, entriesR l (m + 1) first ahead ⟨p, false⟩ k = (⟨q, true⟩, k2) := by
  rw [entriesR, if_neg (by simp), h, entriesR_bad]
  exact ⟨_, rfl⟩
/- The end. -/
theorem tail_no {l : List UInt8} {p : Nat} {k : Bk} (h : entriesR l (headR l).1 true [] (headR l).2.1 (headR l).2.2 = (⟨p, false⟩, k)) (h1 : l.length < p + 8 ∨ ¬ beV ((l.drop p).take 8) = fnv (l.take p)) : openM l = (none, p) := by
  unfold openM
  dsimp only
  rw [h]
  dsimp only
  by_cases h2 : l.length < p + 8
  · rw [number_none h2, need_bad, if_pos (.inl rfl)]
  · rw [number_some (p + 8) rfl h2]
    dsimp only
    rw [decide_eq_false (h1.resolve_left h2), Bool.or_false, need_no, if_pos (.inl rfl), Nat.add_sub_cancel]
theorem tail_yes {l : List UInt8} {p : Nat} {k : Bk} (h : entriesR l (headR l).1 true [] (headR l).2.1 (headR l).2.2 = (⟨p, false⟩, k)) (h1 : ¬ l.length < p + 8) (h2 : beV ((l.drop p).take 8) = fnv (l.take p)) : openM l = if p + 8 < l.length then (none, p + 8) else (some k, 0) := by
  unfold openM
  dsimp only
  rw [h]
  dsimp only
  rw [number_some (p + 8) rfl h1]
  dsimp only
  rw [decide_eq_true h2, Bool.or_true, need_true]
  dsimp only
  by_cases h3 : p + 8 < l.length
  · rw [if_pos (.inr h3), if_pos h3]
  · rw [if_neg (by simp [h3]), if_neg h3]
/- What is kept of a book's own entries. -/
theorem lasts_self : ∀ {m : Ents}, Once m → lasts m = m
  | [], _ => rfl
  | x :: r, h => by
    obtain ⟨h1, h2⟩ := List.pairwise_cons.1 h
    rw [lasts, if_neg (by
      rw [List.any_eq_true]
      rintro ⟨p, hp, he⟩
      exact h1 p hp (of_decide_eq_true he).symm), lasts_self h2]
theorem fold_rise : ∀ (r acc : Ents), Rise (acc ++ r) → r.foldl (fun o x => eins x o) acc = acc ++ r
  | [], acc, _ => by simp
  | x :: r, acc, h => by
    rw [List.foldl_cons, eins_last fun p hp => (List.pairwise_append.1 h).2.2 p hp x (List.mem_cons_self ..), fold_rise r (acc ++ [x]) (by simpa using h)]
    simp
theorem keptM_good {k : Bk} (hk : k.good) : keptM k.last k.ends = k.ends := by
  unfold keptM
  rw [lasts_self hk.ok.rise.once]
  have : live k.last k.ends = k.ends := List.filter_eq_self.2 fun p hp => decide_eq_true (hk.ends p hp).1
  rw [this, fold_rise k.ends [] (by simpa using hk.ok.rise)]
  rfl
end Go.Proofs.Ytcojlgkfkifhmaa
