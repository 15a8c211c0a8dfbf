/- Bits, numbers and words that are written are read as what was written; no program in sight. -/
import Derived.Test.YtjhpbljkpbdnnaaDoorInfT
namespace Infl
/- The writer: bytes and how many bits of the last one are free. -/
def wput (st : List UInt8 × Nat) (b : Nat) : List UInt8 × Nat :=
  if st.2 = 0 then (st.1 ++ [UInt8.ofNat (0 ||| b * 2 ^ 0)], 7) else (st.1.set (st.1.length - 1) (UInt8.ofNat ((st.1.getD (st.1.length - 1) 0).toNat ||| b * 2 ^ (8 - st.2))), st.2 - 1)
def wputs (st : List UInt8 × Nat) (bits : List Nat) : List UInt8 × Nat := bits.foldl wput st
theorem wputs_app (st : List UInt8 × Nat) (x y : List Nat) : wputs st (x ++ y) = wputs (wputs st x) y := List.foldl_append
/-- What is written holds those bits. -/
structure Wr (st : List UInt8 × Nat) (bits : List Nat) : Prop where
  len : 8 * st.1.length = bits.length + st.2
  fr : st.2 < 8
  bits : ∀ i, i < bits.length → bit st.1 i = bits.getD i 0
  last : st.2 ≠ 0 → (st.1.getD (st.1.length - 1) 0).toNat < 2 ^ (8 - st.2)
theorem wr_nil : Wr ([], 0) [] := ⟨rfl, by decide, fun i h => by simp at h, fun h => absurd rfl h⟩
theorem getD_snoc_lt {α : Type} {xs : List α} {x d : α} {i : Nat} (h : i < xs.length) : (xs ++ [x]).getD i d = xs.getD i d := by
  rw [List.getD_eq_getElem?_getD, List.getElem?_append_left h, ← List.getD_eq_getElem?_getD]
theorem getD_snoc_at {α : Type} {xs : List α} {x d : α} : (xs ++ [x]).getD xs.length d = x := by simp [List.getD]
theorem or_small {x b k : Nat} (hx : x < 2 ^ k) : x ||| b * 2 ^ k = b * 2 ^ k + x := by
  rw [Nat.or_comm, Nat.mul_comm, Nat.two_pow_add_eq_or_of_lt hx]
theorem wr_put {st : List UInt8 × Nat} {bits : List Nat} {b : Nat} (h : Wr st bits) (hb : b < 2) : Wr (wput st b) (bits ++ [b]) := by
  obtain ⟨out, fr⟩ := st
  obtain ⟨h1, h2, h3, h4⟩ := h
  simp only at h1 h2 h3 h4
  unfold wput
  by_cases hf : fr = 0
  · subst hf
    have hz : (0 ||| b * 2 ^ 0) = b := by simp
    have hbn : (UInt8.ofNat b).toNat = b := by simp; omega
    simp only [if_true]
    refine ⟨by simp; omega, by simp, fun i hi => ?_, fun _ => ?_⟩
    · simp only [List.length_append, List.length_cons, List.length_nil] at hi
      by_cases hi' : i < bits.length
      · rw [getD_snoc_lt hi', ← h3 i hi']
        unfold bit
        simp only
        rw [getD_snoc_lt (by omega)]
      · have e1 : i = bits.length := by omega
        subst e1
        rw [getD_snoc_at]
        unfold bit
        simp only
        rw [show bits.length / 8 = out.length by omega, show bits.length % 8 = 0 by omega, getD_snoc_at, hz, hbn]
        omega
    · simp only [List.length_append, List.length_cons, List.length_nil, Nat.add_sub_cancel]
      rw [getD_snoc_at, hz, hbn]
      omega
  · simp only [if_neg hf]
    have h5 := h4 hf
    obtain ⟨k, hk⟩ : ∃ k, 8 - fr = k := ⟨_, rfl⟩
    have hk1 : 1 ≤ k ∧ k ≤ 7 := by omega
    have hol : 0 < out.length := by omega
    rw [hk] at h5 ⊢
    generalize hx : (out.getD (out.length - 1) 0).toNat = x at h5
    have hp : b * 2 ^ k + x < 2 ^ (k + 1) := by
      rw [Nat.pow_succ]
      have : b * 2 ^ k ≤ 1 * 2 ^ k := Nat.mul_le_mul_right _ (by omega)
      omega
    have h256 : 2 ^ (k + 1) ≤ 2 ^ 8 := Nat.pow_le_pow_right (by omega) (by omega)
    have hbn : (UInt8.ofNat (b * 2 ^ k + x)).toNat = b * 2 ^ k + x := by simp; omega
    rw [or_small h5]
    have hsl : (out.set (out.length - 1) (UInt8.ofNat (b * 2 ^ k + x))).length = out.length := List.length_set
    have hat : (out.set (out.length - 1) (UInt8.ofNat (b * 2 ^ k + x))).getD (out.length - 1) 0 = UInt8.ofNat (b * 2 ^ k + x) := by
      rw [List.getD_eq_getElem?_getD, List.getElem?_set_self (by omega)]; rfl
    refine ⟨by simp only [hsl]; simp; omega, by simp only; omega, fun i hi => ?_, fun hne => ?_⟩
    · simp only [List.length_append, List.length_cons, List.length_nil] at hi
      by_cases hi' : i < bits.length
      · rw [getD_snoc_lt hi', ← h3 i hi']
        unfold bit
        simp only
        by_cases hl : i / 8 = out.length - 1
        · rw [hl, hat, hbn, hx]
          obtain ⟨d, hd⟩ : ∃ d, k = i % 8 + 1 + d := ⟨k - (i % 8 + 1), by omega⟩
          have e : b * 2 ^ k = 2 ^ (i % 8) * (2 * (b * 2 ^ d)) := by
            rw [hd, Nat.pow_add, Nat.pow_succ]
            simp only [Nat.mul_comm, Nat.mul_left_comm, Nat.mul_assoc]
          rw [e, Nat.mul_add_div (Nat.two_pow_pos _), Nat.mul_add_mod]
        · rw [List.getD_eq_getElem?_getD, List.getElem?_set_ne (by omega), ← List.getD_eq_getElem?_getD]
      · have e1 : i = bits.length := by omega
        subst e1
        rw [getD_snoc_at]
        unfold bit
        simp only
        rw [show bits.length / 8 = out.length - 1 by omega, show bits.length % 8 = k by omega, hat, hbn, Nat.mul_comm, Nat.mul_add_div (Nat.two_pow_pos _), Nat.div_eq_of_lt h5]
        omega
    · rw [hsl, hat, hbn]
      simp only at hne ⊢
      rw [show 8 - (fr - 1) = k + 1 by omega]
      exact hp
theorem wr_puts : ∀ {more : List Nat} {st : List UInt8 × Nat} {bits : List Nat}, Wr st bits → (∀ x ∈ more, x < 2) → Wr (wputs st more) (bits ++ more)
  | [], st, bits, h, _ => by simpa [wputs] using h
  | b :: more, st, bits, h, hm => by
    have h1 := wr_put h (hm b (List.mem_cons_self ..))
    have h2 := wr_puts h1 (fun x hx => hm x (List.mem_cons_of_mem _ hx))
    simpa [wputs] using h2
/- What stands at a place. -/
def At (b : List UInt8) (pos : Nat) (xs : List Nat) : Prop := pos + xs.length ≤ 8 * b.length ∧ ∀ i, i < xs.length → bit b (pos + i) = xs.getD i 0
theorem At.app {b : List UInt8} {pos : Nat} {x y : List Nat} (h : At b pos (x ++ y)) : At b pos x ∧ At b (pos + x.length) y := by
  obtain ⟨h1, h2⟩ := h
  rw [List.length_append] at h1
  refine ⟨⟨by omega, fun i hi => ?_⟩, ⟨by omega, fun i hi => ?_⟩⟩
  · rw [h2 i (by rw [List.length_append]; omega), List.getD_eq_getElem?_getD, List.getElem?_append_left hi, ← List.getD_eq_getElem?_getD]
  · rw [Nat.add_assoc, h2 (x.length + i) (by rw [List.length_append]; omega), List.getD_eq_getElem?_getD, List.getElem?_append_right (by omega), Nat.add_sub_cancel_left, ← List.getD_eq_getElem?_getD]
theorem Wr.at {st : List UInt8 × Nat} {bits : List Nat} (h : Wr st bits) : At st.1 0 bits := ⟨by have := h.len; omega, fun i hi => by rw [Nat.zero_add]; exact h.bits i hi⟩
def numB (n k : Nat) : List Nat := (List.range k).map fun i => n / 2 ^ i % 2
def wordB (n l : Nat) : List Nat := (List.range l).map fun i => n / 2 ^ (l - 1 - i) % 2
theorem numB_len (n k : Nat) : (numB n k).length = k := by simp [numB]
theorem wordB_len (n k : Nat) : (wordB n k).length = k := by simp [wordB]
theorem wordB_get {n l j : Nat} (h : j < l) : (wordB n l).getD j 0 = n / 2 ^ (l - 1 - j) % 2 := by simp [wordB, List.getD, h]
theorem numB_two {n k : Nat} : ∀ x ∈ numB n k, x < 2 := fun x hx => by
  simp only [numB, List.mem_map] at hx
  obtain ⟨i, _, rfl⟩ := hx
  exact Nat.mod_lt _ (by omega)
theorem wordB_two {n k : Nat} : ∀ x ∈ wordB n k, x < 2 := fun x hx => by
  simp only [wordB, List.mem_map] at hx
  obtain ⟨i, _, rfl⟩ := hx
  exact Nat.mod_lt _ (by omega)
theorem num_at {b : List UInt8} {pos n : Nat} {k : Nat} (h : ∀ i, i < k → bit b (pos + i) = n / 2 ^ i % 2) : num b pos k = n % 2 ^ k := by
  induction k with
  | zero => simp [num, Nat.mod_one]
  | succ k ih =>
    rw [num, ih (fun i hi => h i (by omega)), h k (by omega), Nat.mod_pow_succ]
theorem rd_num {b : List UInt8} {pos n k : Nat} (h : At b pos (numB n k)) (hn : n < 2 ^ k) : rdN b k pos = some (n, pos + k) := by
  obtain ⟨h1, h2⟩ := h
  rw [numB_len] at h1 h2
  unfold rdN
  rw [if_pos h1, num_at (n := n) (fun i hi => by rw [h2 i hi]; simp [numB, List.getD, hi]), Nat.mod_eq_of_lt hn]
/- Words. -/
def W (ls : List Nat) (s : Nat) : Nat := ((wordsR ls).getD s (0, 0)).1
theorem W_eq {ls : List Nat} {s : Nat} (hs : s < ls.length) (h1 : 1 ≤ ls.getD s 0) (h2 : ls.getD s 0 ≤ 15) : W ls s = 2 * G ls (ls.getD s 0 - 1) + (posN ls (ls.getD s 0) s).length := by
  rw [W, words_at hs, if_pos ⟨h1, h2⟩]
theorem pos_lt {ls : List Nat} {s : Nat} (hs : s < ls.length) : (posN ls (ls.getD s 0) s).length < cn ls (ls.getD s 0) := by
  have h := posN_at (ls := ls) (l := ls.getD s 0) ls.length s hs rfl
  exact (List.getElem?_eq_some_iff.1 h).1
theorem G_up (ls : List Nat) (L : Nat) : ∀ d, 2 ^ d * G ls L ≤ G ls (L + d)
  | 0 => by simp
  | d + 1 => by
    have h := G_up ls L d
    rw [← Nat.add_assoc, G, Nat.pow_succ]
    have : 2 ^ d * 2 * G ls L = 2 * (2 ^ d * G ls L) := by simp only [Nat.mul_comm, Nat.mul_left_comm, Nat.mul_assoc]
    omega
theorem G_KC (ls : List Nat) : ∀ L, L ≤ 15 → G ls L * 2 ^ (15 - L) = KC ls L
  | 0, _ => by simp [G, KC]
  | L + 1, h => by
    have ih := G_KC ls L (by omega)
    rw [KC, ← ih, G, cn_count, Nat.add_mul, show 15 - L = (15 - (L + 1)) + 1 by omega, Nat.pow_succ]
    congr 1
    simp only [Nat.mul_comm, Nat.mul_left_comm, Nat.mul_assoc]
theorem G_le {ls : List Nat} (hk : kraft ls ≤ 32768) (hl : ∀ l ∈ ls, l ≤ 15) {L : Nat} (h : L ≤ 15) : G ls L ≤ 2 ^ L := by
  have h1 := G_KC ls L h
  have h2 : KC ls L ≤ KC ls (L + (15 - L)) := KC_mono ls
  rw [show L + (15 - L) = 15 by omega, ← kraft_KC ls hl] at h2
  have h3 : 2 ^ L * 2 ^ (15 - L) = 32768 := by rw [← Nat.pow_add, show L + (15 - L) = 15 by omega]
  refine Nat.le_of_mul_le_mul_right (c := 2 ^ (15 - L)) ?_ (Nat.two_pow_pos _)
  omega
theorem W_lt {ls : List Nat} (hk : kraft ls ≤ 32768) (hl : ∀ l ∈ ls, l ≤ 15) {s : Nat} (hs : s < ls.length) (h1 : 1 ≤ ls.getD s 0) : W ls s < 2 ^ ls.getD s 0 := by
  have h2 : ls.getD s 0 ≤ 15 := by
    rw [List.getD_eq_getElem?_getD, List.getElem?_eq_getElem hs]
    exact hl _ (List.getElem_mem _)
  have h3 := pos_lt hs
  have h4 := G_le hk hl h2
  rw [W_eq hs h1 h2]
  obtain ⟨m, hm⟩ : ∃ m, ls.getD s 0 = m + 1 := ⟨ls.getD s 0 - 1, by omega⟩
  rw [hm] at h3 h4 ⊢
  rw [G] at h4
  simp only [Nat.add_sub_cancel]
  omega
theorem symL_word {ls : List Nat} {b : List UInt8} {s pos : Nat} (hs : s < ls.length) (h1 : 1 ≤ ls.getD s 0) (h2 : ls.getD s 0 ≤ 15) (hA : At b pos (wordB (W ls s) (ls.getD s 0))) :
    ∀ d j, j + d = ls.getD s 0 → 0 < d → symL (code ls).1 (code ls).2 b (15 - j) (W ls s / 2 ^ d) (G ls j) (sumTo ls j) (pos + j) = some (s, pos + ls.getD s 0)
  | 0, j, _, h0 => absurd h0 (by omega)
  | d + 1, j, hj, _ => by
    have hq := hA.2 j (by rw [wordB_len]; omega)
    have hb : bit b (pos + j) = W ls s / 2 ^ d % 2 := by
      rw [hq, wordB_get (by omega), show ls.getD s 0 - 1 - j = d by omega]
    have hlen := hA.1
    rw [wordB_len] at hlen
    obtain ⟨f, hf⟩ : ∃ f, 15 - j = f + 1 := ⟨14 - j, by omega⟩
    have hw : 2 * (W ls s / 2 ^ (d + 1)) + W ls s / 2 ^ d % 2 = W ls s / 2 ^ d := by
      rw [Nat.pow_succ, ← Nat.div_div_eq_div_mul]
      omega
    have hc : (code ls).1.getD (15 - f) 0 = cn ls (j + 1) := by
      rw [code_cnt, if_pos (by omega), show 15 - f = j + 1 by omega]
    have hp := pos_lt hs
    have hW := W_eq hs h1 h2
    rw [hf, symL, if_pos (by omega), hb, hw, hc]
    cases d with
    | zero =>
      have hj1 : j + 1 = ls.getD s 0 := by omega
      rw [Nat.pow_zero, Nat.div_one]
      rw [← hj1] at hp hW ⊢
      rw [Nat.add_sub_cancel] at hW
      rw [if_pos (by omega)]
      have hsy := syms_at (ls := ls) (l := j + 1) (r := (posN ls (j + 1) s).length) (by omega) (by omega) hp
      rw [Nat.add_sub_cancel] at hsy
      rw [show W ls s - 2 * G ls j = (posN ls (j + 1) s).length by omega, hsy]
      have hat := posN_at ls.length s hs hj1.symm
      rw [List.getD_eq_getElem?_getD, hat]
      simp only [Option.getD_some, Option.some.injEq, Prod.mk.injEq, true_and]
      omega
    | succ d =>
      have hge : G ls (j + 1) ≤ W ls s / 2 ^ (d + 1) := by
        rw [Nat.le_div_iff_mul_le (Nat.two_pow_pos _), hW]
        have hup := G_up ls (j + 1) d
        rw [show j + 1 + d = ls.getD s 0 - 1 by omega] at hup
        have e : G ls (j + 1) * 2 ^ (d + 1) = 2 * (2 ^ d * G ls (j + 1)) := by
          rw [Nat.pow_succ]
          simp only [Nat.mul_comm, Nat.mul_left_comm, Nat.mul_assoc]
        omega
      rw [G] at hge
      rw [if_neg (by omega)]
      have ih := symL_word hs h1 h2 hA (d + 1) (j + 1) (by omega) (by omega)
      rw [show 15 - (j + 1) = f by omega, G, sumTo] at ih
      exact ih
theorem sym_word {ls : List Nat} {b : List UInt8} {s pos : Nat} (hs : s < ls.length) (h1 : 1 ≤ ls.getD s 0) (h2 : ls.getD s 0 ≤ 15) (hW : W ls s < 2 ^ ls.getD s 0) (hA : At b pos (wordB (W ls s) (ls.getD s 0))) :
    sym (code ls).1 (code ls).2 b pos = some (s, pos + ls.getD s 0) := by
  have h := symL_word hs h1 h2 hA (ls.getD s 0) 0 (by omega) (by omega)
  rw [Nat.div_eq_of_lt hW] at h
  exact h
end Infl
