/- Codes in plain Lean: the words of lengths, by counts and one by one. -/
import Derived.Test.YtjhpbljkpbdnnaaDoorInfS
namespace Infl

/- The symbols of one length, in order. -/
def posN (ls : List Nat) (l k : Nat) : List Nat := (List.range' 0 k).filter fun s => ls.getD s 0 == l
theorem posN_succ (ls : List Nat) (l k : Nat) : posN ls l (k + 1) = if ls.getD k 0 = l then posN ls l k ++ [k] else posN ls l k := by
  unfold posN
  rw [List.range'_concat, List.filter_append, Nat.one_mul, Nat.zero_add, List.filter_cons, List.filter_nil]
  by_cases h : ls.getD k 0 = l
  · rw [if_pos h, if_pos (by simpa using h)]
  · rw [if_neg h, if_neg (by simpa using h), List.append_nil]
def cn (ls : List Nat) (l : Nat) : Nat := (posN ls l ls.length).length
theorem posN_at {ls : List Nat} {l : Nat} : ∀ (n s : Nat), s < n → ls.getD s 0 = l → (posN ls l n)[(posN ls l s).length]? = some s
  | 0, s, h, _ => by omega
  | n + 1, s, h, hl => by
    rw [posN_succ]
    by_cases hs : s = n
    · subst hs
      rw [if_pos hl, List.getElem?_append_right (Nat.le_refl _), Nat.sub_self]
      rfl
    · have ih := posN_at n s (by omega) hl
      split
      · rw [List.getElem?_append_left (List.getElem?_eq_some_iff.1 ih).1]
        exact ih
      · exact ih
theorem posN_get {ls : List Nat} {l : Nat} : ∀ (n r s : Nat), (posN ls l n)[r]? = some s → s < n ∧ ls.getD s 0 = l ∧ (posN ls l s).length = r
  | 0, r, s, h => by simp [posN] at h
  | n + 1, r, s, h => by
    rw [posN_succ] at h
    split at h
    · rename_i hl
      by_cases hr : r < (posN ls l n).length
      · rw [List.getElem?_append_left hr] at h
        obtain ⟨h1, h2, h3⟩ := posN_get n r s h
        exact ⟨by omega, h2, h3⟩
      · rw [List.getElem?_append_right (by omega)] at h
        have hr0 : r - (posN ls l n).length = 0 := by
          rcases Nat.eq_zero_or_pos (r - (posN ls l n).length) with h0 | h0
          · exact h0
          · rw [List.getElem?_eq_none (by simp; omega)] at h; cases h
        rw [hr0] at h
        simp only [List.getElem?_cons_zero, Option.some.injEq] at h
        subst h
        exact ⟨by omega, hl, by omega⟩
    · obtain ⟨h1, h2, h3⟩ := posN_get n r s h
      exact ⟨by omega, h2, h3⟩
theorem posN_mono {ls : List Nat} {l : Nat} {s n : Nat} (h : s ≤ n) : (posN ls l s).length ≤ (posN ls l n).length := by
  induction n with
  | zero => have : s = 0 := by omega
            subst this; exact Nat.le_refl _
  | succ n ih =>
    by_cases hs : s = n + 1
    · subst hs; exact Nat.le_refl _
    · have := ih (by omega)
      rw [posN_succ]
      split
      · simp; omega
      · exact this

/- Codes by counts. -/
theorem inner_steps {ls : List Nat} {l : Nat} {c sy : List Nat} (hl : l < c.length) : ∀ k, (List.range' 0 k).foldl (stp ls l) (c, sy) = (c.set l (c.getD l 0 + (posN ls l k).length), sy ++ posN ls l k)
  | 0 => by
    simp only [List.range'_zero, List.foldl_nil, posN, List.filter_nil, List.length_nil, Nat.add_zero, List.append_nil]
    rw [List.getD_eq_getElem?_getD, List.getElem?_eq_getElem hl, Option.getD_some, List.set_getElem_self]
  | k + 1 => by
    rw [fold_succ, inner_steps hl k, Nat.zero_add, posN_succ, stp]
    split
    · simp only [List.length_append, List.length_singleton, List.set_set, List.append_assoc]
      rw [List.getD_eq_getElem?_getD, List.getElem?_set_self hl]
      rfl
    · rfl
def symsTo (ls : List Nat) (L : Nat) : List Nat := (List.range' 1 L).flatMap fun l => posN ls l ls.length
theorem symsTo_succ (ls : List Nat) (L : Nat) : symsTo ls (L + 1) = symsTo ls L ++ posN ls (L + 1) ls.length := by
  unfold symsTo
  rw [List.range'_concat, List.flatMap_append]
  simp [Nat.add_comm]
theorem code_steps {ls : List Nat} : ∀ L, L ≤ 15 → ∃ c, (List.range' 1 L).foldl (inner ls) (List.replicate 16 0, []) = (c, symsTo ls L) ∧ c.length = 16 ∧ ∀ j, c.getD j 0 = if 1 ≤ j ∧ j ≤ L then cn ls j else 0
  | 0, _ => ⟨List.replicate 16 0, rfl, rfl, fun j => by
      rw [if_neg (by omega), List.getD_eq_getElem?_getD, List.getElem?_replicate]
      split <;> rfl⟩
  | L + 1, h => by
    obtain ⟨c, h1, h2, h3⟩ := code_steps (ls := ls) L (by omega)
    refine ⟨c.set (1 + L) (cn ls (1 + L)), ?_, by simpa using h2, fun j => ?_⟩
    · rw [fold_succ, h1, inner, inner_steps (by omega), symsTo_succ, h3 (1 + L), if_neg (by omega), Nat.zero_add, Nat.add_comm 1 L]
      rfl
    · rw [List.getD_eq_getElem?_getD, List.getElem?_set]
      by_cases hj : 1 + L = j
      · rw [if_pos hj, if_pos (by omega), if_pos (by omega), ← hj]
        rfl
      · rw [if_neg hj, ← List.getD_eq_getElem?_getD, h3 j]
        by_cases hj2 : 1 ≤ j ∧ j ≤ L
        · rw [if_pos hj2, if_pos (by omega)]
        · rw [if_neg hj2, if_neg (by omega)]
theorem code_syms (ls : List Nat) : (code ls).2 = symsTo ls 15 := by
  obtain ⟨c, h1, -, -⟩ := code_steps (ls := ls) 15 (Nat.le_refl _)
  rw [code, h1]
theorem code_cnt (ls : List Nat) (j : Nat) : (code ls).1.getD j 0 = if 1 ≤ j ∧ j ≤ 15 then cn ls j else 0 := by
  obtain ⟨c, h1, -, h3⟩ := code_steps (ls := ls) 15 (Nat.le_refl _)
  rw [code, h1]
  exact h3 j

/- Words one by one. -/
def G (ls : List Nat) : Nat → Nat
  | 0 => 0
  | l + 1 => 2 * G ls l + cn ls (l + 1)
theorem wIn_steps {ls : List Nat} {l x : Nat} {ws : List (Nat × Nat)} (hw : ws.length = ls.length) : ∀ k, k ≤ ls.length → ∃ ws', (List.range' 0 k).foldl (wIn ls l) (ws, x) = (ws', x + (posN ls l k).length) ∧ ws'.length = ls.length ∧
    ∀ s, ws'.getD s (0, 0) = if s < k ∧ ls.getD s 0 = l then (x + (posN ls l s).length, l) else ws.getD s (0, 0)
  | 0, _ => ⟨ws, rfl, hw, fun s => by rw [if_neg (by omega)]⟩
  | k + 1, h => by
    obtain ⟨ws', h1, h2, h3⟩ := wIn_steps hw k (by omega)
    rw [fold_succ, h1, Nat.zero_add, posN_succ, wIn]
    by_cases hk : ls.getD k 0 = l
    · rw [if_pos hk, if_pos hk]
      refine ⟨ws'.set k (x + (posN ls l k).length, l), by simp [Nat.add_assoc], by simpa using h2, fun s => ?_⟩
      rw [List.getD_eq_getElem?_getD, List.getElem?_set]
      by_cases hs : k = s
      · subst hs
        rw [if_pos rfl, if_pos (by omega), if_pos ⟨by omega, hk⟩]
        rfl
      · rw [if_neg hs, ← List.getD_eq_getElem?_getD, h3 s]
        by_cases hs2 : s < k ∧ ls.getD s 0 = l
        · rw [if_pos hs2, if_pos ⟨by omega, hs2.2⟩]
        · rw [if_neg hs2, if_neg (fun hh => hs2 ⟨by omega, hh.2⟩)]
    · rw [if_neg hk, if_neg hk]
      refine ⟨ws', rfl, h2, fun s => ?_⟩
      rw [h3 s]
      by_cases hs2 : s < k ∧ ls.getD s 0 = l
      · rw [if_pos hs2, if_pos ⟨by omega, hs2.2⟩]
      · rw [if_neg hs2, if_neg]
        rintro ⟨q1, q2⟩
        by_cases hs : s = k
        · subst hs; exact hk q2
        · exact hs2 ⟨by omega, q2⟩
theorem wOut_steps {ls : List Nat} : ∀ L, ∃ ws, (List.range' 1 L).foldl (wOut ls) (List.replicate ls.length (0, 0), 0) = (ws, G ls L) ∧ ws.length = ls.length ∧
    ∀ s, s < ls.length → ws.getD s (0, 0) = if 1 ≤ ls.getD s 0 ∧ ls.getD s 0 ≤ L then (2 * G ls (ls.getD s 0 - 1) + (posN ls (ls.getD s 0) s).length, ls.getD s 0) else (0, 0)
  | 0 => ⟨_, rfl, by simp, fun s hs => by
      rw [if_neg (by omega), List.getD_eq_getElem?_getD, List.getElem?_replicate, if_pos hs]
      rfl⟩
  | L + 1 => by
    obtain ⟨ws, h1, h2, h3⟩ := wOut_steps (ls := ls) L
    obtain ⟨ws', g1, g2, g3⟩ := wIn_steps (l := 1 + L) (x := 2 * G ls L) h2 ls.length (Nat.le_refl _)
    refine ⟨ws', ?_, g2, fun s hs => ?_⟩
    · rw [fold_succ, h1, wOut, g1, G, Nat.add_comm 1 L]
      rfl
    · rw [g3 s]
      by_cases hl : ls.getD s 0 = 1 + L
      · rw [if_pos ⟨hs, hl⟩, if_pos (by omega), hl, Nat.add_sub_cancel_left]
      · rw [if_neg (fun h => hl h.2), h3 s hs]
        by_cases h4 : 1 ≤ ls.getD s 0 ∧ ls.getD s 0 ≤ L
        · rw [if_pos h4, if_pos (by omega)]
        · rw [if_neg h4, if_neg (by omega)]
theorem words_at {ls : List Nat} {s : Nat} (hs : s < ls.length) : (wordsR ls).getD s (0, 0) = if 1 ≤ ls.getD s 0 ∧ ls.getD s 0 ≤ 15 then (2 * G ls (ls.getD s 0 - 1) + (posN ls (ls.getD s 0) s).length, ls.getD s 0) else (0, 0) := by
  obtain ⟨ws, h1, -, h3⟩ := wOut_steps (ls := ls) 15
  rw [wordsR, h1]
  exact h3 s hs

/- The word that is sought. -/
theorem fW_first {l b : Nat} : ∀ {ws : List (Nat × Nat)} {s i : Nat}, s < ws.length → ws.getD s (0, 0) = (b, l) → (∀ t, t < s → ws.getD t (0, 0) ≠ (b, l)) → fW l b ws i = some (i + s)
  | [], s, i, h, _, _ => by simp at h
  | w :: r, 0, i, _, h, _ => by
    have : w = (b, l) := h
    rw [fW, this, if_pos ⟨rfl, rfl⟩]
    rfl
  | w :: r, s + 1, i, hl, h, hf => by
    have h0 : w ≠ (b, l) := hf 0 (by omega)
    rw [fW, if_neg (fun hh => h0 (Prod.ext hh.2 hh.1)), fW_first (by simpa using hl) (by simpa using h) (fun t ht => by simpa using hf (t + 1) (by omega))]
    congr 1
    omega
theorem fW_none {l b : Nat} : ∀ {ws : List (Nat × Nat)} {i : Nat}, (∀ t, t < ws.length → ws.getD t (0, 0) ≠ (b, l)) → fW l b ws i = none
  | [], i, _ => rfl
  | w :: r, i, hf => by
    have h0 : w ≠ (b, l) := hf 0 (by simp)
    rw [fW, if_neg (fun hh => h0 (Prod.ext hh.2 hh.1)), fW_none (fun t ht => by simpa using hf (t + 1) (by simpa using ht))]
theorem fW_words {ls : List Nat} {l b : Nat} (h1 : 1 ≤ l) (h2 : l ≤ 15) (hb : 2 * G ls (l - 1) ≤ b) : fW l b (wordsR ls) 0 = if b < 2 * G ls (l - 1) + cn ls l then some ((posN ls l ls.length).getD (b - 2 * G ls (l - 1)) 0) else none := by
  split
  · rename_i hlt
    have hr : b - 2 * G ls (l - 1) < (posN ls l ls.length).length := by unfold cn at hlt; omega
    obtain ⟨s, hs⟩ : ∃ s, (posN ls l ls.length)[b - 2 * G ls (l - 1)]? = some s := ⟨_, List.getElem?_eq_getElem hr⟩
    obtain ⟨g1, g2, g3⟩ := posN_get _ _ _ hs
    have hsw : (wordsR ls).getD s (0, 0) = (b, l) := by
      rw [words_at g1, g2, if_pos ⟨h1, h2⟩, g3]
      congr 1
      omega
    have := fW_first (i := 0) (by rw [wordsR_len]; exact g1) hsw (fun t ht he => by
      rw [words_at (by omega)] at he
      split at he
      · simp only [Prod.mk.injEq] at he
        obtain ⟨q1, q2⟩ := he
        rw [q2] at q1
        have := posN_at s t ht q2
        have := (List.getElem?_eq_some_iff.1 this).1
        omega
      · simp only [Prod.mk.injEq] at he
        omega)
    rw [this, Nat.zero_add, List.getD_eq_getElem?_getD, hs]
    rfl
  · rename_i hge
    refine fW_none fun t ht he => ?_
    rw [wordsR_len] at ht
    rw [words_at ht] at he
    split at he
    · simp only [Prod.mk.injEq] at he
      obtain ⟨q1, q2⟩ := he
      rw [q2] at q1
      have := posN_at ls.length t ht q2
      have := (List.getElem?_eq_some_iff.1 this).1
      unfold cn at hge
      omega
    · simp only [Prod.mk.injEq] at he
      omega
def sumTo (ls : List Nat) : Nat → Nat
  | 0 => 0
  | l + 1 => sumTo ls l + cn ls (l + 1)
theorem symsTo_len (ls : List Nat) : ∀ L, (symsTo ls L).length = sumTo ls L
  | 0 => rfl
  | L + 1 => by rw [symsTo_succ, List.length_append, symsTo_len ls L, sumTo, cn]
theorem symsTo_pre (ls : List Nat) (L : Nat) : ∀ d, ∃ r, symsTo ls (L + d) = symsTo ls L ++ r
  | 0 => ⟨[], by simp⟩
  | d + 1 => by
    obtain ⟨r, h⟩ := symsTo_pre ls L d
    exact ⟨r ++ posN ls (L + d + 1) ls.length, by rw [← Nat.add_assoc, symsTo_succ, h, List.append_assoc]⟩
theorem syms_at {ls : List Nat} {l r : Nat} (h1 : 1 ≤ l) (h2 : l ≤ 15) (hr : r < cn ls l) : (code ls).2.getD (sumTo ls (l - 1) + r) 0 = (posN ls l ls.length).getD r 0 := by
  obtain ⟨k, rfl⟩ : ∃ k, l = k + 1 := ⟨l - 1, by omega⟩
  obtain ⟨q, hq⟩ := symsTo_pre ls (k + 1) (15 - (k + 1))
  rw [show k + 1 + (15 - (k + 1)) = 15 by omega] at hq
  rw [code_syms, hq, symsTo_succ, Nat.add_sub_cancel, ← symsTo_len]
  unfold cn at hr
  rw [List.getD_eq_getElem?_getD, List.getD_eq_getElem?_getD, List.append_assoc, List.getElem?_append_right (by omega), Nat.add_sub_cancel_left, List.getElem?_append_left hr]
theorem rsymL_eq {ls : List Nat} {bs : List UInt8} : ∀ (f word pos : Nat), f ≤ 15 → G ls (15 - f) ≤ word → rsymL (wordsR ls) bs f word pos = symL (code ls).1 (code ls).2 bs f word (G ls (15 - f)) (sumTo ls (15 - f)) pos
  | 0, _, _, _, _ => rfl
  | f + 1, word, pos, hf, hw => by
    have e1 : 15 - f = (15 - (f + 1)) + 1 := by omega
    rw [rsymL, symL]
    have hc : (code ls).1.getD (15 - f) 0 = cn ls (15 - f) := by rw [code_cnt, if_pos (by omega)]
    have hG : G ls (15 - f) = 2 * G ls (15 - (f + 1)) + cn ls (15 - f) := by
      rw [e1, G]
    have hS : sumTo ls (15 - f) = sumTo ls (15 - (f + 1)) + cn ls (15 - f) := by
      rw [e1, sumTo]
    have e2 : 15 - f - 1 = 15 - (f + 1) := by omega
    have hfw := fW_words (ls := ls) (l := 15 - f) (b := 2 * word + bit bs pos) (by omega) (by omega) (by rw [e2]; omega)
    rw [e2] at hfw
    rw [hc, hfw]
    by_cases hp : pos + 1 ≤ 8 * bs.length
    · rw [if_pos hp, if_pos hp]
      by_cases hlt : 2 * word + bit bs pos < 2 * G ls (15 - (f + 1)) + cn ls (15 - f)
      · rw [if_pos hlt, if_pos hlt]
        have := syms_at (ls := ls) (l := 15 - f) (r := 2 * word + bit bs pos - 2 * G ls (15 - (f + 1))) (by omega) (by omega) (by omega)
        rw [e2] at this
        simp only
        rw [this]
      · rw [if_neg hlt, if_neg hlt]
        simp only
        rw [rsymL_eq f _ _ (by omega) (by omega), hG, hS]
    · rw [if_neg hp, if_neg hp]
/-- Both ways give the same symbol. -/
theorem rsym_eq (ls : List Nat) (bs : List UInt8) (pos : Nat) : rsym (wordsR ls) bs pos = sym (code ls).1 (code ls).2 bs pos := rsymL_eq 15 0 pos (Nat.le_refl _) (Nat.le_refl _)

/- Kinds of lengths. -/
theorem posN_count (ls : List Nat) (l : Nat) : ∀ n, n ≤ ls.length → (posN ls l n).length = (ls.take n).count l
  | 0, _ => by simp [posN]
  | n + 1, h => by
    rw [posN_succ, take_snoc (d := 0) (by omega), List.count_append, ← posN_count ls l n (by omega)]
    by_cases hl : ls.getD n 0 = l
    · rw [if_pos hl, hl]
      simp
    · rw [if_neg hl, List.count_singleton, if_neg (by simpa using hl)]
      rfl
theorem cn_count (ls : List Nat) (l : Nat) : cn ls l = ls.count l := by rw [cn, posN_count ls l _ (Nat.le_refl _), List.take_length]
def KC (ls : List Nat) : Nat → Nat
  | 0 => 0
  | L + 1 => KC ls L + ls.count (L + 1) * 2 ^ (15 - (L + 1))
theorem KC_cons (l : Nat) (r : List Nat) : ∀ L, KC (l :: r) L = KC r L + if 1 ≤ l ∧ l ≤ L then 2 ^ (15 - l) else 0
  | 0 => by
    have a1 : ¬ (1 ≤ l ∧ l ≤ 0) := by omega
    rw [if_neg a1]
    rfl
  | L + 1 => by
    rw [KC, KC, KC_cons l r L, List.count_cons]
    by_cases hl : l = L + 1
    · subst hl
      have a1 : ¬ (1 ≤ L + 1 ∧ L + 1 ≤ L) := by omega
      have a2 : 1 ≤ L + 1 ∧ L + 1 ≤ L + 1 := by omega
      simp only [if_neg a1, if_pos a2, beq_self_eq_true, if_true, Nat.add_mul, Nat.one_mul]
      omega
    · have a0 : (l == L + 1) = false := by simpa using hl
      simp only [a0, Bool.false_eq_true, if_false, Nat.add_zero]
      by_cases h2 : 1 ≤ l ∧ l ≤ L
      · have a2 : 1 ≤ l ∧ l ≤ L + 1 := by omega
        rw [if_pos h2, if_pos a2]
        omega
      · have a2 : ¬ (1 ≤ l ∧ l ≤ L + 1) := by omega
        rw [if_neg h2, if_neg a2]
        omega
theorem kraft_KC : ∀ (ls : List Nat), (∀ l ∈ ls, l ≤ 15) → kraft ls = KC ls 15
  | [], _ => rfl
  | l :: r, h => by
    have ih := kraft_KC r (fun x hx => h x (List.mem_cons_of_mem _ hx))
    have hl := h l (List.mem_cons_self ..)
    rw [KC_cons, ← ih]
    simp only [kraft, List.map_cons, List.sum_cons, kraftT]
    by_cases h0 : 0 < l
    · rw [if_pos h0, if_pos (by omega), Nat.add_comm]
    · rw [if_neg h0, if_neg (by omega), Nat.add_comm]
theorem KC_mono (ls : List Nat) : ∀ {L d : Nat}, KC ls L ≤ KC ls (L + d)
  | L, 0 => Nat.le_refl _
  | L, d + 1 => by
    have := KC_mono ls (L := L) (d := d)
    rw [← Nat.add_assoc, KC]
    omega
theorem leftL_KC {ls : List Nat} : ∀ (d L : Nat) (x : Int), L + d = 15 → 0 ≤ x → x * ((2 ^ d : Nat) : Int) = 32768 - (KC ls L : Int) → leftL ((List.range' (L + 1) d).map (cn ls)) x = if KC ls 15 ≤ 32768 then some (32768 - (KC ls 15 : Int)) else none
  | 0, L, x, hL, hx, h => by
    have : L = 15 := by omega
    subst this
    rw [Nat.pow_zero] at h
    simp only [List.range'_zero, List.map_nil, leftL]
    rw [if_pos (by omega)]
    congr 1
    omega
  | d + 1, L, x, hL, hx, h => by
    have hk : KC ls (L + 1) = KC ls L + cn ls (L + 1) * 2 ^ d := by rw [KC, cn_count, show 15 - (L + 1) = d by omega]
    have hm := KC_mono ls (L := L + 1) (d := d)
    rw [show L + 1 + d = 15 by omega] at hm
    have h2 : (2 * x - cn ls (L + 1)) * ((2 ^ d : Nat) : Int) = 32768 - (KC ls (L + 1) : Int) := by
      rw [hk, Int.sub_mul]
      rw [Nat.pow_succ] at h
      push_cast at h ⊢
      have : 2 * x * 2 ^ d = x * (2 ^ d * 2) := by rw [Int.mul_comm 2 x, Int.mul_assoc, Int.mul_comm 2 (2 ^ d)]
      omega
    rw [List.range'_succ, List.map_cons, leftL]
    have hp : (0 : Int) < ((2 ^ d : Nat) : Int) := by exact_mod_cast Nat.two_pow_pos d
    by_cases hneg : 2 * x - (cn ls (L + 1) : Int) < 0
    · rw [if_pos hneg, if_neg]
      have := Int.mul_neg_of_neg_of_pos hneg hp
      omega
    · rw [if_neg hneg]
      exact leftL_KC d (L + 1) _ (by omega) (by omega) h2
theorem code_drop (ls : List Nat) : (code ls).1.drop 1 = (List.range' 1 15).map (cn ls) := by
  have hl := (code_mk ls).len
  refine List.ext_getElem (by simp [hl]) fun j h1 h2 => ?_
  simp only [List.length_map, List.length_range'] at h2
  have := code_cnt ls (1 + j)
  rw [List.getD_eq_getElem?_getD, List.getElem?_eq_getElem (by omega), Option.getD_some, if_pos (by omega)] at this
  simp only [List.getElem_drop, List.getElem_map, List.getElem_range', Nat.one_mul]
  exact this
def nz (ls : List Nat) : List Nat := ls.filter fun l => 0 < l
theorem cntR_nz (ls : List Nat) : ∀ st, ls.foldl cntS st = (st.1 + (nz ls).length, (nz ls).getLastD st.2) := by
  induction ls with
  | nil => intro st; rfl
  | cons l r ih =>
    intro st
    rw [List.foldl_cons, ih, cntS]
    by_cases h : 0 < l
    · rw [if_pos h]
      have : nz (l :: r) = l :: nz r := by simp [nz, h]
      rw [this]
      simp only [List.length_cons, List.getLastD_cons]
      congr 1
      omega
    · rw [if_neg h]
      have : nz (l :: r) = nz r := by simp [nz, h]
      rw [this]
def SC (ls : List Nat) : Nat → Nat
  | 0 => 0
  | L + 1 => SC ls L + ls.count (L + 1)
theorem SC_cons (l : Nat) (r : List Nat) : ∀ L, SC (l :: r) L = SC r L + if 1 ≤ l ∧ l ≤ L then 1 else 0
  | 0 => by
    have a1 : ¬ (1 ≤ l ∧ l ≤ 0) := by omega
    rw [if_neg a1]
    rfl
  | L + 1 => by
    rw [SC, SC, SC_cons l r L, List.count_cons]
    by_cases hl : l = L + 1
    · subst hl
      have a1 : ¬ (1 ≤ L + 1 ∧ L + 1 ≤ L) := by omega
      have a2 : 1 ≤ L + 1 ∧ L + 1 ≤ L + 1 := by omega
      simp only [if_neg a1, if_pos a2, beq_self_eq_true, if_true]
      omega
    · have a0 : (l == L + 1) = false := by simpa using hl
      simp only [a0, Bool.false_eq_true, if_false, Nat.add_zero]
      by_cases h2 : 1 ≤ l ∧ l ≤ L
      · have a2 : 1 ≤ l ∧ l ≤ L + 1 := by omega
        rw [if_pos h2, if_pos a2]
        omega
      · have a2 : ¬ (1 ≤ l ∧ l ≤ L + 1) := by omega
        rw [if_neg h2, if_neg a2]
        omega
theorem SC_nz : ∀ (ls : List Nat), (∀ l ∈ ls, l ≤ 15) → SC ls 15 = (nz ls).length
  | [], _ => rfl
  | l :: r, h => by
    have ih := SC_nz r (fun x hx => h x (List.mem_cons_of_mem _ hx))
    have hl := h l (List.mem_cons_self ..)
    rw [SC_cons, ih]
    by_cases h0 : 0 < l
    · rw [if_pos (by omega), show nz (l :: r) = l :: nz r by simp [nz, h0]]
      rfl
    · rw [if_neg (by omega), show nz (l :: r) = nz r by simp [nz, h0]]
      rfl
theorem sumTo_SC (ls : List Nat) : ∀ L, sumTo ls L = SC ls L
  | 0 => rfl
  | L + 1 => by rw [sumTo, SC, sumTo_SC ls L, cn_count]
theorem kind_eq {ls : List Nat} (h : ∀ l ∈ ls, l ≤ 15) : kind ls = if kraft ls ≤ 32768 then if kraft ls = 32768 then 3 else if (nz ls).length = 0 then 1 else if (nz ls).length = 1 ∧ ls.count 1 = 1 then 2 else 0 else 0 := by
  have hk := kraft_KC ls h
  have hl := leftL_KC (ls := ls) 15 0 1 rfl (by omega) (by simp [KC])
  have hs : (code ls).2.length = (nz ls).length := by rw [code_syms, symsTo_len, sumTo_SC, SC_nz ls h]
  have h1 : (code ls).1.getD 1 0 = ls.count 1 := by rw [code_cnt, if_pos (by omega), cn_count]
  unfold kind kindC
  rw [code_drop, hl, ← hk, hs, h1]
  by_cases hle : kraft ls ≤ 32768
  · rw [if_pos hle, if_pos hle]
    simp only
    by_cases he : kraft ls = 32768
    · rw [if_pos he, if_pos (by omega)]
    · rw [if_neg he, if_neg (by omega)]
  · rw [if_neg hle, if_neg hle]
theorem kind_full {ls : List Nat} (h : ∀ l ∈ ls, l ≤ 15) : kind ls = 3 ↔ kraft ls = 32768 := by
  rw [kind_eq h]
  constructor
  · intro hk
    repeat' split at hk
    all_goals first | assumption | omega
  · intro hk
    rw [if_pos (by omega), if_pos hk]
theorem nz_one {ls : List Nat} : (nz ls).length = 1 ∧ ls.count 1 = 1 ↔ nz ls = [1] := by
  have hc : ls.count 1 = (nz ls).count 1 := by rw [nz, List.count_filter (by simp)]
  rw [hc]
  constructor
  · rintro ⟨h1, h2⟩
    match hn : nz ls, h1, h2 with
    | [x], _, h2 =>
      by_cases hx : x = 1
      · rw [hx]
      · rw [List.count_singleton] at h2
        simp [hx] at h2
  · intro h
    rw [h]
    exact ⟨rfl, rfl⟩
theorem kraft_nz : ∀ ls : List Nat, kraft ls = kraft (nz ls)
  | [] => rfl
  | l :: r => by
    have ih := kraft_nz r
    by_cases h0 : 0 < l
    · rw [show nz (l :: r) = l :: nz r by simp [nz, h0]]
      simp only [kraft, List.map_cons, List.sum_cons] at ih ⊢
      omega
    · rw [show nz (l :: r) = nz r by simp [nz, h0], ← ih]
      have : kraftT l = 0 := by rw [kraftT, if_neg h0]
      simp [kraft, this]
theorem kind_one {ls : List Nat} (h : ∀ l ∈ ls, l ≤ 15) : kind ls = 2 ↔ cntR ls = (1, 1) := by
  rw [kind_eq h, cntR, cntR_nz, Nat.zero_add]
  have hn := nz_one (ls := ls)
  constructor
  · intro hk
    repeat' split at hk
    all_goals first | omega | (rename_i q; rw [hn.1 q]; rfl)
  · intro hk
    simp only [Prod.mk.injEq] at hk
    obtain ⟨h1, h2⟩ := hk
    have h3 : nz ls = [1] := by
      match hnz : nz ls, h1, h2 with
      | [x], _, h2 => rw [show x = 1 from h2]
    have hkr : kraft ls = 16384 := by rw [kraft_nz, h3]; rfl
    rw [if_pos (by omega), if_neg (by omega), if_neg (by omega), if_pos (hn.2 h3)]
theorem kind_none {ls : List Nat} (h : ∀ l ∈ ls, l ≤ 15) : kind ls = 1 ↔ (cntR ls).1 = 0 := by
  rw [kind_eq h, cntR, cntR_nz, Nat.zero_add]
  constructor
  · intro hk
    repeat' split at hk
    all_goals first | omega | assumption
  · intro hk
    simp only at hk
    have h3 : nz ls = [] := List.eq_nil_of_length_eq_zero hk
    have hkr : kraft ls = 0 := by rw [kraft_nz, h3]; rfl
    rw [if_pos (by omega), if_neg (by omega), if_pos hk]

/- Dynamic blocks, the lengths apart. -/
def lenE (l : Nat) : Except Nat (Nat × List Nat) → Except Nat (Nat × Nat × List Nat)
  | .error k => .error k
  | .ok (p, lens) => .ok (p, l, lens)
def lenS (b : List UInt8) (l d : Nat) : Option (List Nat × Nat) → Except Nat (Nat × Nat × List Nat)
  | none => .error 240
  | some (sh, p) => if kraft sh = 32768 then lenE l (lensL b sh (l + d) (l + d + 1) p []) else .error 240
def lenM (b : List UInt8) (pos : Nat) : Except Nat (Nat × Nat × List Nat) := match headD b pos with
  | none => .error 240
  | some (l, d, k, p) => if 286 < l ∨ 30 < d then .error 240 else lenS b l d (shortL b (ordL.take k) p (List.replicate 19 0))
def dynK : Except Nat (Nat × Nat × List Nat) → Except Nat (Nat × List Nat × List Nat)
  | .error k => .error k
  | .ok (p, l, lens) => if lens.getD 256 0 = 0 then .error 240 else if kind (lens.take l) ∈ [3, 2] then if kind (lens.drop l) ∈ [3, 2, 1] then .ok (p, lens.take l, lens.drop l) else .error 240 else .error 240
theorem shortL_le15 {b : List UInt8} : ∀ {l : List Nat} {pos : Nat} {sh : List Nat} {r : List Nat × Nat}, shortL b l pos sh = some r → (∀ x ∈ sh, x ≤ 15) → ∀ x ∈ r.1, x ≤ 15
  | [], pos, sh, r, h, hs => by
    simp only [shortL, Option.some.injEq] at h
    subst h
    exact hs
  | o :: l, pos, sh, r, h, hs => by
    rw [shortL] at h
    split at h
    · cases h
    · rename_i v p hr
      have := rdN_le hr
      refine shortL_le15 h fun x hx => ?_
      rcases List.mem_or_eq_of_mem_set hx with hx | rfl
      · exact hs x hx
      · omega
theorem dyn_lenM (b : List UInt8) (pos : Nat) : dyn b pos = dynK (lenM b pos) := by
  unfold dyn lenM
  cases headD b pos with
  | none => rfl
  | some r =>
    obtain ⟨l, d, k, p⟩ := r
    simp only
    by_cases h : 286 < l ∨ 30 < d
    · rw [if_pos h, if_pos h]
      rfl
    · rw [if_neg h, if_neg h]
      cases hs : shortL b (ordL.take k) p (List.replicate 19 0) with
      | none => rfl
      | some r =>
        obtain ⟨sh, q⟩ := r
        have h15 := shortL_le15 hs (fun x hx => by rw [List.mem_replicate] at hx; omega)
        simp only [dynS, lenS, List.mem_singleton]
        by_cases hk : kraft sh = 32768
        · rw [if_pos hk, if_pos ((kind_full h15).2 hk)]
          cases lensL b sh (l + d) (l + d + 1) q [] with
          | error e => rfl
          | ok r => rfl
        · rw [if_neg hk, if_neg (fun h => hk ((kind_full h15).1 h))]
          rfl
/-- What the lengths are, or a fault. -/
theorem lensL_ok {b : List UInt8} {sh : List Nat} {tot : Nat} (hsh : sh.length = 19) : ∀ (f pos : Nat) (lens : List Nat), lens.length ≤ tot → tot < f + lens.length → (∀ x ∈ lens, x ≤ 15) →
    lensL b sh tot f pos lens = .error 240 ∨ ∃ p lens', lensL b sh tot f pos lens = .ok (p, lens') ∧ lens'.length = tot ∧ ∀ x ∈ lens', x ≤ 15
  | 0, pos, lens, h1, h2, _ => by omega
  | f + 1, pos, lens, h1, h2, h3 => by
    rw [lensL]
    by_cases hlt : lens.length < tot
    · rw [if_pos hlt]
      cases hs : sym (code sh).1 (code sh).2 b pos with
      | none => exact .inl rfl
      | some r =>
        obtain ⟨s, p⟩ := r
        have hsl := (code_sym_lt (by omega) hs).1
        simp only
        cases hr : rep b s p lens with
        | none => exact .inl rfl
        | some r =>
          obtain ⟨s', n, q⟩ := r
          simp only
          by_cases hn : tot - lens.length < n
          · rw [if_pos hn]
            exact .inl rfl
          · rw [if_neg hn]
            have hs' : s' ≤ 15 ∧ 1 ≤ n := by
              unfold rep at hr
              split at hr
              · split at hr
                · cases hr
                · split at hr
                  · simp only [Option.some.injEq, Prod.mk.injEq] at hr
                    obtain ⟨rfl, rfl, -⟩ := hr
                    refine ⟨?_, by omega⟩
                    rw [List.getD_eq_getElem?_getD, List.getElem?_eq_getElem (by omega)]
                    exact h3 _ (List.getElem_mem _)
                  · cases hr
              · split at hr
                · split at hr
                  · simp only [Option.some.injEq, Prod.mk.injEq] at hr
                    omega
                  · cases hr
                · split at hr
                  · split at hr
                    · simp only [Option.some.injEq, Prod.mk.injEq] at hr
                      omega
                    · cases hr
                  · simp only [Option.some.injEq, Prod.mk.injEq] at hr
                    omega
            refine lensL_ok hsh f q _ (by simp; omega) (by simp; omega) fun x hx => ?_
            rcases List.mem_append.1 hx with hx | hx
            · exact h3 x hx
            · rw [List.mem_replicate] at hx
              omega
    · rw [if_neg hlt]
      exact .inr ⟨pos, lens, rfl, by omega, h3⟩
def lensK (b : List UInt8) (sh : List Nat) (tot f : Nat) (lens : List Nat) : Option (Nat × Nat × Nat) → Except Nat (Nat × List Nat)
  | none => .error 240
  | some (s', n, q) => if tot - lens.length < n then .error 240 else lensL b sh tot f q (lens ++ List.replicate n s')
theorem lensL_step {b : List UInt8} {sh : List Nat} {tot f pos s p : Nat} {lens : List Nat} (h : lens.length < tot) (hs : sym (code sh).1 (code sh).2 b pos = some (s, p)) : lensL b sh tot (f + 1) pos lens = lensK b sh tot f lens (rep b s p lens) := by
  rw [lensL, if_pos h, hs]
  simp only
  cases rep b s p lens with
  | none => rfl
  | some r => rfl
theorem lensL_end {b : List UInt8} {sh : List Nat} {tot f pos : Nat} {lens : List Nat} (h : ¬ lens.length < tot) (hf : 0 < f) : lensL b sh tot f pos lens = .ok (pos, lens) := by
  cases f with
  | zero => omega
  | succ f => rw [lensL, if_neg h]
theorem lensL_none {b : List UInt8} {sh : List Nat} {tot f pos : Nat} {lens : List Nat} (h : lens.length < tot) (hs : sym (code sh).1 (code sh).2 b pos = none) : lensL b sh tot (f + 1) pos lens = .error 240 := by
  rw [lensL, if_pos h, hs]
end Infl
