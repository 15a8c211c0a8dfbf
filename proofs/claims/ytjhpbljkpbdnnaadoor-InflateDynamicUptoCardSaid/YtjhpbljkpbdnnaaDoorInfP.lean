/- DEFLATE in plain Lean: bits, codes by counts, symbols. No program in sight. -/
namespace Infl

/- Bits. -/
def bit (b : List UInt8) (i : Nat) : Nat := (b.getD (i / 8) 0).toNat / 2 ^ (i % 8) % 2
def num (b : List UInt8) (pos : Nat) : Nat → Nat
  | 0 => 0
  | k + 1 => num b pos k + 2 ^ k * bit b (pos + k)
theorem bit_lt (b : List UInt8) (i : Nat) : bit b i < 2 := Nat.mod_lt _ (by omega)
theorem num_lt (b : List UInt8) (pos : Nat) : ∀ k, num b pos k < 2 ^ k
  | 0 => by simp [num]
  | k + 1 => by
    have h1 := num_lt b pos k
    have h2 := bit_lt b (pos + k)
    have h3 : 2 ^ k * bit b (pos + k) ≤ 2 ^ k * 1 := Nat.mul_le_mul_left _ (by omega)
    simp only [num, Nat.pow_succ]
    omega
theorem num_add (b : List UInt8) (pos j : Nat) : ∀ k, num b pos (j + k) = num b pos j + 2 ^ j * num b (pos + j) k
  | 0 => by simp [num]
  | k + 1 => by
    have h := num_add b pos j k
    rw [← Nat.add_assoc]
    simp only [num, h, Nat.mul_add, Nat.pow_add]
    rw [Nat.add_assoc, Nat.add_assoc pos j k, Nat.mul_assoc]
theorem num_mod (b : List UInt8) (pos : Nat) {k n : Nat} (h : k ≤ n) : num b pos n % 2 ^ k = num b pos k := by
  obtain ⟨j, rfl⟩ := Nat.exists_eq_add_of_le h
  rw [num_add, Nat.add_mul_mod_self_left, Nat.mod_eq_of_lt (num_lt b pos k)]
theorem num_div (b : List UInt8) (pos : Nat) {k n : Nat} (h : k ≤ n) : num b pos n / 2 ^ k = num b (pos + k) (n - k) := by
  obtain ⟨j, rfl⟩ := Nat.exists_eq_add_of_le h
  rw [num_add, Nat.add_mul_div_left _ _ (Nat.two_pow_pos k), Nat.div_eq_of_lt (num_lt b pos k), Nat.add_sub_cancel_left, Nat.zero_add]
theorem num_byte (b : List UInt8) (a : Nat) : num b (8 * a) 8 = (b.getD a 0).toNat := by
  have e : ∀ j, j < 8 → bit b (8 * a + j) = (b.getD a 0).toNat / 2 ^ j % 2 := fun j hj => by
    have h1 : (8 * a + j) / 8 = a := by omega
    have h2 : (8 * a + j) % 8 = j := by omega
    simp only [bit, h1, h2]
  have h8 : (b.getD a 0).toNat < 256 := (b.getD a 0).toNat_lt
  simp only [num]
  rw [e 0 (by omega), e 1 (by omega), e 2 (by omega), e 3 (by omega), e 4 (by omega), e 5 (by omega), e 6 (by omega), e 7 (by omega)]
  generalize (b.getD a 0).toNat = x at h8
  omega
theorem num_one (b : List UInt8) (pos : Nat) : num b pos 1 = bit b pos := by simp [num]

/-- A number of k bits; none: they are not there. -/
def rdN (b : List UInt8) (k pos : Nat) : Option (Nat × Nat) := if pos + k ≤ 8 * b.length then some (num b pos k, pos + k) else none

/- Codes by their counts. -/
def symL (cnt syms : List Nat) (b : List UInt8) : Nat → Nat → Nat → Nat → Nat → Option (Nat × Nat)
  | 0, _, _, _, _ => none
  | f + 1, word, first, a, pos =>
    if pos + 1 ≤ 8 * b.length then
      if 2 * word + bit b pos < 2 * first + cnt.getD (15 - f) 0 then some (syms.getD (a + (2 * word + bit b pos - 2 * first)) 0, pos + 1)
      else symL cnt syms b f (2 * word + bit b pos) (2 * first + cnt.getD (15 - f) 0) (a + cnt.getD (15 - f) 0) (pos + 1)
    else none
def sym (cnt syms : List Nat) (b : List UInt8) (pos : Nat) : Option (Nat × Nat) := symL cnt syms b 15 0 0 0 pos
/-- Counts and symbols that fit. -/
def Fits (cnt syms : List Nat) : Prop := cnt.length = 16 ∧ (cnt.drop 1).sum = syms.length ∧ syms.length ≤ 2000000
def stp (ls : List Nat) (l : Nat) (st : List Nat × List Nat) (s : Nat) : List Nat × List Nat := if ls.getD s 0 = l then (st.1.set l (st.1.getD l 0 + 1), st.2 ++ [s]) else st
def inner (ls : List Nat) (st : List Nat × List Nat) (l : Nat) : List Nat × List Nat := (List.range' 0 ls.length).foldl (stp ls l) st
def code (ls : List Nat) : List Nat × List Nat := (List.range' 1 15).foldl (inner ls) (List.replicate 16 0, [])
def leftL : List Nat → Int → Option Int
  | [], x => some x
  | n :: r, x => if 2 * x - n < 0 then none else leftL r (2 * x - n)
/-- 0: over, 1: none, 2: one, 3: full. -/
def kindC (cnt syms : List Nat) : Nat := match leftL (cnt.drop 1) 1 with
  | none => 0
  | some x => if x = 0 then 3 else if syms.length = 0 then 1 else if syms.length = 1 ∧ cnt.getD 1 0 = 1 then 2 else 0
def kind (ls : List Nat) : Nat := kindC (code ls).1 (code ls).2
theorem leftL_step {cnt : List Nat} {j : Nat} (h : j < cnt.length) (x : Int) : leftL (cnt.drop j) x = if 2 * x - cnt.getD j 0 < 0 then none else leftL (cnt.drop (j + 1)) (2 * x - cnt.getD j 0) := by
  rw [List.drop_eq_getElem_cons h, leftL]
  simp [List.getD, h]
theorem fold_succ {α : Type} (f : α → Nat → α) (x : α) (a n : Nat) : (List.range' a (n + 1)).foldl f x = f ((List.range' a n).foldl f x) (a + n) := by
  rw [List.range'_concat, List.foldl_append]
  simp
theorem sum_set : ∀ (xs : List Nat) (i : Nat), i < xs.length → (xs.set i (xs.getD i 0 + 1)).sum = xs.sum + 1
  | x :: r, 0, _ => by simp; omega
  | x :: r, i + 1, h => by
    have ih := sum_set r i (by simpa using h)
    simp only [List.set_cons_succ, List.getD_cons_succ, List.sum_cons, ih]
    omega
theorem drop1_set (xs : List Nat) (i v : Nat) : (xs.set (i + 1) v).drop 1 = (xs.drop 1).set i v := by
  cases xs <;> simp
/-- What holds while a code is made. -/
structure Mk (m k : Nat) (st : List Nat × List Nat) : Prop where
  len : st.1.length = 16
  sum : (st.1.drop 1).sum = st.2.length
  few : st.2.length ≤ k
  lt : ∀ s ∈ st.2, s < m
theorem stp_mk {m k l s : Nat} {ls : List Nat} {st : List Nat × List Nat} (h : Mk m k st) (hl : 1 ≤ l ∧ l ≤ 15) (hs : s < m) : Mk m (k + 1) (stp ls l st s) := by
  unfold stp
  split
  · obtain ⟨j, rfl⟩ : ∃ j, l = j + 1 := ⟨l - 1, by omega⟩
    refine ⟨by simpa using h.len, ?_, by simpa using h.few, fun x hx => ?_⟩
    · rw [drop1_set]
      have hg : st.1.getD (j + 1) 0 = (st.1.drop 1).getD j 0 := by simp only [List.getD_eq_getElem?_getD, List.getElem?_drop, Nat.add_comm]
      rw [hg, sum_set _ _ (by have := h.len; simp; omega), h.sum]
      simp
    · rcases List.mem_append.1 hx with hx | hx
      · exact h.lt x hx
      · simp only [List.mem_singleton] at hx; omega
  · exact ⟨h.len, h.sum, Nat.le_succ_of_le h.few, h.lt⟩
theorem inner_mk {k l : Nat} {ls : List Nat} {st : List Nat × List Nat} (h : Mk ls.length k st) (hl : 1 ≤ l ∧ l ≤ 15) : Mk ls.length (k + ls.length) (inner ls st l) := by
  have key : ∀ n, n ≤ ls.length → Mk ls.length (k + n) ((List.range' 0 n).foldl (stp ls l) st) := by
    intro n
    induction n with
    | zero => intro _; exact h
    | succ n ih =>
      intro hn
      rw [fold_succ]
      exact stp_mk (ih (by omega)) hl (by omega)
  exact key _ (Nat.le_refl _)
theorem code_mk (ls : List Nat) : Mk ls.length (15 * ls.length) (code ls) := by
  have key : ∀ n, n ≤ 15 → Mk ls.length (n * ls.length) ((List.range' 1 n).foldl (inner ls) (List.replicate 16 0, [])) := by
    intro n
    induction n with
    | zero => intro _; exact ⟨rfl, rfl, by simp, by simp⟩
    | succ n ih =>
      intro hn
      rw [fold_succ, Nat.succ_mul]
      exact inner_mk (ih (by omega)) ⟨by omega, by omega⟩
  exact key 15 (Nat.le_refl _)
theorem code_fits {ls : List Nat} (h : ls.length ≤ 100000) : Fits (code ls).1 (code ls).2 := ⟨(code_mk ls).len, (code_mk ls).sum, by have := (code_mk ls).few; omega⟩
theorem symL_lt {cnt syms : List Nat} {b : List UInt8} {m : Nat} (h : ∀ s ∈ syms, s < m) (hm : 0 < m) : ∀ (f word first a pos : Nat) {v pos' : Nat}, symL cnt syms b f word first a pos = some (v, pos') → v < m ∧ pos < pos'
  | 0, _, _, _, _, _, _, he => by simp [symL] at he
  | f + 1, word, first, a, pos, v, pos', he => by
    simp only [symL] at he
    split at he
    · split at he
      · simp only [Option.some.injEq, Prod.mk.injEq] at he
        obtain ⟨rfl, rfl⟩ := he
        refine ⟨?_, by omega⟩
        rw [List.getD_eq_getElem?_getD]
        cases hx : syms[a + (2 * word + bit b pos - 2 * first)]? with
        | none => exact hm
        | some x => exact h x (List.mem_of_getElem? hx)
      · obtain ⟨h1, h2⟩ := symL_lt h hm f _ _ _ _ he
        exact ⟨h1, by omega⟩
    · cases he
theorem sym_lt {cnt syms : List Nat} {b : List UInt8} {m pos v pos' : Nat} (h : ∀ s ∈ syms, s < m) (hm : 0 < m) (he : sym cnt syms b pos = some (v, pos')) : v < m ∧ pos < pos' := symL_lt h hm _ _ _ _ _ he
theorem code_sym_lt {ls : List Nat} {b : List UInt8} {pos v pos' : Nat} (hm : 0 < ls.length) (he : sym (code ls).1 (code ls).2 b pos = some (v, pos')) : v < ls.length ∧ pos < pos' := sym_lt (code_mk ls).lt hm he
end Infl
