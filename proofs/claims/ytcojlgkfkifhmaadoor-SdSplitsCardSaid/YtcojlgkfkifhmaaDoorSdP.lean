/- A text in parts: pieces between signs, in plain Lean; that the library's ways to ask say the same. -/
import Derived.Lib.Split
import Derived.Lib.SplitLaws
import Derived.Lib.CountLaws
import Derived.Lib.IndexMore
import Derived.Lib.Strings
namespace Sg
open Go
/-- The pieces of a text between signs c. -/
def pieces (c : UInt8) : List UInt8 → List (List UInt8)
  | [] => [[]]
  | b :: r => if b = c then [] :: pieces c r else ((b :: (pieces c r).headD []) :: (pieces c r).tail)
theorem pieces_ne (c : UInt8) (s : List UInt8) : pieces c s ≠ [] := by
  cases s with
  | nil => simp [pieces]
  | cons b r => unfold pieces; split <;> simp
theorem pieces_cons (c : UInt8) (s : List UInt8) : (pieces c s).headD [] :: (pieces c s).tail = pieces c s := by
  have := pieces_ne c s
  cases h : pieces c s with
  | nil => exact absurd h this
  | cons p r => rfl
theorem pieces_snoc (c : UInt8) : ∀ (s : List UInt8) (b : UInt8) (ps : List (List UInt8)) (l : List UInt8), pieces c s = ps ++ [l] → pieces c (s ++ [b]) = if b = c then ps ++ [l] ++ [[]] else ps ++ [l ++ [b]]
  | [], b, ps, l, h => by
    have h1 : ps = [] ∧ l = [] := by
      simp only [pieces] at h
      cases ps with
      | nil => simpa using h.symm
      | cons p r => simp at h
    obtain ⟨rfl, rfl⟩ := h1
    by_cases hb : b = c <;> simp [pieces, hb]
  | a :: r, b, ps, l, h => by
    obtain ⟨qs, m, hq⟩ : ∃ qs m, pieces c r = qs ++ [m] := ⟨_, _, (List.dropLast_concat_getLast (pieces_ne c r)).symm⟩
    have ih := pieces_snoc c r b qs m hq
    by_cases ha : a = c
    · subst ha
      have e : ∀ s, pieces a (a :: s) = [] :: pieces a s := fun s => by rw [pieces, if_pos rfl]
      rw [e, hq] at h
      rw [List.cons_append, e, ih]
      obtain ⟨rfl, rfl⟩ : ps = [] :: qs ∧ l = m := by
        rw [show [] :: (qs ++ [m]) = ([] :: qs) ++ [m] from rfl] at h
        have := List.append_inj' h rfl
        exact ⟨this.1.symm, by simpa using this.2.symm⟩
      split <;> rfl
    · have e : ∀ s, pieces c (a :: s) = (a :: (pieces c s).headD []) :: (pieces c s).tail := fun s => by rw [pieces, if_neg ha]
      rw [e, hq] at h
      rw [List.cons_append, e, ih]
      cases qs with
      | nil =>
        simp only [List.nil_append, List.headD_cons, List.tail_cons] at h
        obtain ⟨rfl, rfl⟩ : ps = [] ∧ l = a :: m := by
          cases ps with
          | nil => simpa using h.symm
          | cons p r => simp at h
        split <;> rfl
      | cons q qs =>
        simp only [List.cons_append, List.headD_cons, List.tail_cons] at h
        obtain ⟨rfl, rfl⟩ : ps = (a :: q) :: qs ∧ l = m := by
          rw [show (a :: q) :: (qs ++ [m]) = ((a :: q) :: qs) ++ [m] from rfl] at h
          have := List.append_inj' h rfl
          exact ⟨this.1.symm, by simpa using this.2.symm⟩
        split <;> rfl
theorem pieces_join (c : UInt8) : ∀ s, (pieces c s).flatMap (· ++ [c]) = s ++ [c]
  | [] => by simp [pieces]
  | b :: r => by
    have ih := pieces_join c r
    rw [← pieces_cons c r, List.flatMap_cons] at ih
    by_cases hb : b = c
    · rw [pieces, if_pos hb, List.flatMap_cons, ← pieces_cons c r, List.flatMap_cons, ih, hb]
      rfl
    · rw [pieces, if_neg hb, List.flatMap_cons, List.cons_append, List.cons_append, ih]
      rfl
theorem pieces_len (c : UInt8) : ∀ s, (pieces c s).length ≤ s.length + 1
  | [] => by simp [pieces]
  | b :: r => by
    have ih := pieces_len c r
    rw [← pieces_cons c r, List.length_cons] at ih
    by_cases hb : b = c
    · rw [pieces, if_pos hb, List.length_cons, List.length_cons, ← pieces_cons c r, List.length_cons]; omega
    · rw [pieces, if_neg hb, List.length_cons, List.length_cons]; omega
theorem index_one_ne {b c : UInt8} (l : List UInt8) (h : b ≠ c) : Lib.index (b :: l) [c] = if Lib.index l [c] = -1 then -1 else Lib.index l [c] + 1 := by
  rw [Lib.index]
  have : ([c] : List UInt8).isPrefixOf (b :: l) = false := by simp [List.isPrefixOf, Ne.symm h]
  rw [this]
  simp
theorem index_one_eq (c : UInt8) (l : List UInt8) : Lib.index (c :: l) [c] = 0 := by
  rw [Lib.index]
  simp [List.isPrefixOf]
theorem splitK_ne {b c : UInt8} (h : b ≠ c) : ∀ (k : Nat) (l : List UInt8), Lib.splitK [c] 0 k (b :: l) = (b :: (Lib.splitK [c] 0 k l).headD []) :: (Lib.splitK [c] 0 k l).tail
  | 0, l => by simp [Lib.splitK]
  | k + 1, l => by
    have hg := Lib.index_ge l [c]
    rw [Lib.splitK, Lib.splitK, index_one_ne l h]
    by_cases h1 : Lib.index l [c] = -1
    · simp [h1]
    · obtain ⟨j, hj⟩ : ∃ j : Nat, Lib.index l [c] = (j : Int) := ⟨(Lib.index l [c]).toNat, by omega⟩
      have e1 : ((j : Int) + 1 == -1) = false := by rw [beq_eq_false_iff_ne]; omega
      have e2 : ((j : Int) == -1) = false := by rw [beq_eq_false_iff_ne]; omega
      have e3 : ¬ (j : Int) = -1 := by omega
      have e4 : ((j : Int) + 1).toNat = j + 1 := by omega
      rw [hj, if_neg e3, e1, e2, e4, Int.toNat_natCast]
      simp only [Bool.false_eq_true, if_false, Nat.add_zero, List.take_succ_cons, List.headD_cons, List.tail_cons, List.length_cons, List.length_nil]
      rw [show j + 1 + (0 + 1) = (j + (0 + 1)) + 1 from rfl, List.drop_succ_cons]
theorem split_pieces (c : UInt8) : ∀ s, Lib.split s [c] = pieces c s
  | [] => by
    have : Lib.count ([] : List UInt8) [c] = 0 := by rw [Lib.count_one]; rfl
    rw [Lib.split, this]
    rfl
  | b :: l => by
    have ih := split_pieces c l
    rw [Lib.split] at ih ⊢
    by_cases hb : b = c
    · subst hb
      rw [Lib.count_cons_eq, Nat.add_comm, Lib.splitK, index_one_eq, pieces, if_pos rfl, ← ih]
      simp
    · rw [Lib.count_cons_ne b c l hb, splitK_ne hb, pieces, if_neg hb, ih]
theorem contains_cons (b : UInt8) (l sub : List UInt8) : Lib.contains (b :: l) sub = (sub.isPrefixOf (b :: l) || Lib.contains l sub) := by
  have hg := Lib.index_ge l sub
  unfold Lib.contains
  rw [Lib.index]
  cases hp : sub.isPrefixOf (b :: l) with
  | true => simp
  | false =>
    by_cases h1 : Lib.index l sub = -1
    · simp [h1]
    · have e1 : (Lib.index l sub == -1) = false := by rw [beq_eq_false_iff_ne]; exact h1
      rw [e1]
      simp only [Bool.false_eq_true, if_false, Bool.false_or, decide_eq_decide]
      omega
/-- A piece behind the first one is empty. -/
def bad (c : UInt8) (s : List UInt8) : Bool := (pieces c s).tail.any (·.isEmpty)
theorem contains_two (c : UInt8) : ∀ s, Lib.contains (s ++ [c]) [c, c] = bad c s
  | [] => by
    rw [List.nil_append, contains_cons]
    have : Lib.contains ([] : List UInt8) [c, c] = false := by unfold Lib.contains; rw [Lib.index]; simp
    rw [this]
    simp [bad, pieces, List.isPrefixOf]
  | b :: r => by
    have ih := contains_two c r
    rw [List.cons_append, contains_cons, ih, bad, bad]
    by_cases hb : b = c
    · subst hb
      rw [pieces, if_pos rfl, List.tail_cons]
      conv => rhs; rw [← pieces_cons b r, List.any_cons]
      congr 1
      cases r with
      | nil => simp [pieces, List.isPrefixOf]
      | cons a t =>
        rw [List.cons_append]
        by_cases ha : a = b
        · subst ha
          rw [pieces, if_pos rfl]
          simp [List.isPrefixOf]
        · rw [pieces, if_neg ha]
          simp [List.isPrefixOf, Ne.symm ha]
    · have hp : ([c, c] : List UInt8).isPrefixOf (b :: (r ++ [c])) = false := by simp [List.isPrefixOf, Ne.symm hb]
      rw [hp, Bool.false_or, pieces, if_neg hb, List.tail_cons]
theorem suffix_one (c : UInt8) (s : List UInt8) : Lib.hasSuffix s [c] = true ↔ ∃ r, s = r ++ [c] := by
  unfold Lib.hasSuffix
  rw [List.isSuffixOf_iff_suffix]
  exact ⟨fun ⟨r, h⟩ => ⟨r, h.symm⟩, fun ⟨r, h⟩ => ⟨r, h.symm⟩⟩
theorem trim_one (c : UInt8) (r : List UInt8) : Lib.trimSuffix (r ++ [c]) [c] = r := by
  unfold Lib.trimSuffix
  rw [if_pos ((suffix_one c _).2 ⟨r, rfl⟩)]
  simp
/-- The answer of Split. -/
def splitA (s : List UInt8) : List UInt8 × List (List UInt8) × Int :=
  if 262144 < s.length then ([], [], 10) else
  if Lib.hasSuffix s [126] = true ∧ bad 126 s.dropLast = false then ((pieces 126 s.dropLast).headD [], (pieces 126 s.dropLast).tail, 0) else ([], [], 200)
end Sg
