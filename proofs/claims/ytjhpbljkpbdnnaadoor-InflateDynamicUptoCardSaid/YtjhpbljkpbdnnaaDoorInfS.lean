/- DEFLATE in plain Lean: what the document's reader does. -/
import Derived.Test.YtjhpbljkpbdnnaaDoorInfR
namespace Infl
def wIn (ls : List Nat) (l : Nat) (st : List (Nat × Nat) × Nat) (s : Nat) : List (Nat × Nat) × Nat := if ls.getD s 0 = l then (st.1.set s (st.2, l), st.2 + 1) else st
def wOut (ls : List Nat) (st : List (Nat × Nat) × Nat) (l : Nat) : List (Nat × Nat) × Nat := (List.range' 0 ls.length).foldl (wIn ls l) (st.1, 2 * st.2)
/-- The words of lengths: bits, length. -/
def wordsR (ls : List Nat) : List (Nat × Nat) := ((List.range' 1 15).foldl (wOut ls) (List.replicate ls.length (0, 0), 0)).1
def fW (l b : Nat) : List (Nat × Nat) → Nat → Option Nat
  | [], _ => none
  | w :: r, i => if w.2 = l ∧ w.1 = b then some i else fW l b r (i + 1)
def rsymL (ws : List (Nat × Nat)) (bs : List UInt8) : Nat → Nat → Nat → Option (Nat × Nat)
  | 0, _, _ => none
  | f + 1, bits, pos => if pos + 1 ≤ 8 * bs.length then match fW (15 - f) (2 * bits + bit bs pos) ws 0 with
      | some s => some (s, pos + 1)
      | none => rsymL ws bs f (2 * bits + bit bs pos) (pos + 1)
    else none
def rsym (ws : List (Nat × Nat)) (bs : List UInt8) (pos : Nat) : Option (Nat × Nat) := rsymL ws bs 15 0 pos
theorem wIn_len {ls : List Nat} {l : Nat} {st : List (Nat × Nat) × Nat} {s : Nat} : (wIn ls l st s).1.length = st.1.length := by
  unfold wIn
  split <;> simp
theorem wFold_len {ls : List Nat} {l : Nat} : ∀ (xs : List Nat) (st : List (Nat × Nat) × Nat), (xs.foldl (wIn ls l) st).1.length = st.1.length
  | [], st => rfl
  | x :: r, st => by rw [List.foldl_cons, wFold_len r, wIn_len]
theorem wOut_len {ls : List Nat} : ∀ (xs : List Nat) (st : List (Nat × Nat) × Nat), (xs.foldl (wOut ls) st).1.length = st.1.length
  | [], st => rfl
  | x :: r, st => by rw [List.foldl_cons, wOut_len r, wOut, wFold_len]
theorem wordsR_len (ls : List Nat) : (wordsR ls).length = ls.length := by rw [wordsR, wOut_len, List.length_replicate]
theorem fW_lt {l b : Nat} : ∀ {ws : List (Nat × Nat)} {i s : Nat}, fW l b ws i = some s → i ≤ s ∧ s < i + ws.length
  | [], i, s, h => by simp [fW] at h
  | w :: r, i, s, h => by
    rw [fW] at h
    split at h
    · simp only [Option.some.injEq] at h
      subst h
      simp
    · have := fW_lt h
      simp only [List.length_cons]
      omega
/- Kinds of lengths. -/
def kraftT (l : Nat) : Nat := if 0 < l then 2 ^ (15 - l) else 0
def kraft (ls : List Nat) : Nat := (ls.map kraftT).sum
def cntS (st : Nat × Nat) (l : Nat) : Nat × Nat := if 0 < l then (st.1 + 1, l) else st
def cntR (ls : List Nat) : Nat × Nat := ls.foldl cntS (0, 0)
theorem kraftT_le (l : Nat) : kraftT l ≤ 16384 := by
  unfold kraftT
  split
  · exact Nat.pow_le_pow_right (n := 2) (by omega) (show 15 - l ≤ 14 by omega)
  · omega
theorem kraft_le : ∀ ls : List Nat, kraft ls ≤ 16384 * ls.length
  | [] => by simp [kraft]
  | l :: r => by
    have h1 := kraft_le r
    have h2 := kraftT_le l
    simp only [kraft, List.map_cons, List.sum_cons, List.length_cons] at h1 ⊢
    omega
theorem kraft_snoc (ls : List Nat) (l : Nat) : kraft (ls ++ [l]) = kraft ls + kraftT l := by simp [kraft]
theorem cntR_snoc (ls : List Nat) (l : Nat) : cntR (ls ++ [l]) = cntS (cntR ls) l := by simp [cntR]
theorem cntR_le : ∀ (ls : List Nat), (cntR ls).1 ≤ ls.length := by
  have key : ∀ (ls : List Nat) (st : Nat × Nat), (ls.foldl cntS st).1 ≤ st.1 + ls.length := by
    intro ls
    induction ls with
    | nil => intro st; simp
    | cons l r ih =>
      intro st
      have := ih (cntS st l)
      have h2 : (cntS st l).1 ≤ st.1 + 1 := by unfold cntS; split <;> simp
      simp only [List.foldl_cons, List.length_cons]
      omega
  intro ls
  have := key ls (0, 0)
  simpa [cntR] using this
theorem take_snoc {α : Type} {d : α} {xs : List α} {i : Nat} (h : i < xs.length) : xs.take (i + 1) = xs.take i ++ [xs.getD i d] := by
  rw [List.take_succ_eq_append_getElem h]
  simp [List.getD, h]
/- Lengths and distances of symbols. -/
def boR (k : Nat) : Nat := if k < 265 then 0 else (k - 261) / 4
def faR (k : Nat) : Nat := if k < 4 then 0 else (k - 2) / 2
def lenB : Nat → Nat
  | 0 => 3
  | j + 1 => lenB j + 2 ^ boR (257 + j)
def disB : Nat → Nat
  | 0 => 1
  | j + 1 => disB j + 2 ^ faR j
theorem lenB_eq : ∀ j, j < 28 → lenB j = (extra j 4 3).1 ∧ boR (257 + j) = (extra j 4 3).2 := by decide
theorem disB_eq : ∀ j, j < 30 → disB j = (extra j 2 1).1 ∧ faR j = (extra j 2 1).2 := by decide
theorem lenB_le : ∀ j, j ≤ 28 → lenB j ≤ 1000 := by decide
theorem disB_pos : ∀ j, j ≤ 30 → 0 < disB j := by decide
theorem disB_le : ∀ j, j ≤ 30 → disB j ≤ 100000 := by decide
def lenK (s : Nat) : Nat := if s = 285 then 0 else boR s
def lenBs (s : Nat) : Nat := if s = 285 then 258 else lenB (s - 257)
def addB (B : Nat) : Option (Nat × Nat) → Option (Nat × Nat)
  | some (v, p) => some (B + v, p)
  | none => none
theorem lenAt_R {b : List UInt8} {s pos : Nat} (h1 : 257 ≤ s) (h2 : s ≤ 285) (hp : pos ≤ 8 * b.length) : lenAt b s pos = addB (lenBs s) (rdN b (lenK s) pos) := by
  unfold lenAt lenK lenBs
  by_cases h : s = 285
  · subst h
    have : rdN b 0 pos = some (0, pos) := by unfold rdN; rw [if_pos (by omega)]; rfl
    simp [this, addB]
  · have hl := lenB_eq (s - 257) (by omega)
    rw [show 257 + (s - 257) = s by omega] at hl
    rw [if_pos (by omega), if_neg h, if_neg h, hl.1, hl.2]
    cases rdN b (extra (s - 257) 4 3).2 pos <;> rfl
def disF (b : List UInt8) : Option (Nat × Nat) → Option (Nat × Nat)
  | none => none
  | some (s, p) => if 29 < s then none else addB (disB s) (rdN b (faR s) p)
theorem distAt_R {b : List UInt8} {dl : List Nat} {pos : Nat} : distAt b dl pos = disF b (sym (code dl).1 (code dl).2 b pos) := by
  unfold distAt
  cases sym (code dl).1 (code dl).2 b pos with
  | none => rfl
  | some r =>
    obtain ⟨s, p⟩ := r
    simp only [disF]
    by_cases h : 29 < s
    · rw [if_pos h, if_pos h]
    · have hd := disB_eq s (by omega)
      rw [if_neg h, if_neg h, hd.1, hd.2]
      cases rdN b (extra s 2 1).2 p <;> rfl
def cpB (most n : Nat) (out : List UInt8) : Option (Nat × Nat) → Except Nat (Nat × List UInt8)
  | none => .error 240
  | some (d, p') => if out.length < d then .error 240 else match copyN most d n out with
    | .error c => .error c
    | .ok out' => .ok (p', out')
def cpA (b : List UInt8) (dl : List Nat) (most : Nat) (out : List UInt8) : Option (Nat × Nat) → Except Nat (Nat × List UInt8)
  | none => .error 240
  | some (n, p) => cpB most n out (distAt b dl p)
theorem copied_eq {b : List UInt8} {dl : List Nat} {most s pos : Nat} {out : List UInt8} (h : ¬ 285 < s) : copied b dl most s pos out = cpA b dl most out (lenAt b s pos) := by
  unfold copied
  rw [if_neg h]
  cases lenAt b s pos with
  | none => rfl
  | some r =>
    obtain ⟨n, p⟩ := r
    simp only [cpA]
    cases distAt b dl p with
    | none => rfl
    | some r => rfl
def inflE : Except Nat (Nat × List UInt8) → List UInt8 × Nat × Nat
  | .ok (pos, out) => (out, (pos + 7) / 8, 0)
  | .error k => ([], 0, k)
theorem infl_eq (b : List UInt8) (most : Nat) : infl b most = inflE (blocksL b most (8 * b.length + 1) 0 []) := by
  unfold infl blocks
  cases blocksL b most (8 * b.length + 1) 0 [] with
  | ok r => rfl
  | error k => rfl
end Infl
