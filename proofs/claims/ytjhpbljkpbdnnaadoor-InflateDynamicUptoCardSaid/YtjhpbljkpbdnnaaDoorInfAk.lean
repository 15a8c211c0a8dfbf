/- Rows of bytes and copies that are written by two codes are read as what they say; blocks of them; no program in sight. -/
import Derived.Test.YtjhpbljkpbdnnaaDoorInfAj
namespace Infl
/-- A byte, a length (0: it is the byte), a distance. -/
abbrev Tk := UInt8 × Nat × Nat
def findS (each first n : Nat) : Nat → Nat → Nat
  | 0, s => s
  | f + 1, s => if (extra s each first).1 + 2 ^ (extra s each first).2 ≤ n then findS each first n f (s + 1) else s
def lenSy (n : Nat) : Nat := if n = 258 then 28 else findS 4 3 n 28 0
def disSy (d : Nat) : Nat := findS 2 1 d 30 0
theorem findS_spec {each first n lim : Nat} (hst : ∀ s, s < lim → (extra (s + 1) each first).1 = (extra s each first).1 + 2 ^ (extra s each first).2) : ∀ f s, s + f = lim → (extra s each first).1 ≤ n →
    findS each first n f s ≤ lim ∧ (extra (findS each first n f s) each first).1 ≤ n ∧ (findS each first n f s < lim → n < (extra (findS each first n f s) each first).1 + 2 ^ (extra (findS each first n f s) each first).2)
  | 0, s, h, hb => ⟨by rw [findS]; omega, hb, fun h2 => by rw [findS] at h2; omega⟩
  | f + 1, s, h, hb => by
    rw [findS]
    by_cases hc : (extra s each first).1 + 2 ^ (extra s each first).2 ≤ n
    · rw [if_pos hc]
      exact findS_spec hst f (s + 1) (by omega) (by rw [hst s (by omega)]; exact hc)
    · rw [if_neg hc]
      exact ⟨by omega, hb, fun _ => by omega⟩
theorem lenStep : ∀ s, s < 28 → (extra (s + 1) 4 3).1 = (extra s 4 3).1 + 2 ^ (extra s 4 3).2 := by decide
theorem disStep : ∀ s, s < 30 → (extra (s + 1) 2 1).1 = (extra s 2 1).1 + 2 ^ (extra s 2 1).2 := by decide
theorem lenSy_spec {n : Nat} (h1 : 3 ≤ n) (h2 : n ≤ 257) : lenSy n ≤ 27 ∧ (extra (lenSy n) 4 3).1 ≤ n ∧ n < (extra (lenSy n) 4 3).1 + 2 ^ (extra (lenSy n) 4 3).2 := by
  have h := findS_spec (each := 4) (first := 3) (n := n) (lim := 28) lenStep 28 0 rfl (by simpa [extra] using h1)
  unfold lenSy
  rw [if_neg (by omega)]
  generalize findS 4 3 n 28 0 = r at h
  have hr : r ≠ 28 := fun e => by
    subst e
    have := h.2.1
    simp [extra] at this
    omega
  exact ⟨by omega, h.2.1, h.2.2 (by omega)⟩
theorem disSy_spec {d : Nat} (h1 : 1 ≤ d) (h2 : d ≤ 32768) : disSy d ≤ 29 ∧ (extra (disSy d) 2 1).1 ≤ d ∧ d < (extra (disSy d) 2 1).1 + 2 ^ (extra (disSy d) 2 1).2 := by
  have h := findS_spec (each := 2) (first := 1) (n := d) (lim := 30) disStep 30 0 rfl (by simpa [extra] using h1)
  unfold disSy
  generalize findS 2 1 d 30 0 = r at h
  have hr : r ≠ 30 := fun e => by
    subst e
    have := h.2.1
    simp [extra] at this
    omega
  exact ⟨by omega, h.2.1, h.2.2 (by omega)⟩
/-- What is written behind a length's word: a number, of so many bits. -/
def lenEx (n : Nat) : Nat × Nat := if n = 258 then (0, 0) else (n - (extra (lenSy n) 4 3).1, (extra (lenSy n) 4 3).2)
def tokB (ll dl : List Nat) (t : Tk) : List Nat := if t.2.1 = 0 then wordB (W ll t.1.toNat) (ll.getD t.1.toNat 0) else
  wordB (W ll (lenSy t.2.1 + 257)) (ll.getD (lenSy t.2.1 + 257) 0) ++ (numB (lenEx t.2.1).1 (lenEx t.2.1).2 ++ (wordB (W dl (disSy t.2.2)) (dl.getD (disSy t.2.2) 0) ++ numB (t.2.2 - (extra (disSy t.2.2) 2 1).1) (extra (disSy t.2.2) 2 1).2))
/-- Each symbol that is needed has a word. -/
def tokOk (ll dl : List Nat) (t : Tk) : Prop := if t.2.1 = 0 then ll.getD t.1.toNat 0 ≠ 0 else lenSy t.2.1 + 257 < ll.length ∧ ll.getD (lenSy t.2.1 + 257) 0 ≠ 0 ∧ disSy t.2.2 < dl.length ∧ dl.getD (disSy t.2.2) 0 ≠ 0
instance (ll dl : List Nat) (t : Tk) : Decidable (tokOk ll dl t) := by unfold tokOk; infer_instance
def copyL (d : Nat) : Nat → List UInt8 → List UInt8
  | 0, out => out
  | k + 1, out => copyL d k (out ++ [out.getD (out.length - d) 0])
def tokO (out : List UInt8) (t : Tk) : List UInt8 := if t.2.1 = 0 then out ++ [t.1] else copyL t.2.2 t.2.1 out
def Valid1 (out : List UInt8) (t : Tk) : Prop := t.2.1 = 0 ∨ (3 ≤ t.2.1 ∧ t.2.1 ≤ 258 ∧ 1 ≤ t.2.2 ∧ t.2.2 ≤ 32768 ∧ t.2.2 ≤ out.length)
def Valid : List UInt8 → List Tk → Prop
  | _, [] => True
  | out, t :: r => Valid1 out t ∧ Valid (tokO out t) r
def unf (out : List UInt8) (as : List Tk) : List UInt8 := as.foldl tokO out
theorem unf_app (out : List UInt8) (x y : List Tk) : unf out (x ++ y) = unf (unf out x) y := List.foldl_append
theorem Valid.app : ∀ {x y : List Tk} {out : List UInt8}, Valid out (x ++ y) ↔ Valid out x ∧ Valid (unf out x) y
  | [], y, out => by simp [Valid, unf]
  | t :: x, y, out => by
    have h := Valid.app (x := x) (y := y) (out := tokO out t)
    simp only [List.cons_append, Valid, h, unf, List.foldl_cons, and_assoc]
theorem copyL_len (d : Nat) : ∀ (k : Nat) (out : List UInt8), (copyL d k out).length = out.length + k
  | 0, out => rfl
  | k + 1, out => by
    rw [copyL, copyL_len d k]
    simp
    omega
theorem tokO_up (out : List UInt8) (t : Tk) : out.length + 1 ≤ (tokO out t).length := by
  unfold tokO
  split
  · simp
  · rw [copyL_len]
    omega
theorem unf_up : ∀ (as : List Tk) (out : List UInt8), out.length + as.length ≤ (unf out as).length
  | [], out => by simp [unf]
  | t :: r, out => by
    have h := unf_up r (tokO out t)
    have h2 := tokO_up out t
    simp only [unf, List.foldl_cons, List.length_cons] at h ⊢
    omega
theorem copyN_ok {m d : Nat} : ∀ {k : Nat} {out : List UInt8}, out.length + k ≤ m → copyN m d k out = .ok (copyL d k out)
  | 0, out, h => rfl
  | k + 1, out, h => by
    rw [copyN]
    unfold put
    rw [if_neg (by omega)]
    exact copyN_ok (by simp; omega)
theorem tokB_two (ll dl : List Nat) (t : Tk) : ∀ x ∈ tokB ll dl t, x < 2 := fun x hx => by
  unfold tokB at hx
  split at hx
  · exact wordB_two x hx
  · rcases List.mem_append.1 hx with h | h
    · exact wordB_two x h
    rcases List.mem_append.1 h with h | h
    · exact numB_two x h
    rcases List.mem_append.1 h with h | h
    · exact wordB_two x h
    · exact numB_two x h
/-- A code that words can be written by. -/
structure Wd (ls : List Nat) : Prop where
  k : kraft ls ≤ 32768
  le : ∀ l ∈ ls, l ≤ 15
theorem Wd.le15 {ls : List Nat} (h : Wd ls) (s : Nat) : ls.getD s 0 ≤ 15 := by
  rw [List.getD_eq_getElem?_getD]
  cases hs : ls[s]? with
  | none => simp
  | some x => exact h.le x (List.mem_of_getElem? hs)
theorem Wd.sym {ls : List Nat} (h : Wd ls) {b : List UInt8} {s pos : Nat} (hs : s < ls.length) (h0 : ls.getD s 0 ≠ 0) (hA : At b pos (wordB (W ls s) (ls.getD s 0))) : Infl.sym (code ls).1 (code ls).2 b pos = some (s, pos + ls.getD s 0) :=
  sym_word hs (by omega) (h.le15 s) (W_lt h.k h.le hs (by omega)) hA
theorem copied_tok {ll dl : List Nat} (hd : Wd dl) {b : List UInt8} {m n d pos : Nat} {out : List UInt8} (h3 : 3 ≤ n) (h258 : n ≤ 258) (h1 : 1 ≤ d) (h2 : d ≤ 32768) (ho : d ≤ out.length) (hs : disSy d < dl.length) (h0 : dl.getD (disSy d) 0 ≠ 0) (hm : out.length + n ≤ m)
    (hA : At b pos (numB (lenEx n).1 (lenEx n).2 ++ (wordB (W dl (disSy d)) (dl.getD (disSy d) 0) ++ numB (d - (extra (disSy d) 2 1).1) (extra (disSy d) 2 1).2))) :
    copied b dl m (lenSy n + 257) pos out = .ok (pos + ((lenEx n).2 + (dl.getD (disSy d) 0 + (extra (disSy d) 2 1).2)), copyL d n out) := by
  obtain ⟨a1, a2⟩ := hA.app
  obtain ⟨a2, a3⟩ := a2.app
  rw [numB_len] at a2 a3
  rw [wordB_len] at a3
  have hl : lenAt b (lenSy n + 257) pos = some (n, pos + (lenEx n).2) := by
    unfold lenAt
    by_cases h : n = 258
    · subst h
      rfl
    · have hsp := lenSy_spec h3 (by omega)
      have he : lenEx n = (n - (extra (lenSy n) 4 3).1, (extra (lenSy n) 4 3).2) := if_neg h
      rw [he] at a1 ⊢
      rw [if_pos (by omega), Nat.add_sub_cancel, rd_num a1 (by simp only; omega)]
      simp only [Option.some.injEq, Prod.mk.injEq, and_true]
      omega
  have hl28 : lenSy n ≤ 28 := by
    by_cases h : n = 258
    · subst h
      decide
    · have := lenSy_spec h3 (by omega)
      omega
  have hdsp := disSy_spec h1 h2
  unfold copied
  rw [if_neg (by omega), hl]
  simp only
  unfold distAt
  rw [hd.sym hs h0 a2]
  simp only
  rw [if_neg (by omega), rd_num a3 (by omega)]
  simp only
  rw [show (extra (disSy d) 2 1).1 + (d - (extra (disSy d) 2 1).1) = d by omega, if_neg (by omega), copyN_ok hm]
  simp only [Except.ok.injEq, Prod.mk.injEq, and_true]
  omega
/-- The bits of a row of tokens, with the end. -/
def toksB (ll dl : List Nat) (as : List Tk) : List Nat := as.flatMap (tokB ll dl) ++ wordB (W ll 256) (ll.getD 256 0)
theorem toksB_two (ll dl : List Nat) (as : List Tk) : ∀ x ∈ toksB ll dl as, x < 2 := fun x hx => by
  rcases List.mem_append.1 hx with h | h
  · obtain ⟨t, _, ht⟩ := List.mem_flatMap.1 h
    exact tokB_two ll dl t x ht
  · exact wordB_two x h
theorem symsL_toks {ll dl : List Nat} (hl : Wd ll) (hd : Wd dl) (h256 : 256 < ll.length) (he : ll.getD 256 0 ≠ 0) {b : List UInt8} {m : Nat} : ∀ {as : List Tk} {f pos : Nat} {out : List UInt8}, At b pos (toksB ll dl as) → Valid out as → (∀ t ∈ as, tokOk ll dl t) → (unf out as).length ≤ m → as.length < f →
    symsL b ll dl m f pos out = .ok (pos + (toksB ll dl as).length, unf out as)
  | [], f + 1, pos, out, hA, _, _, _, _ => by
    have hA' : At b pos (wordB (W ll 256) (ll.getD 256 0)) := hA
    rw [symsL, hl.sym h256 he hA']
    simp only
    rw [if_neg (by omega)]
    simp [toksB, wordB_len, unf]
  | t :: as, f + 1, pos, out, hA, hv, hok, hm, hf => by
    have e : toksB ll dl (t :: as) = tokB ll dl t ++ toksB ll dl as := by simp [toksB]
    rw [e] at hA ⊢
    obtain ⟨a1, a2⟩ := hA.app
    obtain ⟨hv1, hv2⟩ := hv
    have hu : unf out (t :: as) = unf (tokO out t) as := rfl
    have hup := unf_up as (tokO out t)
    rw [hu] at hm ⊢
    have hk := hok t (List.mem_cons_self ..)
    have ih := symsL_toks hl hd h256 he (as := as) (f := f) (pos := pos + (tokB ll dl t).length) (out := tokO out t) a2 hv2 (fun x hx => hok x (List.mem_cons_of_mem _ hx)) hm (by simp only [List.length_cons] at hf; omega)
    rw [List.length_append, ← Nat.add_assoc]
    rw [← ih]
    unfold tokB tokOk tokO at *
    by_cases h0 : t.2.1 = 0
    · rw [if_pos h0] at a1 hk hm hup ⊢
      have hb := t.1.toNat_lt
      rw [symsL, hl.sym (by omega) hk a1]
      simp only
      rw [if_pos (by omega)]
      simp only [List.length_append, List.length_cons, List.length_nil] at hup
      unfold put
      rw [if_neg (by omega)]
      simp only [wordB_len, UInt8.ofNat_toNat, if_pos h0]
    · rw [if_neg h0] at a1 hk hm hup ⊢
      obtain ⟨k1, k2, k3, k4⟩ := hk
      have hv' : 3 ≤ t.2.1 ∧ t.2.1 ≤ 258 ∧ 1 ≤ t.2.2 ∧ t.2.2 ≤ 32768 ∧ t.2.2 ≤ out.length := hv1.resolve_left h0
      obtain ⟨c1, c2⟩ := a1.app
      rw [wordB_len] at c2
      rw [copyL_len] at hup
      rw [symsL, hl.sym k1 k2 c1]
      simp only
      rw [if_neg (by omega), if_neg (by omega), copied_tok (ll := ll) hd hv'.1 hv'.2.1 hv'.2.2.1 hv'.2.2.2.1 hv'.2.2.2.2 k3 k4 (by omega) c2]
      simp only [List.length_append, wordB_len, numB_len, if_neg h0, Nat.add_assoc]
end Infl
