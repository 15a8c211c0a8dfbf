/- Blocks that are written by the fixed codes, or by lengths of their own, unfold to what they say; no program in sight. -/
import Derived.Test.YtjhpbljkpbdnnaaDoorInfAk
namespace Infl
def five : List Nat := List.replicate 30 5
theorem fixedL_wd : Wd fixedL := ⟨by decide +kernel, by decide +kernel⟩
theorem fixedD_wd : Wd fixedD := ⟨by decide +kernel, by decide +kernel⟩
theorem five_W : ∀ s, s < 30 → W five s = W fixedD s ∧ five.getD s 0 = fixedD.getD s 0 := by decide +kernel
theorem fixedL_ne : ∀ s, s < 288 → fixedL.getD s 0 ≠ 0 := by decide +kernel
theorem fixedL_len : fixedL.length = 288 := by decide +kernel
theorem fixedD_len : fixedD.length = 32 := by decide +kernel
theorem lenSy_le {n : Nat} (h3 : 3 ≤ n) (h : n ≤ 258) : lenSy n ≤ 28 := by
  by_cases h' : n = 258
  · subst h'
    decide
  · have := lenSy_spec h3 (by omega)
    omega
theorem fixed_ok {as : List Tk} {out : List UInt8} (hv : Valid out as) : (∀ t ∈ as, tokOk fixedL fixedD t) ∧ toksB fixedL five as = toksB fixedL fixedD as := by
  have key : ∀ {as : List Tk} {out : List UInt8}, Valid out as → (∀ t ∈ as, tokOk fixedL fixedD t) ∧ as.flatMap (tokB fixedL five) = as.flatMap (tokB fixedL fixedD) := by
    intro as
    induction as with
    | nil => exact fun _ => ⟨fun t h => absurd h List.not_mem_nil, by rw [List.flatMap_nil, List.flatMap_nil]⟩
    | cons t as ih =>
      intro out hv
      obtain ⟨h1, h2⟩ := hv
      have ih' := ih h2
      have ht : tokOk fixedL fixedD t ∧ tokB fixedL five t = tokB fixedL fixedD t := by
        unfold tokOk tokB
        by_cases h0 : t.2.1 = 0
        · simp only [if_pos h0, and_true]
          have := t.1.toNat_lt
          exact fixedL_ne _ (by omega)
        · simp only [if_neg h0]
          have hv' := h1.resolve_left h0
          have a := lenSy_le hv'.1 hv'.2.1
          have d := disSy_spec hv'.2.2.1 hv'.2.2.2.1
          have w := five_W _ (show disSy t.2.2 < 30 by omega)
          rw [fixedL_len, fixedD_len, w.1, w.2]
          refine ⟨⟨by omega, fixedL_ne _ (by omega), by omega, ?_⟩, rfl⟩
          rw [← w.2]
          have : ∀ s, s < 30 → five.getD s 0 ≠ 0 := by decide +kernel
          exact this _ (by omega)
      refine ⟨fun x hx => ?_, by rw [List.flatMap_cons, List.flatMap_cons, ht.2, ih'.2]⟩
      rcases List.mem_cons.1 hx with rfl | hx
      · exact ht.1
      · exact ih'.1 x hx
  have h := key hv
  exact ⟨h.1, by rw [toksB, toksB, h.2]⟩
theorem block_at {b : List UInt8} {m f pos last k : Nat} {out : List UInt8} {rest : List Nat} (h1 : last < 2) (h2 : k < 4) (hA : At b pos (numB last 1 ++ (numB k 2 ++ rest))) :
    At b (pos + 3) rest ∧ blocksL b m (f + 1) pos out = (match kindB b m k (pos + 3) out with
      | .error e => .error e
      | .ok (p3, out3) => if last = 0 then blocksL b m f p3 out3 else .ok (p3, out3)) := by
  obtain ⟨a1, a2⟩ := hA.app
  obtain ⟨a2, a3⟩ := a2.app
  rw [numB_len] at a2 a3
  rw [numB_len] at a3
  refine ⟨by rw [Nat.add_assoc] at a3; exact a3, ?_⟩
  rw [blocksL, rd_num a1 (by omega)]
  simp only
  rw [rd_num a2 (by omega)]
  rfl
theorem toks_count {L D : List Nat} : ∀ {as : List Tk}, (∀ t ∈ as, tokOk L D t) → as.length ≤ (as.flatMap (tokB L D)).length
  | [], _ => Nat.zero_le _
  | t :: as, h => by
    have h1 := toks_count (as := as) (fun x hx => h x (List.mem_cons_of_mem _ hx))
    have h2 := h t (List.mem_cons_self ..)
    rw [List.flatMap_cons, List.length_append, List.length_cons]
    have : 1 ≤ (tokB L D t).length := by
      unfold tokOk at h2
      unfold tokB
      split
      · rename_i h0
        rw [if_pos h0] at h2
        rw [wordB_len]
        omega
      · rename_i h0
        rw [if_neg h0] at h2
        rw [List.length_append, wordB_len]
        omega
    omega
theorem fixed_at {b : List UInt8} {m pos : Nat} {out : List UInt8} {as : List Tk} (hA : At b pos (toksB fixedL five as)) (hv : Valid out as) (hm : (unf out as).length ≤ m) : kindB b m 1 pos out = .ok (pos + (toksB fixedL five as).length, unf out as) := by
  have ho := fixed_ok hv
  rw [ho.2] at hA ⊢
  unfold kindB
  rw [if_neg (by omega), if_pos rfl]
  refine symsL_toks fixedL_wd fixedD_wd (by rw [fixedL_len]; omega) (fixedL_ne _ (by omega)) hA hv ho.1 hm ?_
  have h1 := hA.1
  have h2 := toks_count ho.1
  rw [toksB, List.length_append] at h1
  omega
def fixB (last : Nat) (as : List Tk) : List Nat := numB last 1 ++ (numB 1 2 ++ toksB fixedL five as)
theorem infl_fixed {st : List UInt8 × Nat} {x y : List Tk} {m : Nat} (hw : Wr st (fixB 0 x ++ fixB 1 y)) (hv : Valid [] (x ++ y)) (hm : (unf [] (x ++ y)).length ≤ m) : infl st.1 m = (unf [] (x ++ y), st.1.length, 0) := by
  obtain ⟨v1, v2⟩ := Valid.app.1 hv
  rw [unf_app] at hm ⊢
  obtain ⟨a1, a2⟩ := hw.at.app
  have hup := unf_up y (unf [] x)
  have hl := hw.len
  have hf := hw.fr
  have e1 : (fixB 0 x).length = 3 + (toksB fixedL five x).length := by simp [fixB, numB_len]; omega
  have e2 : (fixB 1 y).length = 3 + (toksB fixedL five y).length := by simp [fixB, numB_len]; omega
  rw [List.length_append] at hl
  obtain ⟨f, hf2⟩ : ∃ f, 8 * st.1.length + 1 = f + 1 + 1 := ⟨8 * st.1.length - 1, by omega⟩
  unfold infl blocks
  obtain ⟨c1, g1⟩ := block_at (m := m) (f := f + 1) (out := []) (by omega) (by omega) a1
  rw [hf2, g1, fixed_at c1 v1 (by omega)]
  simp only [if_true]
  rw [Nat.zero_add, show 3 + (toksB fixedL five x).length = 0 + (fixB 0 x).length by omega]
  obtain ⟨c2, g2⟩ := block_at (m := m) (f := f) (out := unf [] x) (by omega) (by omega) a2
  rw [g2, fixed_at c2 v2 hm]
  simp only
  rw [if_neg (by omega)]
  simp only [Prod.mk.injEq, true_and, and_true]
  omega
/- Dynamic blocks. -/
def sh4 : List Nat := List.replicate 16 4 ++ List.replicate 3 0
def hv4 (o : Nat) : Nat := if 15 < o then 0 else 4
theorem sh4_wd : Wd sh4 := ⟨by decide +kernel, by decide +kernel⟩
theorem sh4_W : ∀ s, s < 16 → W sh4 s = s ∧ sh4.getD s 0 = 4 := by decide +kernel
theorem sh4_kind : kind sh4 = 3 := by decide +kernel
theorem sh4_set : ordL.foldl (fun sh o => sh.set o (hv4 o)) (List.replicate 19 0) = sh4 := by decide +kernel
def dynB (L D : List Nat) : List Nat := numB (L.length - 257) 5 ++ (numB (D.length - 1) 5 ++ (numB 15 4 ++ ((ordL.flatMap fun o => numB (hv4 o) 3) ++ (L ++ D).flatMap fun x => wordB x 4)))
theorem shortL_at {b : List UInt8} : ∀ {l : List Nat} {pos : Nat} {sh : List Nat}, At b pos (l.flatMap fun o => numB (hv4 o) 3) → shortL b l pos sh = some (l.foldl (fun sh o => sh.set o (hv4 o)) sh, pos + (l.flatMap fun o => numB (hv4 o) 3).length)
  | [], pos, sh, _ => by simp [shortL]
  | o :: l, pos, sh, hA => by
    rw [List.flatMap_cons] at hA ⊢
    obtain ⟨a1, a2⟩ := hA.app
    rw [numB_len] at a2
    rw [shortL, rd_num a1 (by unfold hv4; split <;> omega)]
    simp only
    rw [shortL_at a2, List.foldl_cons, List.length_append, numB_len, Nat.add_assoc]
theorem lensL_at {b : List UInt8} {tot : Nat} : ∀ {xs : List Nat} {f pos : Nat} {lens : List Nat}, At b pos (xs.flatMap fun x => wordB x 4) → (∀ x ∈ xs, x ≤ 15) → tot = lens.length + xs.length → xs.length < f →
    lensL b sh4 tot f pos lens = .ok (pos + (xs.flatMap fun x => wordB x 4).length, lens ++ xs)
  | [], f, pos, lens, _, _, ht, hf => by
    rw [lensL_end (by simp at ht; omega) (by simpa using hf)]
    simp
  | x :: xs, f + 1, pos, lens, hA, hx, ht, hf => by
    rw [List.flatMap_cons] at hA ⊢
    obtain ⟨a1, a2⟩ := hA.app
    rw [wordB_len] at a2
    simp only [List.length_cons] at ht hf
    have h15 := hx x (List.mem_cons_self ..)
    have hw := sh4_W x (by omega)
    have hs : sym (code sh4).1 (code sh4).2 b pos = some (x, pos + 4) := by
      have := sh4_wd.sym (b := b) (s := x) (pos := pos) (by simp [sh4]; omega) (by rw [hw.2]; omega) (by rw [hw.1, hw.2]; exact a1)
      rw [hw.2] at this
      exact this
    rw [lensL_step (by omega) hs]
    unfold rep
    rw [if_neg (by omega), if_neg (by omega), if_neg (by omega)]
    simp only [lensK]
    rw [if_neg (by omega), lensL_at a2 (fun y hy => hx y (List.mem_cons_of_mem _ hy)) (by simp; omega) (by omega)]
    simp [wordB_len, Nat.add_assoc]
theorem dyn_at {b : List UInt8} {pos : Nat} {L D : List Nat} (hL : 257 ≤ L.length ∧ L.length ≤ 286) (hD : 1 ≤ D.length ∧ D.length ≤ 30) (h15 : ∀ x ∈ L ++ D, x ≤ 15) (hA : At b pos (dynB L D)) : dyn b pos = dynE L.length (.ok (pos + (dynB L D).length, L ++ D)) := by
  have e : (dynB L D).length = 5 + (5 + (4 + ((ordL.flatMap fun o => numB (hv4 o) 3).length + ((L ++ D).flatMap fun x => wordB x 4).length))) := by simp only [dynB, List.length_append, numB_len]
  obtain ⟨a1, a2⟩ := hA.app
  obtain ⟨a2, a3⟩ := a2.app
  obtain ⟨a3, a4⟩ := a3.app
  obtain ⟨a4, a5⟩ := a4.app
  rw [numB_len] at a2 a3 a4 a5
  rw [numB_len] at a3 a4 a5
  rw [numB_len] at a4 a5
  have hh : headD b pos = some (L.length, D.length, 19, pos + 5 + 5 + 4) := by
    unfold headD
    rw [rd_num a1 (by omega)]
    simp only
    rw [rd_num a2 (by omega)]
    simp only
    rw [rd_num a3 (by omega)]
    simp only [Option.some.injEq, Prod.mk.injEq, and_true]
    omega
  unfold dyn
  rw [hh]
  simp only
  rw [if_neg (by omega), show ordL.take 19 = ordL from rfl, shortL_at a4, sh4_set]
  unfold dynS
  simp only
  rw [sh4_kind, if_pos (by simp), lensL_at a5 h15 (by simp) (by simp)]
  rw [List.nil_append, e]
  simp only [Nat.add_assoc]
theorem dyn_len (L D : List Nat) : (dynB L D).length = 71 + 4 * (L.length + D.length) := by
  have h1 : (ordL.flatMap fun o => numB (hv4 o) 3).length = 57 := by decide +kernel
  have h2 : ∀ xs : List Nat, (xs.flatMap fun x => wordB x 4).length = 4 * xs.length := by
    intro xs
    induction xs with
    | nil => rfl
    | cons x xs ih => rw [List.flatMap_cons, List.length_append, ih, wordB_len, List.length_cons]; omega
  simp only [dynB, List.length_append, numB_len, h1, h2]
  omega
theorem dynB_two (L D : List Nat) : ∀ x ∈ dynB L D, x < 2 := fun x hx => by
  unfold dynB at hx
  rcases List.mem_append.1 hx with h | h
  · exact numB_two x h
  rcases List.mem_append.1 h with h | h
  · exact numB_two x h
  rcases List.mem_append.1 h with h | h
  · exact numB_two x h
  rcases List.mem_append.1 h with h | h
  · obtain ⟨t, _, ht⟩ := List.mem_flatMap.1 h
    exact numB_two x ht
  · obtain ⟨t, _, ht⟩ := List.mem_flatMap.1 h
    exact wordB_two x ht
/- Which lengths a dynamic block may have. -/
theorem sum_nz (ls : List Nat) : (nz ls).sum = ls.sum := by
  induction ls with
  | nil => rfl
  | cons x r ih =>
    unfold nz at ih ⊢
    by_cases h : 0 < x
    · rw [List.filter_cons_of_pos (by simpa using h), List.sum_cons, List.sum_cons, ih]
    · rw [List.filter_cons_of_neg (by simpa using h), List.sum_cons, ih]
      omega
theorem nz_pos {ls : List Nat} : ∀ x ∈ nz ls, 1 ≤ x := fun x hx => by
  exact of_decide_eq_true (List.mem_filter.1 hx).2
theorem sum_one {ls : List Nat} : ls.sum = 1 ↔ nz ls = [1] := by
  rw [← sum_nz]
  constructor
  · intro h
    have hp := nz_pos (ls := ls)
    match hz : nz ls with
    | [] => rw [hz] at h; simp at h
    | [x] => rw [hz] at h; simp at h; rw [h]
    | x :: y :: r =>
      rw [hz] at h hp
      have h1 := hp x (by simp)
      have h2 := hp y (by simp)
      simp only [List.sum_cons] at h
      omega
  · intro h
    rw [h]; rfl
theorem sum_zero {ls : List Nat} : ls.sum = 0 ↔ (nz ls).length = 0 := by
  rw [← sum_nz]
  constructor
  · intro h
    have hp := nz_pos (ls := ls)
    match hz : nz ls with
    | [] => rfl
    | x :: r =>
      rw [hz] at h hp
      have h1 := hp x (by simp)
      simp only [List.sum_cons] at h
      omega
  · intro h
    rw [List.length_eq_zero_iff.1 h]; rfl
theorem kind_full' {ls : List Nat} (h : ∀ l ∈ ls, l ≤ 15) : kind ls ∈ [3, 2] ↔ kraft ls = 32768 ∨ ls.sum = 1 := by
  rw [sum_one, ← nz_one]
  rw [kind_eq h]
  have hk : nz ls = [1] → kraft ls = 16384 := fun e => by rw [kraft_nz, e]; rfl
  have hn := nz_one (ls := ls)
  by_cases h1 : kraft ls ≤ 32768
  · rw [if_pos h1]
    by_cases h2 : kraft ls = 32768
    · simp [h2]
    · rw [if_neg h2]
      by_cases h3 : (nz ls).length = 0
      · simp [h3, h2]
      · rw [if_neg h3]
        by_cases h4 : (nz ls).length = 1 ∧ ls.count 1 = 1
        · simp [h4]
        · rw [if_neg h4]
          simp [h2, h4]
  · rw [if_neg h1]
    by_cases h4 : (nz ls).length = 1 ∧ ls.count 1 = 1
    · have := hk (hn.1 h4)
      omega
    · simp [h4]
      omega
theorem kind_bare' {ls : List Nat} (h : ∀ l ∈ ls, l ≤ 15) : kind ls ∈ [3, 2, 1] ↔ kraft ls = 32768 ∨ ls.sum = 1 ∨ ls.sum = 0 := by
  have h1 := kind_full' h
  have h2 : kind ls = 1 ↔ ls.sum = 0 := by
    rw [sum_zero, kind_eq h]
    have hk : (nz ls).length = 0 → kraft ls = 0 := fun e => by rw [kraft_nz, List.length_eq_zero_iff.1 e]; rfl
    by_cases h3 : (nz ls).length = 0
    · have := hk h3
      rw [if_pos (by omega), if_neg (by omega), if_pos h3]
      simp [h3]
    · simp only [if_neg h3]
      repeat' split
      all_goals simp_all
  simp only [List.mem_cons, List.not_mem_nil, or_false] at h1 ⊢
  rw [← h2, ← or_assoc, h1, or_assoc]
/-- Lengths that a dynamic block may have. -/
def may (L D : List Nat) : Prop := L.getD 256 0 ≠ 0 ∧ (kraft L = 32768 ∨ L.sum = 1) ∧ (kraft D = 32768 ∨ D.sum = 1 ∨ D.sum = 0)
instance (L D : List Nat) : Decidable (may L D) := by unfold may; infer_instance
theorem dynE_may {L D : List Nat} {p : Nat} (hL : 257 ≤ L.length) (h15 : ∀ x ∈ L ++ D, x ≤ 15) : dynE L.length (.ok (p, L ++ D)) = if may L D then .ok (p, L, D) else .error 240 := by
  have a : ∀ x ∈ L, x ≤ 15 := fun x hx => h15 x (List.mem_append_left _ hx)
  have b : ∀ x ∈ D, x ≤ 15 := fun x hx => h15 x (List.mem_append_right _ hx)
  have h256 : (L ++ D).getD 256 0 = L.getD 256 0 := by rw [List.getD_eq_getElem?_getD, List.getElem?_append_left (by omega), ← List.getD_eq_getElem?_getD]
  simp only [dynE, List.take_left, List.drop_left, h256, kind_full' a, kind_bare' b]
  by_cases h1 : L.getD 256 0 = 0
  · rw [if_pos h1, if_neg (fun h : may L D => h.1 h1)]
  · rw [if_neg h1]
    by_cases h2 : kraft L = 32768 ∨ L.sum = 1
    · rw [if_pos h2]
      by_cases h3 : kraft D = 32768 ∨ D.sum = 1 ∨ D.sum = 0
      · rw [if_pos h3, if_pos (show may L D from ⟨h1, h2, h3⟩)]
      · rw [if_neg h3, if_neg (fun h : may L D => h3 h.2.2)]
    · rw [if_neg h2, if_neg (fun h : may L D => h2 h.2.1)]
theorem wd_of {ls : List Nat} (h : ∀ x ∈ ls, x ≤ 15) (hk : kraft ls = 32768 ∨ ls.sum = 1 ∨ ls.sum = 0) : Wd ls := by
  refine ⟨?_, h⟩
  rcases hk with h | h | h
  · omega
  · rw [kraft_nz, sum_one.1 h]; decide
  · rw [kraft_nz, List.length_eq_zero_iff.1 (sum_zero.1 h)]; decide
def dynH (L D : List Nat) : List Nat := numB 1 1 ++ (numB 2 2 ++ dynB L D)
theorem dynH_two (L D : List Nat) : ∀ x ∈ dynH L D, x < 2 := fun x hx => by
  rcases List.mem_append.1 hx with h | h
  · exact numB_two x h
  rcases List.mem_append.1 h with h | h
  · exact numB_two x h
  · exact dynB_two L D x h
theorem infl_bad {st : List UInt8 × Nat} {L D : List Nat} {m : Nat} (hw : Wr st (dynH L D)) (hL : 257 ≤ L.length ∧ L.length ≤ 286) (hD : 1 ≤ D.length ∧ D.length ≤ 30) (h15 : ∀ x ∈ L ++ D, x ≤ 15) (hno : ¬ may L D) : infl st.1 m = ([], 0, 240) := by
  unfold infl blocks
  obtain ⟨c1, g1⟩ := block_at (m := m) (f := 8 * st.1.length) (out := []) (by omega) (by omega) hw.at
  rw [g1]
  unfold kindB
  rw [if_neg (by omega), if_neg (by omega), if_pos rfl, dyn_at hL hD h15 c1, dynE_may hL.1 h15, if_neg hno]
theorem infl_dyn {st : List UInt8 × Nat} {L D : List Nat} {as : List Tk} {m : Nat} (hw : Wr st (dynH L D ++ toksB L D as)) (hL : 257 ≤ L.length ∧ L.length ≤ 286) (hD : 1 ≤ D.length ∧ D.length ≤ 30) (h15 : ∀ x ∈ L ++ D, x ≤ 15) (hmay : may L D) (hv : Valid [] as) (hok : ∀ t ∈ as, tokOk L D t) (hm : (unf [] as).length ≤ m) :
    infl st.1 m = (unf [] as, st.1.length, 0) := by
  have hl := hw.len
  have hf := hw.fr
  have hlen : (dynH L D ++ toksB L D as).length = 3 + (dynB L D).length + (toksB L D as).length := by simp [dynH, numB_len]; omega
  have hA := hw.at
  have hAs : At st.1 0 (numB 1 1 ++ (numB 2 2 ++ (dynB L D ++ toksB L D as))) := by
    have e : dynH L D ++ toksB L D as = numB 1 1 ++ (numB 2 2 ++ (dynB L D ++ toksB L D as)) := by simp [dynH]
    rw [← e]; exact hA
  unfold infl blocks
  obtain ⟨c1, g1⟩ := block_at (m := m) (f := 8 * st.1.length) (out := []) (by omega) (by omega) hAs
  obtain ⟨c1, c2⟩ := c1.app
  have h1 : symsL st.1 L D m (8 * st.1.length + 1) (0 + 3 + (dynB L D).length) [] = _ := symsL_toks (wd_of (fun x hx => h15 x (List.mem_append_left _ hx)) (by have := hmay.2.1; omega)) (wd_of (fun x hx => h15 x (List.mem_append_right _ hx)) hmay.2.2) (by omega) hmay.1 c2 hv hok hm (by
    have h2 := toks_count hok
    have h3 := c2.1
    rw [toksB, List.length_append] at h3
    omega)
  rw [g1]
  unfold kindB
  rw [if_neg (by omega), if_neg (by omega), if_pos rfl, dyn_at hL hD h15 c1, dynE_may hL.1 h15, if_pos hmay]
  simp only
  unfold syms
  rw [h1]
  simp only
  rw [if_neg (by omega)]
  simp only [Prod.mk.injEq, true_and, and_true]
  omega
end Infl
