/- Readers of bytes that agree for a while: what was read so far is the same; and bytes that end there are broken. -/
import Derived.Test.YtjhpbljkpbdnnaaDoorInfR
namespace Infl
/-- b' begins as b does, for c bytes. -/
structure Agr (b b' : List UInt8) (c : Nat) : Prop where
  le : c ≤ b.length
  le' : c ≤ b'.length
  eq : ∀ i, i < c → b'.getD i 0 = b.getD i 0
variable {b b' : List UInt8} {c : Nat}
theorem Agr.bit (A : Agr b b' c) {i : Nat} (h : i < 8 * c) : Infl.bit b' i = Infl.bit b i := by
  unfold Infl.bit
  rw [A.eq _ (by omega)]
theorem Agr.num (A : Agr b b' c) {pos : Nat} : ∀ k, pos + k ≤ 8 * c → Infl.num b' pos k = Infl.num b pos k
  | 0, _ => rfl
  | k + 1, h => by rw [Infl.num, Infl.num, A.num k (by omega), A.bit (by omega)]
theorem rdN_goes (A : Agr b b' c) {k pos v p : Nat} (h : rdN b k pos = some (v, p)) : (p ≤ 8 * c → rdN b' k pos = some (v, p)) ∧ (8 * c < p → b'.length = c → rdN b' k pos = none) := by
  unfold rdN at h ⊢
  split at h
  · simp only [Option.some.injEq, Prod.mk.injEq] at h
    obtain ⟨rfl, rfl⟩ := h
    have := A.le'
    exact ⟨fun hq => by rw [if_pos (by omega), A.num k hq], fun hq hz => by rw [if_neg (by omega)]⟩
  · cases h
theorem symL_pos {cnt syms : List Nat} : ∀ {f word first a pos v p : Nat}, symL cnt syms b f word first a pos = some (v, p) → pos < p
  | 0, _, _, _, _, _, _, h => by simp [symL] at h
  | f + 1, _, _, _, pos, v, p, h => by
    simp only [symL] at h
    split at h
    · split at h
      · simp only [Option.some.injEq, Prod.mk.injEq] at h; omega
      · have := symL_pos h; omega
    · cases h
theorem symL_goes (A : Agr b b' c) {cnt syms : List Nat} {v p : Nat} : ∀ {f word first a pos : Nat}, symL cnt syms b f word first a pos = some (v, p) → pos ≤ 8 * c → (p ≤ 8 * c → symL cnt syms b' f word first a pos = some (v, p)) ∧ (8 * c < p → b'.length = c → symL cnt syms b' f word first a pos = none)
  | 0, _, _, _, _, h, _ => by simp [symL] at h
  | f + 1, word, first, a, pos, h, hp => by
    have hle := symL_pos h
    have hl := A.le'
    simp only [symL] at h ⊢
    split at h
    · by_cases hq : pos + 1 ≤ 8 * c
      · rw [if_pos (show pos + 1 ≤ 8 * b'.length by omega), A.bit (show pos < 8 * c by omega)]
        split at h
        · rename_i h2
          rw [if_pos h2]
          simp only [Option.some.injEq, Prod.mk.injEq] at h
          exact ⟨fun _ => by rw [h.1, h.2], fun h3 => by omega⟩
        · rename_i h2
          rw [if_neg h2]
          exact symL_goes A h hq
      · exact ⟨fun h3 => by omega, fun _ hz => by rw [if_neg (by omega)]⟩
    · cases h
theorem sym_goes (A : Agr b b' c) {cnt syms : List Nat} {v p pos : Nat} (h : sym cnt syms b pos = some (v, p)) (hp : pos ≤ 8 * c) : (p ≤ 8 * c → sym cnt syms b' pos = some (v, p)) ∧ (8 * c < p → b'.length = c → sym cnt syms b' pos = none) := symL_goes A h hp
theorem lenAt_goes (A : Agr b b' c) {s pos n p : Nat} (h : lenAt b s pos = some (n, p)) (hp : pos ≤ 8 * c) : (p ≤ 8 * c → lenAt b' s pos = some (n, p)) ∧ (8 * c < p → b'.length = c → lenAt b' s pos = none) := by
  unfold lenAt at h ⊢
  split at h
  · rename_i h1
    rw [if_pos h1]
    split at h
    · rename_i v q hr
      have g := rdN_goes A hr
      simp only [Option.some.injEq, Prod.mk.injEq] at h
      obtain ⟨rfl, rfl⟩ := h
      exact ⟨fun hq => by rw [g.1 hq], fun hq hz => by rw [g.2 hq hz]⟩
    · cases h
  · rename_i h1
    rw [if_neg h1]
    simp only [Option.some.injEq, Prod.mk.injEq] at h
    obtain ⟨rfl, rfl⟩ := h
    exact ⟨fun _ => rfl, fun h3 => by omega⟩
theorem distAt_goes (A : Agr b b' c) {dl : List Nat} {pos d p : Nat} (h : distAt b dl pos = some (d, p)) (hp : pos ≤ 8 * c) : (p ≤ 8 * c → distAt b' dl pos = some (d, p)) ∧ (8 * c < p → b'.length = c → distAt b' dl pos = none) := by
  unfold distAt at h ⊢
  split at h
  · cases h
  · rename_i s q hs
    have g := sym_goes A hs hp
    split at h
    · cases h
    · rename_i h29
      split at h
      · rename_i v q' hr
        have g2 := rdN_goes A hr
        have hr' := rdN_le hr
        simp only [Option.some.injEq, Prod.mk.injEq] at h
        obtain ⟨rfl, rfl⟩ := h
        by_cases hc : q ≤ 8 * c
        · simp only [g.1 hc, if_neg h29]
          exact ⟨fun h3 => by simp only [g2.1 h3], fun h3 hz => by simp only [g2.2 h3 hz]⟩
        · exact ⟨fun h3 => by omega, fun _ hz => by simp only [g.2 (by omega) hz]⟩
      · cases h
theorem copied_goes (A : Agr b b' c) {out o : List UInt8} {dl : List Nat} {most s pos p : Nat} (h : copied b dl most s pos out = .ok (p, o)) (hp : pos ≤ 8 * c) : (p ≤ 8 * c → copied b' dl most s pos out = .ok (p, o)) ∧ (8 * c < p → b'.length = c → copied b' dl most s pos out = .error 240) := by
  unfold copied at h ⊢
  split at h
  · cases h
  · rename_i h285
    rw [if_neg h285]
    split at h
    · cases h
    · rename_i n q hl
      split at h
      · cases h
      · rename_i d q' hd
        split at h
        · cases h
        · rename_i hlt
          split at h
          · cases h
          · rename_i o2 hcp
            simp only [Except.ok.injEq, Prod.mk.injEq] at h
            obtain ⟨rfl, rfl⟩ := h
            have g1 := lenAt_goes A hl hp
            have le2 := distAt_le hd
            by_cases hc : q ≤ 8 * c
            · have g2 := distAt_goes A hd hc
              simp only [g1.1 hc]
              exact ⟨fun h3 => by simp only [g2.1 h3, if_neg hlt, hcp], fun h3 hz => by simp only [g2.2 h3 hz]⟩
            · exact ⟨fun h3 => by omega, fun _ hz => by simp only [g1.2 (by omega) hz]⟩
theorem symsL_goes (A : Agr b b' c) {ll dl : List Nat} {most p : Nat} {o : List UInt8} : ∀ {f f' pos : Nat} {out : List UInt8}, symsL b ll dl most f pos out = .ok (p, o) → pos ≤ 8 * c → 8 * b'.length < f' + pos → (p ≤ 8 * c → symsL b' ll dl most f' pos out = .ok (p, o)) ∧ (8 * c < p → b'.length = c → symsL b' ll dl most f' pos out = .error 240)
  | 0, _, _, _, h, _, _ => by simp [symsL] at h
  | f + 1, f', pos, out, h, hp, hf => by
    have hl := A.le'
    obtain ⟨f2, rfl⟩ : ∃ f2, f' = f2 + 1 := ⟨f' - 1, by omega⟩
    rw [symsL] at h ⊢
    split at h
    · cases h
    · rename_i s q hs
      have hq := sym_le hs
      have g := sym_goes A hs hp
      split at h
      · rename_i h1
        split at h
        · cases h
        · rename_i o2 ho
          have le2 := symsL_le h
          by_cases hc : q ≤ 8 * c
          · simp only [g.1 hc, if_pos h1, ho]
            exact symsL_goes A h hc (by omega)
          · exact ⟨fun h3 => by simp only at le2; omega, fun _ hz => by simp only [g.2 (by omega) hz]⟩
      · rename_i h1
        split at h
        · rename_i h2
          simp only [Except.ok.injEq, Prod.mk.injEq] at h
          obtain ⟨rfl, rfl⟩ := h
          exact ⟨fun h3 => by simp only [g.1 h3, if_neg h1, if_pos h2], fun h3 hz => by simp only [g.2 h3 hz]⟩
        · rename_i h2
          split at h
          · cases h
          · rename_i p2 o2 hcp
            have le3 := copied_le hcp
            have le2 := symsL_le h
            simp only at le2
            by_cases hc : q ≤ 8 * c
            · have g2 := copied_goes A hcp hc
              simp only [g.1 hc, if_neg h1, if_neg h2]
              by_cases hd : p2 ≤ 8 * c
              · simp only [g2.1 hd]
                exact symsL_goes A h hd (by omega)
              · exact ⟨fun h3 => by omega, fun _ hz => by simp only [g2.2 (by omega) hz]⟩
            · exact ⟨fun h3 => by omega, fun _ hz => by simp only [g.2 (by omega) hz]⟩
theorem syms_goes (A : Agr b b' c) {ll dl : List Nat} {most p pos : Nat} {out o : List UInt8} (h : syms b ll dl most pos out = .ok (p, o)) (hp : pos ≤ 8 * c) : (p ≤ 8 * c → syms b' ll dl most pos out = .ok (p, o)) ∧ (8 * c < p → b'.length = c → syms b' ll dl most pos out = .error 240) := symsL_goes A h hp (by omega)
theorem rawL_goes (A : Agr b b' c) {most p : Nat} {o : List UInt8} : ∀ {k at_ : Nat} {out : List UInt8}, rawL b most k at_ out = .ok (p, o) → at_ ≤ c → (p ≤ 8 * c → rawL b' most k at_ out = .ok (p, o)) ∧ (8 * c < p → b'.length = c → rawL b' most k at_ out = .error 240)
  | 0, at_, out, h, hp => by
    simp only [rawL, Except.ok.injEq, Prod.mk.injEq] at h ⊢
    exact ⟨fun _ => h, fun h3 => by omega⟩
  | k + 1, at_, out, h, hp => by
    have hl := A.le'
    rw [rawL] at h ⊢
    split at h
    · cases h
    · rename_i h1
      split at h
      · cases h
      · rename_i o2 ho
        have le2 := rawL_le h
        simp only at le2
        by_cases hc : at_ + 1 ≤ c
        · rw [if_neg (show ¬ at_ = b'.length by omega), A.eq _ (show at_ < c by omega)]
          simp only [ho]
          exact rawL_goes A h hc
        · exact ⟨fun h3 => by omega, fun _ hz => by rw [if_pos (by omega)]⟩
theorem raw_goes (A : Agr b b' c) {most p pos : Nat} {out o : List UInt8} (h : raw b most pos out = .ok (p, o)) (_hp : pos ≤ 8 * c) : (p ≤ 8 * c → raw b' most pos out = .ok (p, o)) ∧ (8 * c < p → b'.length = c → raw b' most pos out = .error 240) := by
  unfold raw at h ⊢
  split at h
  · cases h
  · rename_i n q h1
    split at h
    · cases h
    · rename_i m q' h2
      split at h
      · rename_i h3
        have l1 := rdN_le h1
        have l2 := rdN_le h2
        have l3 := rawL_le h
        simp only at l3
        have g1 := rdN_goes A h1
        have g2 := rdN_goes A h2
        by_cases hc : q ≤ 8 * c
        · simp only [g1.1 hc]
          by_cases hd : q' ≤ 8 * c
          · simp only [g2.1 hd, if_pos h3]
            exact rawL_goes A h (by omega)
          · exact ⟨fun h3 => by omega, fun _ hz => by simp only [g2.2 (by omega) hz]⟩
        · exact ⟨fun h3 => by omega, fun _ hz => by simp only [g1.2 (by omega) hz]⟩
      · cases h
theorem shortL_goes (A : Agr b b' c) {sh2 : List Nat} {p : Nat} : ∀ {l : List Nat} {pos : Nat} {sh : List Nat}, shortL b l pos sh = some (sh2, p) → pos ≤ 8 * c → (p ≤ 8 * c → shortL b' l pos sh = some (sh2, p)) ∧ (8 * c < p → b'.length = c → shortL b' l pos sh = none)
  | [], pos, sh, h, hp => by
    simp only [shortL, Option.some.injEq, Prod.mk.injEq] at h ⊢
    exact ⟨fun _ => h, fun h3 => by omega⟩
  | x :: l, pos, sh, h, hp => by
    rw [shortL] at h ⊢
    split at h
    · cases h
    · rename_i v q h1
      have l1 := shortL_le h
      simp only at l1
      have g1 := rdN_goes A h1
      by_cases hc : q ≤ 8 * c
      · simp only [g1.1 hc]
        exact shortL_goes A h hc
      · exact ⟨fun h3 => by omega, fun _ hz => by simp only [g1.2 (by omega) hz]⟩
theorem rep_goes (A : Agr b b' c) {s pos : Nat} {lens : List Nat} {s' n p : Nat} (h : rep b s pos lens = some (s', n, p)) (hp : pos ≤ 8 * c) : (p ≤ 8 * c → rep b' s pos lens = some (s', n, p)) ∧ (8 * c < p → b'.length = c → rep b' s pos lens = none) := by
  unfold rep at h ⊢
  split at h
  · rename_i h1
    rw [if_pos h1]
    split at h
    · cases h
    · rename_i h2
      rw [if_neg h2]
      split at h
      · rename_i v q hr
        have g := rdN_goes A hr
        simp only [Option.some.injEq, Prod.mk.injEq] at h
        obtain ⟨rfl, rfl, rfl⟩ := h
        exact ⟨fun hq => by simp only [g.1 hq], fun hq hz => by simp only [g.2 hq hz]⟩
      · cases h
  · rename_i h1
    rw [if_neg h1]
    split at h
    · rename_i h2
      rw [if_pos h2]
      split at h
      · rename_i v q hr
        have g := rdN_goes A hr
        simp only [Option.some.injEq, Prod.mk.injEq] at h
        obtain ⟨rfl, rfl, rfl⟩ := h
        exact ⟨fun hq => by simp only [g.1 hq], fun hq hz => by simp only [g.2 hq hz]⟩
      · cases h
    · rename_i h2
      rw [if_neg h2]
      split at h
      · rename_i h3
        rw [if_pos h3]
        split at h
        · rename_i v q hr
          have g := rdN_goes A hr
          simp only [Option.some.injEq, Prod.mk.injEq] at h
          obtain ⟨rfl, rfl, rfl⟩ := h
          exact ⟨fun hq => by simp only [g.1 hq], fun hq hz => by simp only [g.2 hq hz]⟩
        · cases h
      · rename_i h3
        rw [if_neg h3]
        simp only [Option.some.injEq, Prod.mk.injEq] at h ⊢
        exact ⟨fun _ => h, fun h3 => by omega⟩
theorem lensL_goes (A : Agr b b' c) {sh : List Nat} {tot p : Nat} {ls : List Nat} : ∀ {f pos : Nat} {lens : List Nat}, lensL b sh tot f pos lens = .ok (p, ls) → pos ≤ 8 * c → (p ≤ 8 * c → lensL b' sh tot f pos lens = .ok (p, ls)) ∧ (8 * c < p → b'.length = c → lensL b' sh tot f pos lens = .error 240)
  | 0, _, _, h, _ => by simp [lensL] at h
  | f + 1, pos, lens, h, hp => by
    rw [lensL] at h ⊢
    split at h
    · rename_i h1
      rw [if_pos h1]
      split at h
      · cases h
      · rename_i s q hs
        have g := sym_goes A hs hp
        split at h
        · cases h
        · rename_i s' n q' hr
          have l1 := rep_le hr
          split at h
          · cases h
          · rename_i h2
            have l2 := lensL_le h
            simp only at l2
            by_cases hc : q ≤ 8 * c
            · have g2 := rep_goes A hr hc
              simp only [g.1 hc]
              by_cases hd : q' ≤ 8 * c
              · simp only [g2.1 hd, if_neg h2]
                exact lensL_goes A h hd
              · exact ⟨fun h3 => by omega, fun _ hz => by simp only [g2.2 (by omega) hz]⟩
            · exact ⟨fun h3 => by omega, fun _ hz => by simp only [g.2 (by omega) hz]⟩
    · rename_i h1
      rw [if_neg h1]
      simp only [Except.ok.injEq, Prod.mk.injEq] at h ⊢
      exact ⟨fun _ => h, fun h3 => by omega⟩
theorem headD_goes (A : Agr b b' c) {pos l d k p : Nat} (h : headD b pos = some (l, d, k, p)) : (p ≤ 8 * c → headD b' pos = some (l, d, k, p)) ∧ (8 * c < p → b'.length = c → headD b' pos = none) := by
  unfold headD at h ⊢
  split at h
  · cases h
  · rename_i x1 q1 h1
    split at h
    · cases h
    · rename_i x2 q2 h2
      split at h
      · cases h
      · rename_i x3 q3 h3
        simp only [Option.some.injEq, Prod.mk.injEq] at h
        obtain ⟨rfl, rfl, rfl, rfl⟩ := h
        have l2 := rdN_le h2
        have l3 := rdN_le h3
        have g1 := rdN_goes A h1
        have g2 := rdN_goes A h2
        have g3 := rdN_goes A h3
        by_cases c1 : q1 ≤ 8 * c
        · simp only [g1.1 c1]
          by_cases c2 : q2 ≤ 8 * c
          · simp only [g2.1 c2]
            exact ⟨fun h3 => by simp only [g3.1 h3], fun h3 hz => by simp only [g3.2 h3 hz]⟩
          · exact ⟨fun h3 => by omega, fun _ hz => by simp only [g2.2 (by omega) hz]⟩
        · exact ⟨fun h3 => by omega, fun _ hz => by simp only [g1.2 (by omega) hz]⟩
theorem headD_le {pos l d k p : Nat} (h : headD b pos = some (l, d, k, p)) : pos ≤ p := by
  unfold headD at h
  split at h
  · cases h
  · rename_i x1 q1 h1
    split at h
    · cases h
    · rename_i x2 q2 h2
      split at h
      · cases h
      · rename_i x3 q3 h3
        simp only [Option.some.injEq, Prod.mk.injEq] at h
        have l1 := rdN_le h1
        have l2 := rdN_le h2
        have l3 := rdN_le h3
        omega
theorem dynE_ok {l p : Nat} {x y : List Nat} {r : Except Nat (Nat × List Nat)} (h : dynE l r = .ok (p, x, y)) : ∃ ls, r = .ok (p, ls) := by
  cases r with
  | error e => simp [dynE] at h
  | ok q =>
    obtain ⟨q, ls⟩ := q
    simp only [dynE] at h
    split at h
    · cases h
    · split at h
      · split at h
        · simp only [Except.ok.injEq, Prod.mk.injEq] at h
          exact ⟨ls, by rw [h.1]⟩
        · cases h
      · cases h
theorem dyn_goes (A : Agr b b' c) {pos p : Nat} {ll dl : List Nat} (h : dyn b pos = .ok (p, ll, dl)) : (p ≤ 8 * c → dyn b' pos = .ok (p, ll, dl)) ∧ (8 * c < p → b'.length = c → dyn b' pos = .error 240) := by
  unfold dyn at h ⊢
  split at h
  · cases h
  · rename_i l d k q h1
    have g1 := headD_goes A h1
    split at h
    · cases h
    · rename_i h2
      cases hs : shortL b (ordL.take k) q (List.replicate 19 0) with
      | none => rw [hs] at h; simp [dynS] at h
      | some r =>
        obtain ⟨sh, q2⟩ := r
        rw [hs] at h
        simp only [dynS] at h
        split at h
        · rename_i h3
          obtain ⟨ls, hls⟩ := dynE_ok h
          have l1 := shortL_le hs
          have l2 := lensL_le hls
          simp only at l1 l2
          by_cases c1 : q ≤ 8 * c
          · have g2 := shortL_goes A hs c1
            simp only [g1.1 c1, if_neg h2]
            by_cases c2 : q2 ≤ 8 * c
            · have g3 := lensL_goes A hls c2
              simp only [g2.1 c2, dynS, if_pos h3]
              exact ⟨fun h4 => by rw [g3.1 h4, ← hls]; exact h, fun h4 hz => by rw [g3.2 h4 hz]; rfl⟩
            · exact ⟨fun h3 => by omega, fun _ hz => by simp only [g2.2 (by omega) hz, dynS]⟩
          · exact ⟨fun h3 => by omega, fun _ hz => by simp only [g1.2 (by omega) hz]⟩
        · cases h
theorem kindB_goes (A : Agr b b' c) {most k pos p : Nat} {out o : List UInt8} (h : kindB b most k pos out = .ok (p, o)) (hp : pos ≤ 8 * c) : (p ≤ 8 * c → kindB b' most k pos out = .ok (p, o)) ∧ (8 * c < p → b'.length = c → kindB b' most k pos out = .error 240) := by
  unfold kindB at h ⊢
  split at h
  · rename_i h1
    rw [if_pos h1]
    exact raw_goes A h hp
  · rename_i h1
    rw [if_neg h1]
    split at h
    · rename_i h2
      rw [if_pos h2]
      exact syms_goes A h hp
    · rename_i h2
      rw [if_neg h2]
      split at h
      · rename_i h3
        rw [if_pos h3]
        split at h
        · cases h
        · rename_i q ll dl hd
          have g := dyn_goes A hd
          have l2 := symsL_le h
          simp only at l2
          by_cases c1 : q ≤ 8 * c
          · simp only [g.1 c1]
            exact syms_goes A h c1
          · exact ⟨fun h3 => by omega, fun _ hz => by simp only [g.2 (by omega) hz]⟩
      · cases h
theorem blocksL_le {most : Nat} : ∀ {f pos : Nat} {out : List UInt8} {r : Nat × List UInt8}, blocksL b most f pos out = .ok r → pos < r.1
  | 0, _, _, _, h => by simp [blocksL] at h
  | f + 1, pos, out, r, h => by
    rw [blocksL] at h
    split at h
    · cases h
    · rename_i last q1 h1
      split at h
      · cases h
      · rename_i k q2 h2
        have l1 := rdN_le h1
        have l2 := rdN_le h2
        split at h
        · cases h
        · rename_i q3 o3 h3
          have l3 := kindB_le h3
          simp only at l3
          split at h
          · have := blocksL_le h
            omega
          · simp only [Except.ok.injEq] at h
            subst h
            simp only
            omega
theorem blocksL_goes (A : Agr b b' c) {most p : Nat} {o : List UInt8} : ∀ {f f' pos : Nat} {out : List UInt8}, blocksL b most f pos out = .ok (p, o) → pos ≤ 8 * c → 8 * b'.length < f' + pos → (p ≤ 8 * c → blocksL b' most f' pos out = .ok (p, o)) ∧ (8 * c < p → b'.length = c → blocksL b' most f' pos out = .error 240)
  | 0, _, _, _, h, _, _ => by simp [blocksL] at h
  | f + 1, f', pos, out, h, hp, hf => by
    have hl := A.le'
    obtain ⟨f2, rfl⟩ : ∃ f2, f' = f2 + 1 := ⟨f' - 1, by omega⟩
    rw [blocksL] at h ⊢
    split at h
    · cases h
    · rename_i last q1 h1
      split at h
      · cases h
      · rename_i k q2 h2
        have l1 := rdN_le h1
        have l2 := rdN_le h2
        have g1 := rdN_goes A h1
        have g2 := rdN_goes A h2
        split at h
        · cases h
        · rename_i q3 o3 h3
          have l3 := kindB_le h3
          simp only at l3
          have l4 : q3 ≤ p := by
            split at h
            · have := blocksL_le h
              simp only at this
              omega
            · simp only [Except.ok.injEq, Prod.mk.injEq] at h
              omega
          by_cases c1 : q1 ≤ 8 * c
          · simp only [g1.1 c1]
            by_cases c2 : q2 ≤ 8 * c
            · have g3 := kindB_goes A h3 c2
              simp only [g2.1 c2]
              by_cases c3 : q3 ≤ 8 * c
              · simp only [g3.1 c3]
                split at h
                · rename_i h4
                  rw [if_pos h4]
                  exact blocksL_goes A h c3 (by omega)
                · rename_i h4
                  rw [if_neg h4]
                  exact ⟨fun _ => h, fun h3 => by simp only [Except.ok.injEq, Prod.mk.injEq] at h; omega⟩
              · exact ⟨fun h3 => by omega, fun _ hz => by simp only [g3.2 (by omega) hz]⟩
            · exact ⟨fun h3 => by omega, fun _ hz => by simp only [g2.2 (by omega) hz]⟩
          · exact ⟨fun h3 => by omega, fun _ hz => by simp only [g1.2 (by omega) hz]⟩
end Infl
