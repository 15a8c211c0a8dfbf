/- Readers: which failures there are; another bound on what comes out; and what all of that says of the whole. -/
import Derived.Test.YtjhpbljkpbdnnaaDoorInfAg
namespace Infl
variable {b : List UInt8}
theorem put_err {most e : Nat} {out : List UInt8} {x : UInt8} (h : put most out x = .error e) : e = 10 := by
  unfold put at h
  split at h
  · cases h; rfl
  · cases h
theorem copyN_err {most d e : Nat} : ∀ {k : Nat} {out : List UInt8}, copyN most d k out = .error e → e = 10
  | 0, _, h => by cases h
  | k + 1, out, h => by
    rw [copyN] at h
    split at h
    · rename_i ho; cases h; exact put_err ho
    · exact copyN_err h
theorem copied_err {dl : List Nat} {most s pos e : Nat} {out : List UInt8} (h : copied b dl most s pos out = .error e) : e = 240 ∨ e = 10 := by
  unfold copied at h
  repeat' split at h
  all_goals first | (cases h; done) | (rename_i hc; cases h; exact Or.inr (copyN_err hc)) | (cases h; exact Or.inl rfl)
theorem symsL_err {ll dl : List Nat} {most e : Nat} : ∀ {f pos : Nat} {out : List UInt8}, symsL b ll dl most f pos out = .error e → pos ≤ 8 * b.length → 8 * b.length < f + pos → e = 240 ∨ e = 10
  | 0, _, _, _, _, _ => by omega
  | f + 1, pos, out, h, hp, hf => by
    rw [symsL] at h
    split at h
    · cases h; exact Or.inl rfl
    · rename_i s q hs
      have h1 := sym_le hs
      have h2 := symL_in hs
      split at h
      · split at h
        · rename_i ho; cases h; exact Or.inr (put_err ho)
        · exact symsL_err h h2 (by omega)
      · split at h
        · cases h
        · split at h
          · rename_i hc; cases h; exact copied_err hc
          · rename_i p2 o2 hc
            have h3 := copied_le hc
            have h4 := copied_in hc
            exact symsL_err h h4 (by omega)
theorem rawL_err {most e : Nat} : ∀ {k at_ : Nat} {out : List UInt8}, rawL b most k at_ out = .error e → e = 240 ∨ e = 10
  | 0, _, _, h => by cases h
  | k + 1, at_, out, h => by
    rw [rawL] at h
    split at h
    · cases h; exact Or.inl rfl
    · split at h
      · rename_i ho; cases h; exact Or.inr (put_err ho)
      · exact rawL_err h
theorem raw_err {most pos e : Nat} {out : List UInt8} (h : raw b most pos out = .error e) : e = 240 ∨ e = 10 := by
  unfold raw at h
  split at h
  · cases h; exact Or.inl rfl
  · split at h
    · cases h; exact Or.inl rfl
    · split at h
      · exact rawL_err h
      · cases h; exact Or.inl rfl
theorem rep_pos {s p : Nat} {lens : List Nat} {s' n q : Nat} (h : rep b s p lens = some (s', n, q)) : 1 ≤ n := by
  unfold rep at h
  repeat' split at h
  all_goals first | (cases h; done) | (simp only [Option.some.injEq, Prod.mk.injEq] at h; omega)
theorem lensL_err {sh : List Nat} {tot e : Nat} : ∀ {f pos : Nat} {lens : List Nat}, lensL b sh tot f pos lens = .error e → lens.length ≤ tot → tot < f + lens.length → e = 240
  | 0, pos, lens, h, hl, hf => by omega
  | f + 1, pos, lens, h, hl, hf => by
    rw [lensL] at h
    split at h
    · split at h
      · cases h; rfl
      · split at h
        · cases h; rfl
        · rename_i s' n q hr
          have hn := rep_pos hr
          split at h
          · cases h; rfl
          · exact lensL_err h (by rw [List.length_append, List.length_replicate]; omega) (by rw [List.length_append, List.length_replicate]; omega)
    · cases h
theorem dynE_err {l e : Nat} {r : Except Nat (Nat × List Nat)} (h : dynE l r = .error e) (hr : ∀ e, r = .error e → e = 240) : e = 240 := by
  cases r with
  | error e => simp only [dynE, Except.error.injEq] at h; rw [← h]; exact hr _ rfl
  | ok q =>
    obtain ⟨q, ls⟩ := q
    simp only [dynE] at h
    repeat' split at h
    all_goals (cases h; try rfl)
theorem dyn_err {pos e : Nat} (h : dyn b pos = .error e) : e = 240 := by
  unfold dyn at h
  split at h
  · cases h; rfl
  · split at h
    · cases h; rfl
    · rename_i l d k q h1 h2
      cases hs : shortL b (ordL.take k) q (List.replicate 19 0) with
      | none => rw [hs] at h; simp only [dynS] at h; cases h; rfl
      | some r =>
        obtain ⟨sh, q2⟩ := r
        rw [hs] at h
        simp only [dynS] at h
        split at h
        · exact dynE_err h (fun e he => lensL_err he (Nat.zero_le _) (by simp))
        · cases h; rfl
theorem syms_err {ll dl : List Nat} {most pos e : Nat} {out : List UInt8} (h : syms b ll dl most pos out = .error e) (hp : pos ≤ 8 * b.length) : e = 240 ∨ e = 10 := symsL_err h hp (by omega)
theorem dynE_at {l p : Nat} {x y : List Nat} {r : Except Nat (Nat × List Nat)} (h : dynE l r = .ok (p, x, y)) : ∃ ls, r = .ok (p, ls) := dynE_ok h
theorem shortL_in : ∀ {l : List Nat} {pos : Nat} {sh : List Nat} {r : List Nat × Nat}, shortL b l pos sh = some r → pos ≤ 8 * b.length → r.2 ≤ 8 * b.length
  | [], pos, sh, r, h, hp => by
    simp only [shortL, Option.some.injEq] at h
    rw [← h]
    exact hp
  | x :: l, pos, sh, r, h, hp => by
    rw [shortL] at h
    split at h
    · cases h
    · rename_i v q h1
      exact shortL_in h (rdN_in h1)
theorem rep_in {s p : Nat} {lens : List Nat} {s' n q : Nat} (h : rep b s p lens = some (s', n, q)) (hp : p ≤ 8 * b.length) : q ≤ 8 * b.length := by
  unfold rep at h
  repeat' split at h
  all_goals first | (cases h; done) | (rename_i hr; simp only [Option.some.injEq, Prod.mk.injEq] at h; have := rdN_in hr; omega) | (simp only [Option.some.injEq, Prod.mk.injEq] at h; omega)
theorem lensL_in {sh : List Nat} {tot : Nat} : ∀ {f pos : Nat} {lens : List Nat} {r : Nat × List Nat}, lensL b sh tot f pos lens = .ok r → pos ≤ 8 * b.length → r.1 ≤ 8 * b.length
  | 0, _, _, _, h, _ => by simp [lensL] at h
  | f + 1, pos, lens, r, h, hp => by
    rw [lensL] at h
    split at h
    · split at h
      · cases h
      · rename_i s q hs
        split at h
        · cases h
        · rename_i s' n q' hr
          split at h
          · cases h
          · exact lensL_in h (rep_in hr (symL_in hs))
    · simp only [Except.ok.injEq] at h
      rw [← h]
      exact hp
theorem headD_in {pos l d k p : Nat} (h : headD b pos = some (l, d, k, p)) : p ≤ 8 * b.length := by
  unfold headD at h
  split at h
  · cases h
  · split at h
    · cases h
    · split at h
      · cases h
      · rename_i h3
        simp only [Option.some.injEq, Prod.mk.injEq] at h
        have := rdN_in h3
        omega
theorem dyn_in {pos p : Nat} {ll dl : List Nat} (h : dyn b pos = .ok (p, ll, dl)) : p ≤ 8 * b.length := by
  unfold dyn at h
  split at h
  · cases h
  · rename_i l d k q h1
    split at h
    · cases h
    · cases hs : shortL b (ordL.take k) q (List.replicate 19 0) with
      | none => rw [hs] at h; simp [dynS] at h
      | some r =>
        obtain ⟨sh, q2⟩ := r
        rw [hs] at h
        simp only [dynS] at h
        split at h
        · obtain ⟨ls, hls⟩ := dynE_ok h
          have l1 := shortL_in hs (headD_in h1)
          exact lensL_in hls l1
        · cases h
theorem kindB_err {most k pos e : Nat} {out : List UInt8} (h : kindB b most k pos out = .error e) (hp : pos ≤ 8 * b.length) : e = 240 ∨ e = 10 := by
  unfold kindB at h
  split at h
  · exact raw_err h
  · split at h
    · exact syms_err h hp
    · split at h
      · split at h
        · rename_i hd; cases h; exact Or.inl (dyn_err hd)
        · rename_i hd; exact syms_err h (dyn_in hd)
      · cases h; exact Or.inl rfl
theorem blocksL_err {most e : Nat} : ∀ {f pos : Nat} {out : List UInt8}, blocksL b most f pos out = .error e → pos ≤ 8 * b.length → 8 * b.length < f + pos → e = 240 ∨ e = 10
  | 0, _, _, _, _, _ => by omega
  | f + 1, pos, out, h, hp, hf => by
    rw [blocksL] at h
    split at h
    · cases h; exact Or.inl rfl
    · rename_i last q1 h1
      split at h
      · cases h; exact Or.inl rfl
      · rename_i k q2 h2
        have l1 := rdN_le h1
        have l2 := rdN_le h2
        split at h
        · rename_i hk; cases h; exact kindB_err hk l2.2.1
        · rename_i q3 o3 hk
          have l3 := kindB_le hk
          have l4 := kindB_in hk
          simp only at l3 l4
          split at h
          · exact blocksL_err h l4 (by omega)
          · cases h
/-- What the whole gives: 0 and all that came out, or one of two failures and nothing. -/
theorem infl_code (b : List UInt8) (most : Nat) : (∃ p o, blocks b most = .ok (p, o) ∧ 0 < p ∧ p ≤ 8 * b.length ∧ infl b most = (o, (p + 7) / 8, 0)) ∨ infl b most = ([], 0, 240) ∨ infl b most = ([], 0, 10) := by
  unfold infl
  split
  · rename_i p o h
    have l1 := blocksL_le h
    have l2 := blocksL_in h
    exact Or.inl ⟨p, o, h, by simpa using l1, by simpa using l2, rfl⟩
  · rename_i e h
    rcases blocksL_err h (Nat.zero_le _) (by omega) with rfl | rfl
    · exact Or.inr (Or.inl rfl)
    · exact Or.inr (Or.inr rfl)
theorem infl_ok {most : Nat} (h : (infl b most).2.2 = 0) : ∃ p o, blocks b most = .ok (p, o) ∧ 0 < p ∧ p ≤ 8 * b.length ∧ infl b most = (o, (p + 7) / 8, 0) := by
  rcases infl_code b most with h1 | h1 | h1
  · exact h1
  · rw [h1] at h; cases h
  · rw [h1] at h; cases h
/-- What stands behind what was read changes nothing. -/
theorem infl_same {b' : List UInt8} {c most : Nat} (A : Agr b b' c) (h : (infl b most).2.2 = 0) (hc : (infl b most).2.1 ≤ c) : infl b' most = infl b most := by
  obtain ⟨p, o, hb, _, _, he⟩ := infl_ok h
  rw [he] at hc ⊢
  simp only at hc
  have g := (blocksL_goes A (f' := 8 * b'.length + 1) hb (Nat.zero_le _) (by omega)).1 (by omega)
  unfold infl blocks
  rw [g]
/-- No shorter beginning is taken. -/
theorem infl_cut {c most : Nat} (h : (infl b most).2.2 = 0) (hc : c < (infl b most).2.1) : infl (b.take c) most = ([], 0, 240) := by
  obtain ⟨p, o, hb, _, hp, he⟩ := infl_ok h
  rw [he] at hc
  simp only at hc
  have hl : (b.take c).length = c := by rw [List.length_take]; omega
  have A : Agr b (b.take c) c := ⟨by omega, by omega, fun i hi => by
    rw [List.getD_eq_getElem?_getD, List.getElem?_take, if_pos hi, ← List.getD_eq_getElem?_getD]⟩
  have g := (blocksL_goes A (f' := 8 * (b.take c).length + 1) hb (Nat.zero_le _) (by omega)).2 (by omega) hl
  unfold infl blocks
  rw [g]
/- Another bound. -/
theorem put_one {m : Nat} {out o : List UInt8} {x : UInt8} (h : put m out x = .ok o) : o.length = out.length + 1 := by
  unfold put at h
  split at h
  · cases h
  · simp only [Except.ok.injEq] at h
    rw [← h, List.length_append, List.length_singleton]
theorem put_most {m m2 : Nat} {out o : List UInt8} {x : UInt8} (h : put m out x = .ok o) (hm : out.length ≤ m2) : (o.length ≤ m2 → put m2 out x = .ok o) ∧ (m2 < o.length → put m2 out x = .error 10) := by
  have h1 := put_one h
  unfold put at h ⊢
  split at h
  · cases h
  · exact ⟨fun h2 => by rw [if_neg (by omega)]; exact h, fun h2 => by rw [if_pos (by omega)]⟩
theorem copyN_up {m d : Nat} : ∀ {k : Nat} {out o : List UInt8}, copyN m d k out = .ok o → out.length ≤ o.length
  | 0, out, o, h => by
    simp only [copyN, Except.ok.injEq] at h
    rw [h]; exact Nat.le_refl _
  | k + 1, out, o, h => by
    rw [copyN] at h
    split at h
    · cases h
    · rename_i hp
      have := put_one hp
      have := copyN_up h
      omega
theorem copyN_most {m m2 d : Nat} : ∀ {k : Nat} {out o : List UInt8}, copyN m d k out = .ok o → out.length ≤ m2 → (o.length ≤ m2 → copyN m2 d k out = .ok o) ∧ (m2 < o.length → copyN m2 d k out = .error 10)
  | 0, out, o, h, hm => by
    simp only [copyN, Except.ok.injEq] at h ⊢
    subst h
    exact ⟨fun _ => rfl, fun h => by omega⟩
  | k + 1, out, o, h, hm => by
    rw [copyN] at h ⊢
    split at h
    · cases h
    · rename_i o2 hp
      have g := put_most hp hm
      have h3 := copyN_up h
      by_cases hc : o2.length ≤ m2
      · simp only [g.1 hc]
        exact copyN_most h hc
      · simp only [g.2 (by omega)]
        exact ⟨fun h => by omega, fun _ => trivial⟩
theorem copied_up {dl : List Nat} {m s pos p : Nat} {out o : List UInt8} (h : copied b dl m s pos out = .ok (p, o)) : out.length ≤ o.length := by
  unfold copied at h
  repeat' split at h
  all_goals first | (cases h; done) | (rename_i hc; simp only [Except.ok.injEq, Prod.mk.injEq] at h; rw [← h.2]; exact copyN_up hc)
theorem copied_most {dl : List Nat} {m m2 s pos p : Nat} {out o : List UInt8} (h : copied b dl m s pos out = .ok (p, o)) (hm : out.length ≤ m2) : (o.length ≤ m2 → copied b dl m2 s pos out = .ok (p, o)) ∧ (m2 < o.length → copied b dl m2 s pos out = .error 10) := by
  unfold copied at h ⊢
  split at h
  · cases h
  · rename_i h1
    rw [if_neg h1]
    split at h
    · cases h
    · rename_i n q hl
      split at h
      · cases h
      · rename_i d q' hd
        split at h
        · cases h
        · rename_i h2
          split at h
          · cases h
          · rename_i o2 hc
            simp only [Except.ok.injEq, Prod.mk.injEq] at h
            obtain ⟨rfl, rfl⟩ := h
            have g := copyN_most hc hm
            simp only [if_neg h2]
            exact ⟨fun h3 => by simp only [g.1 h3], fun h3 => by simp only [g.2 h3]⟩
theorem symsL_up {ll dl : List Nat} {m p : Nat} {o : List UInt8} : ∀ {f pos : Nat} {out : List UInt8}, symsL b ll dl m f pos out = .ok (p, o) → out.length ≤ o.length
  | 0, _, _, h => by simp [symsL] at h
  | f + 1, pos, out, h => by
    rw [symsL] at h
    split at h
    · cases h
    · split at h
      · split at h
        · cases h
        · rename_i ho
          have := put_one ho
          have := symsL_up h
          omega
      · split at h
        · simp only [Except.ok.injEq, Prod.mk.injEq] at h
          rw [h.2]; exact Nat.le_refl _
        · split at h
          · cases h
          · rename_i hc
            have := copied_up hc
            have := symsL_up h
            omega
theorem symsL_most {ll dl : List Nat} {m m2 p : Nat} {o : List UInt8} : ∀ {f pos : Nat} {out : List UInt8}, symsL b ll dl m f pos out = .ok (p, o) → out.length ≤ m2 → (o.length ≤ m2 → symsL b ll dl m2 f pos out = .ok (p, o)) ∧ (m2 < o.length → symsL b ll dl m2 f pos out = .error 10)
  | 0, _, _, h, _ => by simp [symsL] at h
  | f + 1, pos, out, h, hm => by
    rw [symsL] at h ⊢
    split at h
    · cases h
    · rename_i s q hs
      split at h
      · rename_i h1
        rw [if_pos h1]
        split at h
        · cases h
        · rename_i o2 ho
          have h3 := symsL_up h
          have g := put_most ho hm
          by_cases hc : o2.length ≤ m2
          · simp only [g.1 hc]
            exact symsL_most h hc
          · simp only [g.2 (by omega)]
            exact ⟨fun h => by omega, fun _ => trivial⟩
      · rename_i h1
        rw [if_neg h1]
        split at h
        · rename_i h2
          rw [if_pos h2]
          simp only [Except.ok.injEq, Prod.mk.injEq] at h
          obtain ⟨rfl, rfl⟩ := h
          exact ⟨fun _ => rfl, fun h => by omega⟩
        · rename_i h2
          rw [if_neg h2]
          split at h
          · cases h
          · rename_i p2 o2 hcp
            have h3 := symsL_up h
            have g := copied_most hcp hm
            by_cases hc : o2.length ≤ m2
            · simp only [g.1 hc]
              exact symsL_most h hc
            · simp only [g.2 (by omega)]
              exact ⟨fun h => by omega, fun _ => trivial⟩
theorem rawL_up {m p : Nat} {o : List UInt8} : ∀ {k at_ : Nat} {out : List UInt8}, rawL b m k at_ out = .ok (p, o) → out.length ≤ o.length
  | 0, _, _, h => by
    simp only [rawL, Except.ok.injEq, Prod.mk.injEq] at h
    rw [h.2]; exact Nat.le_refl _
  | k + 1, at_, out, h => by
    rw [rawL] at h
    split at h
    · cases h
    · split at h
      · cases h
      · rename_i ho
        have := put_one ho
        have := rawL_up h
        omega
theorem rawL_most {m m2 p : Nat} {o : List UInt8} : ∀ {k at_ : Nat} {out : List UInt8}, rawL b m k at_ out = .ok (p, o) → out.length ≤ m2 → (o.length ≤ m2 → rawL b m2 k at_ out = .ok (p, o)) ∧ (m2 < o.length → rawL b m2 k at_ out = .error 10)
  | 0, at_, out, h, hm => by
    simp only [rawL, Except.ok.injEq, Prod.mk.injEq] at h ⊢
    obtain ⟨h1, rfl⟩ := h
    exact ⟨fun _ => ⟨h1, rfl⟩, fun h => by omega⟩
  | k + 1, at_, out, h, hm => by
    rw [rawL] at h ⊢
    split at h
    · cases h
    · rename_i h1
      rw [if_neg h1]
      split at h
      · cases h
      · rename_i o2 ho
        have h3 := rawL_up h
        have g := put_most ho hm
        by_cases hc : o2.length ≤ m2
        · simp only [g.1 hc]
          exact rawL_most h hc
        · simp only [g.2 (by omega)]
          exact ⟨fun h => by omega, fun _ => trivial⟩
theorem raw_up {m pos p : Nat} {out o : List UInt8} (h : raw b m pos out = .ok (p, o)) : out.length ≤ o.length := by
  unfold raw at h
  repeat' split at h
  all_goals first | (cases h; done) | exact rawL_up h
theorem raw_most {m m2 pos p : Nat} {out o : List UInt8} (h : raw b m pos out = .ok (p, o)) (hm : out.length ≤ m2) : (o.length ≤ m2 → raw b m2 pos out = .ok (p, o)) ∧ (m2 < o.length → raw b m2 pos out = .error 10) := by
  unfold raw at h ⊢
  split at h
  · cases h
  · rename_i n q h1
    split at h
    · cases h
    · rename_i n' q' h2
      split at h
      · rename_i h3
        simp only [if_pos h3]
        exact rawL_most h hm
      · cases h
theorem kindB_up {m k pos p : Nat} {out o : List UInt8} (h : kindB b m k pos out = .ok (p, o)) : out.length ≤ o.length := by
  unfold kindB at h
  repeat' split at h
  all_goals first | (cases h; done) | exact raw_up h | exact symsL_up h
theorem kindB_most {m m2 k pos p : Nat} {out o : List UInt8} (h : kindB b m k pos out = .ok (p, o)) (hm : out.length ≤ m2) : (o.length ≤ m2 → kindB b m2 k pos out = .ok (p, o)) ∧ (m2 < o.length → kindB b m2 k pos out = .error 10) := by
  unfold kindB at h ⊢
  split at h
  · rename_i h1
    rw [if_pos h1]
    exact raw_most h hm
  · rename_i h1
    rw [if_neg h1]
    split at h
    · rename_i h2
      rw [if_pos h2]
      exact symsL_most h hm
    · rename_i h2
      rw [if_neg h2]
      split at h
      · rename_i h3
        rw [if_pos h3]
        split at h
        · cases h
        · exact symsL_most h hm
      · cases h
theorem blocksL_up {m p : Nat} {o : List UInt8} : ∀ {f pos : Nat} {out : List UInt8}, blocksL b m f pos out = .ok (p, o) → out.length ≤ o.length
  | 0, _, _, h => by simp [blocksL] at h
  | f + 1, pos, out, h => by
    rw [blocksL] at h
    split at h
    · cases h
    · split at h
      · cases h
      · split at h
        · cases h
        · rename_i hk
          have h1 := kindB_up hk
          split at h
          · have := blocksL_up h
            omega
          · simp only [Except.ok.injEq, Prod.mk.injEq] at h
            rw [← h.2]; exact h1
theorem blocksL_most {m m2 p : Nat} {o : List UInt8} : ∀ {f pos : Nat} {out : List UInt8}, blocksL b m f pos out = .ok (p, o) → out.length ≤ m2 → (o.length ≤ m2 → blocksL b m2 f pos out = .ok (p, o)) ∧ (m2 < o.length → blocksL b m2 f pos out = .error 10)
  | 0, _, _, h, _ => by simp [blocksL] at h
  | f + 1, pos, out, h, hm => by
    rw [blocksL] at h ⊢
    split at h
    · cases h
    · rename_i last q1 h1
      split at h
      · cases h
      · rename_i k q2 h2
        split at h
        · cases h
        · rename_i q3 o3 h3
          have g := kindB_most h3 hm
          split at h
          · rename_i h4
            have h5 := blocksL_up h
            by_cases hc : o3.length ≤ m2
            · simp only [g.1 hc, if_pos h4]
              exact blocksL_most h hc
            · simp only [g.2 (by omega)]
              exact ⟨fun h => by omega, fun _ => trivial⟩
          · rename_i h4
            simp only [Except.ok.injEq, Prod.mk.injEq] at h
            obtain ⟨rfl, rfl⟩ := h
            exact ⟨fun h => by simp only [g.1 h, if_neg h4], fun h => by simp only [g.2 h]⟩
/-- The same with any bound that is enough, too large with each lesser one. -/
theorem infl_most {m m2 : Nat} (h : (infl b m).2.2 = 0) : infl b m2 = if (infl b m).1.length ≤ m2 then infl b m else ([], 0, 10) := by
  obtain ⟨p, o, hb, _, _, he⟩ := infl_ok h
  have g := blocksL_most (m2 := m2) hb (Nat.zero_le _)
  rw [he]
  split
  · rename_i hc
    unfold infl blocks
    rw [g.1 hc]
  · rename_i hc
    unfold infl blocks
    rw [g.2 (Nat.lt_of_not_le hc)]
end Infl
