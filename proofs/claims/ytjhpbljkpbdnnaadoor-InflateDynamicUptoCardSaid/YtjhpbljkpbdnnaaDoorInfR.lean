/- DEFLATE in plain Lean: blocks, the whole, sums. -/
import Derived.Test.YtjhpbljkpbdnnaaDoorInfQ
namespace Infl
def fixedL : List Nat := List.replicate 144 8 ++ List.replicate 112 9 ++ List.replicate 24 7 ++ List.replicate 8 8
def fixedD : List Nat := List.replicate 32 5
def kindB (b : List UInt8) (most k pos : Nat) (out : List UInt8) : Except Nat (Nat × List UInt8) :=
  if k = 0 then raw b most pos out else if k = 1 then syms b fixedL fixedD most pos out else if k = 2 then match dyn b pos with
    | .error e => .error e
    | .ok (p, ll, dl) => syms b ll dl most p out
  else .error 240
def blocksL (b : List UInt8) (most : Nat) : Nat → Nat → List UInt8 → Except Nat (Nat × List UInt8)
  | 0, _, _ => .error 0
  | f + 1, pos, out => match rdN b 1 pos with
    | none => .error 240
    | some (last, p1) => match rdN b 2 p1 with
      | none => .error 240
      | some (k, p2) => match kindB b most k p2 out with
        | .error e => .error e
        | .ok (p3, out3) => if last = 0 then blocksL b most f p3 out3 else .ok (p3, out3)
def blocks (b : List UInt8) (most : Nat) : Except Nat (Nat × List UInt8) := blocksL b most (8 * b.length + 1) 0 []
/-- What came out, how many bytes were read, the code. -/
def infl (b : List UInt8) (most : Nat) : List UInt8 × Nat × Nat := match blocks b most with
  | .ok (pos, out) => (out, (pos + 7) / 8, 0)
  | .error k => ([], 0, k)
def mostN (most : Int) : Nat := min most.toNat 1048576
def adl (bs : List UInt8) (s : Nat × Nat) : Nat × Nat := bs.foldl (fun s c => ((s.1 + c.toNat) % 65521, (s.2 + (s.1 + c.toNat) % 65521) % 65521)) s
def adler (bs : List UInt8) : Nat := (adl bs (1, 0)).2 * 65536 + (adl bs (1, 0)).1
theorem adl_lt : ∀ (bs : List UInt8) (s : Nat × Nat), s.1 < 65521 → s.2 < 65521 → (adl bs s).1 < 65521 ∧ (adl bs s).2 < 65521
  | [], _, h1, h2 => ⟨h1, h2⟩
  | c :: r, s, _, _ => adl_lt r _ (Nat.mod_lt _ (by decide)) (Nat.mod_lt _ (by decide))
theorem adl_snoc (bs : List UInt8) (c : UInt8) (s : Nat × Nat) : adl (bs ++ [c]) s = (((adl bs s).1 + c.toNat) % 65521, ((adl bs s).2 + ((adl bs s).1 + c.toNat) % 65521) % 65521) := by
  simp [adl, List.foldl_append]

/- zlib. -/
def zok (b : List UInt8) : Prop := 2 ≤ b.length ∧ (b.getD 0 0).toNat % 16 = 8 ∧ (b.getD 0 0).toNat / 16 ≤ 7 ∧ (b.getD 1 0).toNat / 32 % 2 = 0 ∧ (256 * (b.getD 0 0).toNat + (b.getD 1 0).toNat) % 31 = 0
instance (b : List UInt8) : Decidable (zok b) := by unfold zok; infer_instance
def footN (b : List UInt8) : Nat := b.foldl (fun s c => 256 * s + c.toNat) 0
def zlibR (b : List UInt8) (r : List UInt8 × Nat × Nat) : List UInt8 × Nat :=
  if r.2.2 = 0 then if b.length = r.2.1 + 6 then if footN (b.drop (2 + r.2.1)) = adler r.1 then (r.1, 0) else ([], 241) else ([], 240) else ([], r.2.2)
def zlib (b : List UInt8) (most : Nat) : List UInt8 × Nat := if zok b then zlibR b (infl (b.drop 2) most) else ([], 240)
theorem footN_snoc (b : List UInt8) (c : UInt8) : footN (b ++ [c]) = 256 * footN b + c.toNat := by simp [footN, List.foldl_append]
theorem footN_lt : ∀ (b : List UInt8), footN b < 256 ^ b.length := by
  intro b
  induction hb : b.length generalizing b with
  | zero => rw [List.length_eq_zero_iff.1 hb]; simp [footN]
  | succ n ih =>
    have hne : b ≠ [] := fun h => by simp [h] at hb
    have h1 := List.dropLast_concat_getLast hne
    have h2 : b.dropLast.length = n := by simp [hb]
    have h3 := ih b.dropLast h2
    have h4 := (b.getLast hne).toNat_lt
    rw [← h1, footN_snoc, Nat.pow_succ]
    omega
theorem and15 {x : Nat} : x &&& 15 = x % 16 := Nat.and_two_pow_sub_one_eq_mod x 4
theorem and32 {x : Nat} (h : x < 256) : x &&& 32 = 32 * (x / 32 % 2) := by
  have : ∀ x : Fin 256, x.val &&& 32 = 32 * (x.val / 32 % 2) := by decide +kernel
  exact this ⟨x, h⟩
/- Places only go up. -/
theorem rawL_le {b : List UInt8} {most : Nat} : ∀ {k at_ : Nat} {out : List UInt8} {r : Nat × List UInt8}, rawL b most k at_ out = .ok r → 8 * at_ ≤ r.1
  | 0, at_, out, r, h => by
    simp only [rawL, Except.ok.injEq] at h
    subst h
    exact Nat.le_refl _
  | k + 1, at_, out, r, h => by
    rw [rawL] at h
    split at h
    · cases h
    · split at h
      · cases h
      · have := rawL_le h
        omega
theorem raw_le {b : List UInt8} {most pos : Nat} {out : List UInt8} {r : Nat × List UInt8} (h : raw b most pos out = .ok r) : pos ≤ r.1 := by
  unfold raw at h
  split at h
  · cases h
  · rename_i n p h1
    split at h
    · cases h
    · rename_i m p' h2
      split at h
      · have h3 := rawL_le h
        have h4 := rdN_le h1
        have h5 := rdN_le h2
        omega
      · cases h
theorem sym_le {cnt syms : List Nat} {b : List UInt8} {pos v pos' : Nat} (h : sym cnt syms b pos = some (v, pos')) : pos < pos' := (sym_lt (m := syms.foldr max 0 + 1) (fun x hx => by
  have : ∀ (l : List Nat), x ∈ l → x ≤ l.foldr max 0 := by
    intro l
    induction l with
    | nil => intro h; cases h
    | cons y r ih =>
      intro h
      rcases List.mem_cons.1 h with rfl | h
      · exact Nat.le_max_left _ _
      · exact Nat.le_trans (ih h) (Nat.le_max_right _ _)
  have := this _ hx
  omega) (by omega) h).2
theorem lenAt_le {b : List UInt8} {s pos n p : Nat} (h : lenAt b s pos = some (n, p)) : pos ≤ p := by
  unfold lenAt at h
  split at h
  · split at h
    · rename_i v q hr
      have := rdN_le hr
      simp only [Option.some.injEq, Prod.mk.injEq] at h
      omega
    · cases h
  · simp only [Option.some.injEq, Prod.mk.injEq] at h; omega
theorem distAt_le {b : List UInt8} {dl : List Nat} {pos d p : Nat} (h : distAt b dl pos = some (d, p)) : pos ≤ p := by
  unfold distAt at h
  split at h
  · cases h
  · rename_i s' q hs
    have := sym_le hs
    split at h
    · cases h
    · split at h
      · rename_i v q' hr
        have := rdN_le hr
        simp only [Option.some.injEq, Prod.mk.injEq] at h
        omega
      · cases h
theorem copied_le {bs out out' : List UInt8} {dl : List Nat} {most s pos pos' : Nat} (h : copied bs dl most s pos out = .ok (pos', out')) : pos ≤ pos' := by
  unfold copied at h
  split at h
  · cases h
  · split at h
    · cases h
    · rename_i n p hl
      split at h
      · cases h
      · rename_i d p' hd
        split at h
        · cases h
        · split at h
          · cases h
          · simp only [Except.ok.injEq, Prod.mk.injEq] at h
            have h1 := lenAt_le hl
            have h2 := distAt_le hd
            omega
theorem symsL_le {b : List UInt8} {ll dl : List Nat} {most : Nat} : ∀ {f pos : Nat} {out : List UInt8} {r : Nat × List UInt8}, symsL b ll dl most f pos out = .ok r → pos ≤ r.1
  | 0, pos, out, r, h => by simp [symsL] at h
  | f + 1, pos, out, r, h => by
    rw [symsL] at h
    split at h
    · cases h
    · rename_i s p hs
      have := sym_le hs
      split at h
      · split at h
        · cases h
        · have := symsL_le h
          omega
      · split at h
        · simp only [Except.ok.injEq] at h
          subst h
          exact Nat.le_of_lt this
        · split at h
          · cases h
          · rename_i p' out' hc
            have := copied_le hc
            have := symsL_le h
            omega
theorem shortL_le {b : List UInt8} : ∀ {l : List Nat} {pos : Nat} {sh : List Nat} {r : List Nat × Nat}, shortL b l pos sh = some r → pos ≤ r.2
  | [], pos, sh, r, h => by
    simp only [shortL, Option.some.injEq] at h
    subst h
    exact Nat.le_refl _
  | o :: l, pos, sh, r, h => by
    rw [shortL] at h
    split at h
    · cases h
    · rename_i v p hr
      have := rdN_le hr
      have := shortL_le h
      omega
theorem rep_le {b : List UInt8} {s p : Nat} {lens : List Nat} {s' n q : Nat} (h : rep b s p lens = some (s', n, q)) : p ≤ q := by
  unfold rep at h
  repeat' split at h
  all_goals first | (cases h; done) | (rename_i hr; have := rdN_le hr; simp only [Option.some.injEq, Prod.mk.injEq] at h; omega) | (simp only [Option.some.injEq, Prod.mk.injEq] at h; omega)
theorem lensL_le {b : List UInt8} {sh : List Nat} {tot : Nat} : ∀ {f pos : Nat} {lens : List Nat} {r : Nat × List Nat}, lensL b sh tot f pos lens = .ok r → pos ≤ r.1
  | 0, pos, lens, r, h => by simp [lensL] at h
  | f + 1, pos, lens, r, h => by
    rw [lensL] at h
    split at h
    · split at h
      · cases h
      · rename_i s p hs
        have := sym_le hs
        split at h
        · cases h
        · rename_i s' n q hr
          have := rep_le hr
          split at h
          · cases h
          · have := lensL_le h
            omega
    · simp only [Except.ok.injEq] at h
      subst h
      exact Nat.le_refl _
theorem dyn_le {b : List UInt8} {pos p : Nat} {ll dl : List Nat} (h : dyn b pos = .ok (p, ll, dl)) : pos ≤ p := by
  unfold dyn headD at h
  split at h
  · cases h
  · rename_i l d k q hh
    have hq : pos ≤ q := by
      split at hh
      · cases hh
      · rename_i h1
        split at hh
        · cases hh
        · rename_i h2
          split at hh
          · cases hh
          · rename_i h3
            have := rdN_le h1
            have := rdN_le h2
            have := rdN_le h3
            simp only [Option.some.injEq, Prod.mk.injEq] at hh
            omega
    split at h
    · cases h
    · unfold dynS at h
      split at h
      · cases h
      · rename_i sh p1 hs
        have := shortL_le hs
        split at h
        · unfold dynE at h
          split at h
          · cases h
          · rename_i p2 lens hl
            have := lensL_le hl
            repeat' split at h
            all_goals first | (cases h; done) | (simp only [Except.ok.injEq, Prod.mk.injEq] at h; simp only at *; omega)
        · cases h
theorem kindB_le {b : List UInt8} {most k pos : Nat} {out : List UInt8} {r : Nat × List UInt8} (h : kindB b most k pos out = .ok r) : pos ≤ r.1 := by
  unfold kindB at h
  split at h
  · exact raw_le h
  · split at h
    · exact symsL_le h
    · split at h
      · split at h
        · cases h
        · rename_i hd
          exact Nat.le_trans (dyn_le hd) (symsL_le h)
      · cases h
theorem rdN_in {b : List UInt8} {k pos v p : Nat} (h : rdN b k pos = some (v, p)) : p ≤ 8 * b.length := (rdN_le h).2.1
theorem rawL_in {b : List UInt8} {most : Nat} : ∀ {k at_ : Nat} {out : List UInt8} {r : Nat × List UInt8}, at_ ≤ b.length → rawL b most k at_ out = .ok r → r.1 ≤ 8 * b.length
  | 0, at_, out, r, ha, h => by
    simp only [rawL, Except.ok.injEq] at h
    subst h
    simp only; omega
  | k + 1, at_, out, r, ha, h => by
    rw [rawL] at h
    split at h
    · cases h
    · split at h
      · cases h
      · exact rawL_in (by omega) h
theorem symL_in {cnt syms : List Nat} {b : List UInt8} : ∀ {f word first a pos v pos' : Nat}, symL cnt syms b f word first a pos = some (v, pos') → pos' ≤ 8 * b.length
  | 0, _, _, _, _, _, _, h => by simp [symL] at h
  | f + 1, word, first, a, pos, v, pos', h => by
    simp only [symL] at h
    split at h
    · split at h
      · simp only [Option.some.injEq, Prod.mk.injEq] at h; omega
      · exact symL_in h
    · cases h
theorem distAt_in {b : List UInt8} {dl : List Nat} {pos d p : Nat} (h : distAt b dl pos = some (d, p)) : p ≤ 8 * b.length := by
  unfold distAt at h
  split at h
  · cases h
  · split at h
    · cases h
    · split at h
      · rename_i v q' hr
        have := rdN_in hr
        simp only [Option.some.injEq, Prod.mk.injEq] at h
        omega
      · cases h
theorem copied_in {bs out out' : List UInt8} {dl : List Nat} {most s pos pos' : Nat} (h : copied bs dl most s pos out = .ok (pos', out')) : pos' ≤ 8 * bs.length := by
  unfold copied at h
  split at h
  · cases h
  · split at h
    · cases h
    · split at h
      · cases h
      · rename_i d p' hd
        split at h
        · cases h
        · split at h
          · cases h
          · have := distAt_in hd
            simp only [Except.ok.injEq, Prod.mk.injEq] at h
            omega
theorem symsL_in {b : List UInt8} {ll dl : List Nat} {most : Nat} : ∀ {f pos : Nat} {out : List UInt8} {r : Nat × List UInt8}, symsL b ll dl most f pos out = .ok r → r.1 ≤ 8 * b.length
  | 0, pos, out, r, h => by simp [symsL] at h
  | f + 1, pos, out, r, h => by
    rw [symsL] at h
    split at h
    · cases h
    · rename_i s p hs
      split at h
      · split at h
        · cases h
        · exact symsL_in h
      · split at h
        · simp only [Except.ok.injEq] at h
          subst h
          exact symL_in hs
        · split at h
          · cases h
          · exact symsL_in h
theorem kindB_in {b : List UInt8} {most k pos : Nat} {out : List UInt8} {r : Nat × List UInt8} (h : kindB b most k pos out = .ok r) : r.1 ≤ 8 * b.length := by
  unfold kindB at h
  split at h
  · unfold raw at h
    split at h
    · cases h
    · split at h
      · cases h
      · rename_i h2
        split at h
        · have := rdN_in h2
          exact rawL_in (by omega) h
        · cases h
  · split at h
    · exact symsL_in h
    · split at h
      · split at h
        · cases h
        · exact symsL_in h
      · cases h
theorem blocksL_in {b : List UInt8} {most : Nat} : ∀ {f pos : Nat} {out : List UInt8} {r : Nat × List UInt8}, blocksL b most f pos out = .ok r → r.1 ≤ 8 * b.length
  | 0, pos, out, r, h => by simp [blocksL] at h
  | f + 1, pos, out, r, h => by
    rw [blocksL] at h
    split at h
    · cases h
    · split at h
      · cases h
      · split at h
        · cases h
        · rename_i p3 out3 hk
          split at h
          · exact blocksL_in h
          · simp only [Except.ok.injEq] at h
            subst h
            exact kindB_in hk
/-- A place is past the first bits. -/
theorem infl_read {b : List UInt8} {most : Nat} (_h : (infl b most).2.2 = 0) : (infl b most).2.1 ≤ b.length := by
  unfold infl
  split
  · rename_i pos out hb
    have := blocksL_in hb
    simp only at this ⊢
    omega
  · simp
/- No more than may come out. -/
theorem copyN_len {most d : Nat} : ∀ {k : Nat} {out out' : List UInt8}, copyN most d k out = .ok out' → out.length ≤ most → out'.length ≤ most
  | 0, out, out', h, hm => by
    simp only [copyN, Except.ok.injEq] at h
    subst h
    exact hm
  | k + 1, out, out', h, hm => by
    rw [copyN] at h
    split at h
    · cases h
    · rename_i hp
      exact copyN_len h (put_len hp hm)
theorem rawL_len {b : List UInt8} {most : Nat} : ∀ {k at_ : Nat} {out : List UInt8} {r : Nat × List UInt8}, rawL b most k at_ out = .ok r → out.length ≤ most → r.2.length ≤ most
  | 0, at_, out, r, h, hm => by
    simp only [rawL, Except.ok.injEq] at h
    subst h
    exact hm
  | k + 1, at_, out, r, h, hm => by
    rw [rawL] at h
    split at h
    · cases h
    · split at h
      · cases h
      · rename_i hp
        exact rawL_len h (put_len hp hm)
theorem symsL_len {b : List UInt8} {ll dl : List Nat} {most : Nat} : ∀ {f pos : Nat} {out : List UInt8} {r : Nat × List UInt8}, symsL b ll dl most f pos out = .ok r → out.length ≤ most → r.2.length ≤ most
  | 0, pos, out, r, h, _ => by simp [symsL] at h
  | f + 1, pos, out, r, h, hm => by
    rw [symsL] at h
    split at h
    · cases h
    · split at h
      · split at h
        · cases h
        · rename_i hp
          exact symsL_len h (put_len hp hm)
      · split at h
        · simp only [Except.ok.injEq] at h
          subst h
          exact hm
        · split at h
          · cases h
          · rename_i hc
            refine symsL_len h ?_
            unfold copied at hc
            repeat' split at hc
            all_goals first | (cases hc; done) | (rename_i hk; simp only [Except.ok.injEq, Prod.mk.injEq] at hc; rw [← hc.2]; exact copyN_len hk hm)
theorem kindB_len {b : List UInt8} {most k pos : Nat} {out : List UInt8} {r : Nat × List UInt8} (h : kindB b most k pos out = .ok r) (hm : out.length ≤ most) : r.2.length ≤ most := by
  unfold kindB at h
  split at h
  · unfold raw at h
    repeat' split at h
    all_goals first | (cases h; done) | exact rawL_len h hm
  · split at h
    · exact symsL_len h hm
    · split at h
      · split at h
        · cases h
        · exact symsL_len h hm
      · cases h
theorem blocksL_len {b : List UInt8} {most : Nat} : ∀ {f pos : Nat} {out : List UInt8} {r : Nat × List UInt8}, blocksL b most f pos out = .ok r → out.length ≤ most → r.2.length ≤ most
  | 0, pos, out, r, h, _ => by simp [blocksL] at h
  | f + 1, pos, out, r, h, hm => by
    rw [blocksL] at h
    split at h
    · cases h
    · split at h
      · cases h
      · split at h
        · cases h
        · rename_i hk
          split at h
          · exact blocksL_len h (kindB_len hk hm)
          · simp only [Except.ok.injEq] at h
            subst h
            exact kindB_len hk hm
theorem infl_len (b : List UInt8) (most : Nat) : (infl b most).1.length ≤ most := by
  unfold infl
  split
  · rename_i hb
    exact blocksL_len hb (Nat.zero_le _)
  · exact Nat.zero_le _
theorem zlib_len (b : List UInt8) (most : Nat) : (zlib b most).1.length ≤ most := by
  unfold zlib zlibR
  repeat' split
  all_goals first | exact infl_len _ _ | exact Nat.zero_le _
theorem mostN_le (most : Int) : mostN most ≤ 1048576 := by unfold mostN; omega
end Infl
