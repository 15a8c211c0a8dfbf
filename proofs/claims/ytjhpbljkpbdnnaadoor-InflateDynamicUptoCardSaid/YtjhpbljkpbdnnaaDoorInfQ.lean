/- DEFLATE in plain Lean: what the program's reader gives. Codes of failure: 240 broken, 10 too large. -/
import Derived.Test.YtjhpbljkpbdnnaaDoorInfP
namespace Infl
def put (most : Nat) (out : List UInt8) (c : UInt8) : Except Nat (List UInt8) := if out.length = most then .error 10 else .ok (out ++ [c])
def extra (s each first : Nat) : Nat × Nat := if s < 2 * each then (first + s, 0) else (first + (each + s % each) * 2 ^ (s / each - 1), s / each - 1)
def copyN (most d : Nat) : Nat → List UInt8 → Except Nat (List UInt8)
  | 0, out => .ok out
  | k + 1, out => match put most out (out.getD (out.length - d) 0) with
    | .error c => .error c
    | .ok out' => copyN most d k out'
def lenAt (b : List UInt8) (s pos : Nat) : Option (Nat × Nat) := if s < 285 then match rdN b (extra (s - 257) 4 3).2 pos with
    | some (v, p) => some ((extra (s - 257) 4 3).1 + v, p)
    | none => none
  else some (258, pos)
def distAt (b : List UInt8) (dl : List Nat) (pos : Nat) : Option (Nat × Nat) := match sym (code dl).1 (code dl).2 b pos with
  | none => none
  | some (s, p) => if 29 < s then none else match rdN b (extra s 2 1).2 p with
    | some (v, p') => some ((extra s 2 1).1 + v, p')
    | none => none
def copied (b : List UInt8) (dl : List Nat) (most s pos : Nat) (out : List UInt8) : Except Nat (Nat × List UInt8) :=
  if 285 < s then .error 240 else match lenAt b s pos with
  | none => .error 240
  | some (n, p) => match distAt b dl p with
    | none => .error 240
    | some (d, p') => if out.length < d then .error 240 else match copyN most d n out with
      | .error c => .error c
      | .ok out' => .ok (p', out')
def symsL (b : List UInt8) (ll dl : List Nat) (most : Nat) : Nat → Nat → List UInt8 → Except Nat (Nat × List UInt8)
  | 0, _, _ => .error 0
  | f + 1, pos, out => match sym (code ll).1 (code ll).2 b pos with
    | none => .error 240
    | some (s, p) => if s < 256 then match put most out (UInt8.ofNat s) with
        | .error c => .error c
        | .ok out' => symsL b ll dl most f p out'
      else if s = 256 then .ok (p, out) else match copied b dl most s p out with
        | .error c => .error c
        | .ok (p', out') => symsL b ll dl most f p' out'
def syms (b : List UInt8) (ll dl : List Nat) (most pos : Nat) (out : List UInt8) : Except Nat (Nat × List UInt8) := symsL b ll dl most (8 * b.length + 1) pos out
def rawL (b : List UInt8) (most : Nat) : Nat → Nat → List UInt8 → Except Nat (Nat × List UInt8)
  | 0, at_, out => .ok (8 * at_, out)
  | k + 1, at_, out => if at_ = b.length then .error 240 else match put most out (b.getD at_ 0) with
    | .error c => .error c
    | .ok out' => rawL b most k (at_ + 1) out'
def raw (b : List UInt8) (most pos : Nat) (out : List UInt8) : Except Nat (Nat × List UInt8) := match rdN b 16 (8 * ((pos + 7) / 8)) with
  | none => .error 240
  | some (n, p) => match rdN b 16 p with
    | none => .error 240
    | some (m, p') => if m + n = 65535 then rawL b most n (p' / 8) out else .error 240
theorem put_len {most : Nat} {out out' : List UInt8} {c : UInt8} (h : put most out c = .ok out') (hm : out.length ≤ most) : out'.length ≤ most := by
  unfold put at h
  split at h
  · cases h
  · simp only [Except.ok.injEq] at h
    subst h
    simp
    omega
theorem rdN_le {b : List UInt8} {k pos v p : Nat} (h : rdN b k pos = some (v, p)) : v < 2 ^ k ∧ p ≤ 8 * b.length ∧ p = pos + k := by
  unfold rdN at h
  split at h
  · simp only [Option.some.injEq, Prod.mk.injEq] at h
    obtain ⟨rfl, rfl⟩ := h
    exact ⟨num_lt _ _ _, by omega, rfl⟩
  · cases h
theorem extra_le {s each first : Nat} (h0 : 0 < each) (hb : first ≤ 10 ∧ each ≤ 10) (h2 : s / each ≤ 14) : (extra s each first).1 ≤ 200000 ∧ (extra s each first).2 ≤ 13 ∧ first ≤ (extra s each first).1 := by
  unfold extra
  split
  · have := Nat.div_add_mod s each
    have := Nat.mod_lt s h0
    exact ⟨by simp only; omega, by simp only; omega, by simp only; omega⟩
  · have hpw : (2 : Nat) ^ (s / each - 1) ≤ 8192 := Nat.pow_le_pow_right (n := 2) (by omega) (show s / each - 1 ≤ 13 by omega)
    have hm : s % each < each := Nat.mod_lt _ h0
    have : (each + s % each) * 2 ^ (s / each - 1) ≤ 20 * 8192 := Nat.mul_le_mul (by omega) hpw
    exact ⟨by simp only; omega, by simp only; omega, by simp only; omega⟩
def ordL : List Nat := [16, 17, 18, 0, 8, 7, 9, 6, 10, 5, 11, 4, 12, 3, 13, 2, 14, 1, 15]
def shortL (b : List UInt8) : List Nat → Nat → List Nat → Option (List Nat × Nat)
  | [], pos, sh => some (sh, pos)
  | o :: r, pos, sh => match rdN b 3 pos with
    | none => none
    | some (v, p) => shortL b r p (sh.set o v)
/-- A symbol of the lengths: which length how often. -/
def rep (b : List UInt8) (s p : Nat) (lens : List Nat) : Option (Nat × Nat × Nat) :=
  if s = 16 then if lens.length = 0 then none else match rdN b 2 p with
    | some (v, q) => some (lens.getD (lens.length - 1) 0, 3 + v, q)
    | none => none
  else if s = 17 then match rdN b 3 p with
    | some (v, q) => some (0, 3 + v, q)
    | none => none
  else if s = 18 then match rdN b 7 p with
    | some (v, q) => some (0, 11 + v, q)
    | none => none
  else some (s, 1, p)
def lensL (b : List UInt8) (sh : List Nat) (tot : Nat) : Nat → Nat → List Nat → Except Nat (Nat × List Nat)
  | 0, _, _ => .error 0
  | f + 1, pos, lens => if lens.length < tot then match sym (code sh).1 (code sh).2 b pos with
      | none => .error 240
      | some (s, p) => match rep b s p lens with
        | none => .error 240
        | some (s', n, q) => if tot - lens.length < n then .error 240 else lensL b sh tot f q (lens ++ List.replicate n s')
    else .ok (pos, lens)
/-- The head of a dynamic block. -/
def headD (b : List UInt8) (pos : Nat) : Option (Nat × Nat × Nat × Nat) := match rdN b 5 pos with
  | none => none
  | some (l, p1) => match rdN b 5 p1 with
    | none => none
    | some (d, p2) => match rdN b 4 p2 with
      | none => none
      | some (k, p3) => some (l + 257, d + 1, k + 4, p3)
def dynE (l : Nat) : Except Nat (Nat × List Nat) → Except Nat (Nat × List Nat × List Nat)
  | .error k => .error k
  | .ok (p, lens) => if lens.getD 256 0 = 0 then .error 240 else if kind (lens.take l) ∈ [3, 2] then if kind (lens.drop l) ∈ [3, 2, 1] then .ok (p, lens.take l, lens.drop l) else .error 240 else .error 240
def dynS (b : List UInt8) (l d : Nat) : Option (List Nat × Nat) → Except Nat (Nat × List Nat × List Nat)
  | none => .error 240
  | some (sh, p) => if kind sh ∈ [3] then dynE l (lensL b sh (l + d) (l + d + 1) p []) else .error 240
def dyn (b : List UInt8) (pos : Nat) : Except Nat (Nat × List Nat × List Nat) := match headD b pos with
  | none => .error 240
  | some (l, d, k, p) => if 286 < l ∨ 30 < d then .error 240 else dynS b l d (shortL b (ordL.take k) p (List.replicate 19 0))
end Infl
