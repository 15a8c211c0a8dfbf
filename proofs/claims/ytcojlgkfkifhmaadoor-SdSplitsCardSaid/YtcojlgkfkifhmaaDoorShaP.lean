/- The sum of a text by words of 32 bits, in plain Lean: schedule, rounds, blocks, filling; and that both ways to spell a round are one. -/
import Derived.Test.YtcojlgkfkifhmaaDoorMoreC
namespace Sg
def wsr (x : UInt32) (n : Int) : UInt32 := x >>> UInt32.ofNat n.toNat
def wsl (x : UInt32) (n : Int) : UInt32 := x <<< UInt32.ofNat n.toNat
/-- Turned to the right. -/
def rot (n : Int) (x : UInt32) : UInt32 := wsr x n ||| wsl x (32 - n)
def sm0 (x : UInt32) : UInt32 := rot 7 x ^^^ rot 18 x ^^^ wsr x 3
def sm1 (x : UInt32) : UInt32 := rot 17 x ^^^ rot 19 x ^^^ wsr x 10
def bs0 (x : UInt32) : UInt32 := rot 2 x ^^^ rot 13 x ^^^ rot 22 x
def bs1 (x : UInt32) : UInt32 := rot 6 x ^^^ rot 11 x ^^^ rot 25 x
def ch (e f g : UInt32) : UInt32 := g ^^^ (e &&& (f ^^^ g))
def mj (a b c : UInt32) : UInt32 := (a &&& b) ||| (c &&& (a ||| b))
theorem ch_eq (e f g : UInt32) : (e &&& f) ^^^ (~~~e &&& g) = ch e f g := by
  unfold ch
  apply UInt32.eq_of_toBitVec_eq
  simp only [UInt32.toBitVec_xor, UInt32.toBitVec_and, UInt32.toBitVec_not]
  ext i hi
  simp only [BitVec.getElem_xor, BitVec.getElem_and, BitVec.getElem_not]
  cases e.toBitVec[i] <;> cases f.toBitVec[i] <;> cases g.toBitVec[i] <;> rfl
theorem mj_eq (a b c : UInt32) : (a &&& b) ^^^ (a &&& c) ^^^ (b &&& c) = mj a b c := by
  unfold mj
  apply UInt32.eq_of_toBitVec_eq
  simp only [UInt32.toBitVec_xor, UInt32.toBitVec_and, UInt32.toBitVec_or]
  ext i hi
  simp only [BitVec.getElem_xor, BitVec.getElem_and, BitVec.getElem_or]
  cases a.toBitVec[i] <;> cases b.toBitVec[i] <;> cases c.toBitVec[i] <;> rfl
/-- The word of four bytes. -/
def wordOf (a b c d : UInt8) : UInt32 := wsl a.toUInt32 24 ||| wsl b.toUInt32 16 ||| wsl c.toUInt32 8 ||| d.toUInt32
/-- The words of a block, so many of them. -/
def wordsN (l : List UInt8) : Nat → List UInt32
  | 0 => []
  | n + 1 => wordsN l n ++ [wordOf (l.getD (4 * n) 0) (l.getD (4 * n + 1) 0) (l.getD (4 * n + 2) 0) (l.getD (4 * n + 3) 0)]
theorem wordsN_len (l : List UInt8) : ∀ n, (wordsN l n).length = n
  | 0 => rfl
  | n + 1 => by simp [wordsN, wordsN_len l n]
/-- The schedule: the block's sixteen words, and so many more. -/
def sched (m : List UInt32) : Nat → List UInt32
  | 0 => m
  | k + 1 => sched m k ++ [(sched m k).getD k 0 + (sched m k).getD (k + 9) 0 + sm0 ((sched m k).getD (k + 1) 0) + sm1 ((sched m k).getD (k + 14) 0)]
theorem sched_len (m : List UInt32) : ∀ k, (sched m k).length = m.length + k
  | 0 => rfl
  | k + 1 => by simp [sched, sched_len m k]; omega
structure V8 where
  a : UInt32
  b : UInt32
  c : UInt32
  d : UInt32
  e : UInt32
  f : UInt32
  g : UInt32
  h : UInt32
def V8.list (v : V8) : List UInt32 := [v.a, v.b, v.c, v.d, v.e, v.f, v.g, v.h]
def V8.t (v : V8) (k w : UInt32) : UInt32 := v.h + bs1 v.e + ch v.e v.f v.g + k + w
def V8.u (v : V8) : UInt32 := bs0 v.a + mj v.a v.b v.c
def V8.step (v : V8) (k w : UInt32) : V8 := ⟨v.t k w + v.u, v.a, v.b, v.c, v.d + v.t k w, v.e, v.f, v.g⟩
def k256 : List UInt32 := [
  0x428a2f98, 0x71374491, 0xb5c0fbcf, 0xe9b5dba5, 0x3956c25b, 0x59f111f1, 0x923f82a4, 0xab1c5ed5,
  0xd807aa98, 0x12835b01, 0x243185be, 0x550c7dc3, 0x72be5d74, 0x80deb1fe, 0x9bdc06a7, 0xc19bf174,
  0xe49b69c1, 0xefbe4786, 0x0fc19dc6, 0x240ca1cc, 0x2de92c6f, 0x4a7484aa, 0x5cb0a9dc, 0x76f988da,
  0x983e5152, 0xa831c66d, 0xb00327c8, 0xbf597fc7, 0xc6e00bf3, 0xd5a79147, 0x06ca6351, 0x14292967,
  0x27b70a85, 0x2e1b2138, 0x4d2c6dfc, 0x53380d13, 0x650a7354, 0x766a0abb, 0x81c2c92e, 0x92722c85,
  0xa2bfe8a1, 0xa81a664b, 0xc24b8b70, 0xc76c51a3, 0xd192e819, 0xd6990624, 0xf40e3585, 0x106aa070,
  0x19a4c116, 0x1e376c08, 0x2748774c, 0x34b0bcb5, 0x391c0cb3, 0x4ed8aa4a, 0x5b9cca4f, 0x682e6ff3,
  0x748f82ee, 0x78a5636f, 0x84c87814, 0x8cc70208, 0x90befffa, 0xa4506ceb, 0xbef9a3f7, 0xc67178f2]
def start256 : V8 := ⟨0x6a09e667, 0xbb67ae85, 0x3c6ef372, 0xa54ff53a, 0x510e527f, 0x9b05688c, 0x1f83d9ab, 0x5be0cd19⟩
def rounds (W : List UInt32) (v : V8) : Nat → V8
  | 0 => v
  | n + 1 => (rounds W v n).step (k256.getD n 0) (W.getD n 0)
def V8.add (v u : V8) : V8 := ⟨v.a + u.a, v.b + u.b, v.c + u.c, v.d + u.d, v.e + u.e, v.f + u.f, v.g + u.g, v.h + u.h⟩
/-- One block taken. -/
def V8.block (v : V8) (l : List UInt8) : V8 := v.add (rounds (sched (wordsN l 16) 48) v 64)
/-- So many whole blocks of a text taken. -/
def absorb (l : List UInt8) : Nat → V8
  | 0 => start256
  | n + 1 => (absorb l n).block ((l.drop (64 * n)).take 64)
theorem absorb_append (l r : List UInt8) : ∀ n, 64 * n ≤ l.length → absorb (l ++ r) n = absorb l n
  | 0, _ => rfl
  | n + 1, h => by
    rw [absorb, absorb, absorb_append l r n (by omega), List.drop_append_of_le_length (by omega), List.take_append_of_le_length (by rw [List.length_drop]; omega)]
/-- A length in bits, as eight bytes. -/
def bits8 (n : Nat) : List UInt8 := [7, 6, 5, 4, 3, 2, 1, 0].map fun i => UInt8.ofNat (n * 8 / 2 ^ (8 * i))
def zeros (n : Nat) : Nat := (119 - n % 64) % 64
def padded (l : List UInt8) : List UInt8 := l ++ ([128] ++ List.replicate (zeros l.length) 0 ++ bits8 l.length)
theorem zeros_spec (n : Nat) : (n + 1 + zeros n) % 64 = 56 ∧ zeros n < 64 := by unfold zeros; omega
theorem zeros_least (n z : Nat) (hz : z < zeros n) : (n + 1 + z) % 64 ≠ 56 := by unfold zeros at hz; omega
theorem padded_len (l : List UInt8) : (padded l).length = l.length + 9 + zeros l.length := by simp [padded, bits8]; omega
theorem padded_mod (l : List UInt8) : (padded l).length % 64 = 0 := by
  have := zeros_spec l.length
  rw [padded_len]
  omega
/-- A word's bytes. -/
def bytes4 (x : UInt32) : List UInt8 := [(wsr x 24).toUInt8, (wsr x 16).toUInt8, (wsr x 8).toUInt8, x.toUInt8]
/-- The sum. -/
def sha256 (l : List UInt8) : List UInt8 := (absorb (padded l) ((padded l).length / 64)).list.flatMap bytes4
theorem sha256_len (l : List UInt8) : (sha256 l).length = 32 := by simp [sha256, V8.list, bytes4]
theorem low8 (x : UInt32) : (x &&& 255).toUInt8 = x.toUInt8 := by
  apply UInt8.eq_of_toBitVec_eq
  ext i hi
  simp only [UInt32.toBitVec_toUInt8, UInt32.toBitVec_and, BitVec.getElem_setWidth, BitVec.getLsbD_and]
  have h : (255 : UInt32).toBitVec.getLsbD i = true := by
    show (255#32).getLsbD i = true
    have : i = 0 ∨ i = 1 ∨ i = 2 ∨ i = 3 ∨ i = 4 ∨ i = 5 ∨ i = 6 ∨ i = 7 := by omega
    rcases this with rfl | rfl | rfl | rfl | rfl | rfl | rfl | rfl <;> rfl
  rw [h, Bool.and_true]
end Sg
