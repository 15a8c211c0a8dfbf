/- Bytes spelled in 64 signs, in plain Lean: by groups of three bytes, and by bits. -/
import Derived.Test.YtcojlgkfkifhmaaDoorWord
namespace Sg
/-- The group's number, bytes that are missing being noughts. -/
def grp (bs : List UInt8) (q : Nat) : Nat := (bs.getD (3 * q) 0).toNat * 65536 + (bs.getD (3 * q + 1) 0).toNat * 256 + (bs.getD (3 * q + 2) 0).toNat
/-- The number of the sign at a place. -/
def six (bs : List UInt8) (i : Nat) : Nat := grp bs (i / 4) / 64 ^ (3 - i % 4) % 64
def signsN (n : Nat) : Nat := (8 * n + 5) / 6
def enc (S bs : List UInt8) : List UInt8 := (List.range (signsN bs.length)).map fun i => S.getD (six bs i) 0
theorem six_lt (bs : List UInt8) (i : Nat) : six bs i < 64 := Nat.mod_lt _ (by decide)
theorem enc_len (S bs : List UInt8) : (enc S bs).length = signsN bs.length := by simp [enc]
def bitN (bs : List UInt8) (k : Nat) : Nat := (bs.getD (k / 8) 0).toNat / 2 ^ (7 - k % 8) % 2
theorem bitN_lt (bs : List UInt8) (k : Nat) : bitN bs k < 2 := Nat.mod_lt _ (by decide)
/-- So many bits from a place on, as a number. -/
def sumB (bs : List UInt8) (p : Nat) : Nat → Nat
  | 0 => 0
  | k + 1 => 2 * sumB bs p k + bitN bs (p + k)
theorem sumB_lt (bs : List UInt8) (p : Nat) : ∀ k, sumB bs p k < 2 ^ k
  | 0 => Nat.zero_lt_one
  | k + 1 => by
    have h1 := sumB_lt bs p k
    have h2 := bitN_lt bs (p + k)
    rw [sumB, Nat.pow_succ]
    omega
theorem top6 {x : Nat} (h : x < 2 ^ 8) : 2 * (2 * (2 * (2 * (2 * (x / 128 % 2) + x / 64 % 2) + x / 32 % 2) + x / 16 % 2) + x / 8 % 2) + x / 4 % 2 = x / 4 := by omega
theorem top4 {x : Nat} (h : x < 2 ^ 8) : 2 * (2 * (2 * (x / 128 % 2) + x / 64 % 2) + x / 32 % 2) + x / 16 % 2 = x / 16 := by omega
theorem top2 {x : Nat} (h : x < 2 ^ 8) : 2 * (x / 128 % 2) + x / 64 % 2 = x / 64 := by omega
theorem low2 (x : Nat) : 2 * (x / 2 % 2) + x % 2 = x % 4 := by omega
theorem low4 (x : Nat) : 2 * (2 * (2 * (x / 8 % 2) + x / 4 % 2) + x / 2 % 2) + x % 2 = x % 16 := by omega
theorem low6 (x : Nat) : 2 * (2 * (2 * (2 * (2 * (x / 32 % 2) + x / 16 % 2) + x / 8 % 2) + x / 4 % 2) + x / 2 % 2) + x % 2 = x % 64 := by omega
theorem six_bits (bs : List UInt8) (i : Nat) : sumB bs (6 * i) 6 = six bs i := by
  obtain ⟨q, t, rfl, ht⟩ : ∃ q t, i = 4 * q + t ∧ t < 4 := ⟨i / 4, i % 4, by omega, by omega⟩
  have hq : (4 * q + t) / 4 = q := by omega
  have hm : (4 * q + t) % 4 = t := by omega
  have h1 := UInt8.toNat_lt (bs.getD (3 * q) 0)
  have h2 := UInt8.toNat_lt (bs.getD (3 * q + 1) 0)
  have h3 := UInt8.toNat_lt (bs.getD (3 * q + 2) 0)
  have hb : ∀ m, m < 24 → bitN bs (24 * q + m) = (bs.getD (3 * q + m / 8) 0).toNat / 2 ^ (7 - m % 8) % 2 := fun m hm => by
    rw [bitN, show (24 * q + m) / 8 = 3 * q + m / 8 by omega, show (24 * q + m) % 8 = m % 8 by omega]
  have hr : ∀ p, sumB bs p 6 = 2 * (2 * (2 * (2 * (2 * (2 * 0 + bitN bs (p + 0)) + bitN bs (p + 1)) + bitN bs (p + 2)) + bitN bs (p + 3)) + bitN bs (p + 4)) + bitN bs (p + 5) := fun _ => rfl
  have he : ∀ j, j < 6 → bitN bs (6 * (4 * q + t) + j) = (bs.getD (3 * q + (6 * t + j) / 8) 0).toNat / 2 ^ (7 - (6 * t + j) % 8) % 2 := fun j hj => by
    rw [show 6 * (4 * q + t) + j = 24 * q + (6 * t + j) by omega, hb _ (by omega)]
  rw [six, hq, hm, hr, grp, he 0 (by decide), he 1 (by decide), he 2 (by decide), he 3 (by decide), he 4 (by decide), he 5 (by decide)]
  generalize hx : (bs.getD (3 * q) 0).toNat = x at *
  generalize hy : (bs.getD (3 * q + 1) 0).toNat = y at *
  generalize hz : (bs.getD (3 * q + 2) 0).toNat = z at *
  clear hb hr
  have : t = 0 ∨ t = 1 ∨ t = 2 ∨ t = 3 := by omega
  rcases this with rfl | rfl | rfl | rfl <;> simp only [Nat.reduceDiv, Nat.reduceMod, Nat.reduceSub, Nat.reducePow, Nat.add_zero, Nat.reduceAdd, Nat.reduceMul, Nat.zero_add, hx, hy, hz, Nat.div_one] <;> clear he hx hy hz
  · rw [show (x * 65536 + y * 256 + z) / 262144 % 64 = x / 4 by omega]
    exact top6 h1
  · rw [show (x * 65536 + y * 256 + z) / 4096 % 64 = x % 4 * 16 + y / 16 by omega, ← top4 h2, ← low2 x]
    omega
  · rw [show (x * 65536 + y * 256 + z) / 64 % 64 = y % 16 * 4 + z / 64 by omega, ← top2 h3, ← low4 y]
    omega
  · rw [show (x * 65536 + y * 256 + z) % 64 = z % 64 by omega, ← low6 z]
/-- A group's number, put together. -/
theorem grp_or {a b c : Nat} (hb : b < 256) (hc : c < 256) : a * 2 ^ 16 ||| b * 2 ^ 8 ||| c = a * 65536 + b * 256 + c := by
  have h1 : a * 2 ^ 16 ||| b * 2 ^ 8 = a * 2 ^ 16 + b * 2 ^ 8 := by
    rw [Nat.mul_comm a]
    exact (Nat.two_pow_add_eq_or_of_lt (by omega) a).symm
  rw [h1, show a * 2 ^ 16 + b * 2 ^ 8 = 2 ^ 8 * (a * 256 + b) by omega, ← Nat.two_pow_add_eq_or_of_lt (by omega)]
theorem and63 (n : Nat) : n &&& 63 = n % 64 := by rw [show 63 = 2 ^ 6 - 1 from rfl, Nat.and_two_pow_sub_one_eq_mod]
theorem and3 (n : Nat) : n &&& 3 = n % 4 := by rw [show 3 = 2 ^ 2 - 1 from rfl, Nat.and_two_pow_sub_one_eq_mod]
theorem and15 (n : Nat) : n &&& 15 = n % 16 := by rw [show 15 = 2 ^ 4 - 1 from rfl, Nat.and_two_pow_sub_one_eq_mod]
theorem or16 {a b : Nat} (hb : b < 16) : a * 2 ^ 4 ||| b = a * 16 + b := by
  rw [Nat.mul_comm a, ← Nat.two_pow_add_eq_or_of_lt (by omega)]
def urlS : List UInt8 := [65, 66, 67, 68, 69, 70, 71, 72, 73, 74, 75, 76, 77, 78, 79, 80, 81, 82, 83, 84, 85, 86, 87, 88, 89, 90, 97, 98, 99, 100, 101, 102, 103, 104, 105, 106, 107, 108, 109, 110, 111, 112, 113, 114, 115, 116, 117, 118, 119, 120, 121, 122, 48, 49, 50, 51, 52, 53, 54, 55, 56, 57, 45, 95]
theorem range2 {α : Type} (f : Nat → α) (n : Nat) : (List.range (n + 2)).map f = (List.range n).map f ++ [f n, f (n + 1)] := by
  simp [List.range_succ]
theorem range3 {α : Type} (f : Nat → α) (n : Nat) : (List.range (n + 3)).map f = (List.range n).map f ++ [f n, f (n + 1), f (n + 2)] := by
  simp [List.range_succ]
theorem range4 {α : Type} (f : Nat → α) (n : Nat) : (List.range (n + 4)).map f = (List.range n).map f ++ [f n, f (n + 1), f (n + 2), f (n + 3)] := by
  simp [List.range_succ]
end Sg
