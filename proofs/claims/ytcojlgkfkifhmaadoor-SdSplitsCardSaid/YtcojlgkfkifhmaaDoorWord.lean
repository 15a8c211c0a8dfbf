/- Words of 32 bits as values: their operations, rows of them, whole arrays, an index into an array's value, copies into an array. -/
import Derived.Test.YtcojlgkfkifhmaaDoorShaP
import Derived.Laws.CopyRow
namespace Sg
open Go Go.RowKit
def wV (x : UInt32) : Value := .int .u32 ((x.toNat : Nat) : Int)
theorem wsr_nat (x : UInt32) {n : Nat} (h : n < 32) : (wsr x (n : Int)).toNat = x.toNat / 2 ^ n := by
  unfold wsr
  rw [UInt32.toNat_shiftRight, Int.toNat_natCast, UInt32.toNat_ofNat', Nat.mod_eq_of_lt (show n < 2 ^ 32 by omega), Nat.mod_eq_of_lt h, Nat.shiftRight_eq_div_pow]
theorem wsl_nat (x : UInt32) {n : Nat} (h : n < 32) : (wsl x (n : Int)).toNat = x.toNat * 2 ^ n % 4294967296 := by
  unfold wsl
  rw [UInt32.toNat_shiftLeft, Int.toNat_natCast, UInt32.toNat_ofNat', Nat.mod_eq_of_lt (show n < 2 ^ 32 by omega), Nat.mod_eq_of_lt h, Nat.shiftLeft_eq]
theorem wsl_int (x : UInt32) {k : Nat} (h : k < 32) : (x.toNat : Int) * 2 ^ k % 4294967296 = ((wsl x ((k : Nat) : Int)).toNat : Int) := by
  rw [wsl_nat x h, Int.natCast_emod, Int.natCast_mul, Int.natCast_pow]
  rfl
theorem wsr_int (x : UInt32) {n : Nat} (h : n < 32) : (x.toNat : Int) / 2 ^ n = ((wsr x (n : Int)).toNat : Int) := by
  rw [wsr_nat x h, Int.natCast_ediv, Int.natCast_pow]
  rfl
theorem bits_or32 (x y : UInt32) : bits .or .u32 (x.toNat : Int) (y.toNat : Int) = ((x ||| y).toNat : Int) := by
  have := or_u32 (UInt32.toNat_lt x) (UInt32.toNat_lt y)
  rw [UInt32.toNat_or]
  exact this
theorem rot_bits (x : UInt32) {n k : Nat} (h : n + k = 32) (h0 : 0 < n) (hk : 0 < k) : bits .or .u32 ((x.toNat : Int) / 2 ^ n) ((x.toNat : Int) * 2 ^ k % 4294967296) = ((rot n x).toNat : Int) := by
  rw [wsr_int x (by omega), wsl_int x (by omega), bits_or32, rot, show (32 - (n : Int)) = (k : Int) by omega]
theorem or_comm32 (a b : Int) : bits .or .u32 a b = bits .or .u32 b a := by
  unfold bits
  simp only [BitVec.or_comm]
theorem all_wV {xs : List UInt32} : (xs.map wV).all (·.oneCell') = true := by simp [wV, Value.oneCell']
theorem getW {xs : List UInt32} {j : Nat} (h : j < xs.length) : (xs.map wV)[j]? = some (wV (xs.getD j 0)) := by
  simp [List.getD, h]
section
variable {q : Mode} {c : Ctx} {ds : List Deferred} {H : List Res} {ops : Array Oper} {l : List Oper} {κ : List Res → Env → Prop} {dr : Bool} {e : Env} {ty : TypeId} {pos : String} {aft : Array Edge}
theorem T.wadd {x y : Operand} {d : Tmp} {t u : TypeId} {a b : UInt32} (hx : ev e x = some (wV a)) (hy : ev e y = some (wV b)) (hlt : Nat.blt d c.fn.ntmps = true) (hk : Sr q c ds H ops l κ ((d, wV (a + b)) :: e)) :
    Sr q c ds H ops (⟨some d, .binOp .add t x y u, ty, pos, aft, none⟩ :: l) κ e := Sr.p (Pu.add hx hy (by rw [wrap_u32, UInt32.toNat_add]; omega)) rfl hlt rfl hk
theorem T.wxor {x y : Operand} {d : Tmp} {t u : TypeId} {a b : UInt32} (hx : ev e x = some (wV a)) (hy : ev e y = some (wV b)) (hlt : Nat.blt d c.fn.ntmps = true) (hk : Sr q c ds H ops l κ ((d, wV (a ^^^ b)) :: e)) :
    Sr q c ds H ops (⟨some d, .binOp .xor t x y u, ty, pos, aft, none⟩ :: l) κ e := Sr.p (Pu.xor hx hy (by rw [UInt32.toNat_xor]; exact xor_u32 (UInt32.toNat_lt a) (UInt32.toNat_lt b))) rfl hlt rfl hk
theorem T.wand {x y : Operand} {d : Tmp} {t u : TypeId} {a b : UInt32} (hx : ev e x = some (wV a)) (hy : ev e y = some (wV b)) (hlt : Nat.blt d c.fn.ntmps = true) (hk : Sr q c ds H ops l κ ((d, wV (a &&& b)) :: e)) :
    Sr q c ds H ops (⟨some d, .binOp .and t x y u, ty, pos, aft, none⟩ :: l) κ e := Sr.p (Pu.and hx hy (by rw [UInt32.toNat_and]; exact and_u32 (UInt32.toNat_lt a) (UInt32.toNat_lt b))) rfl hlt rfl hk
theorem T.wor {x y : Operand} {d : Tmp} {t u : TypeId} {a b : UInt32} (hx : ev e x = some (wV a)) (hy : ev e y = some (wV b)) (hlt : Nat.blt d c.fn.ntmps = true) (hk : Sr q c ds H ops l κ ((d, wV (a ||| b)) :: e)) :
    Sr q c ds H ops (⟨some d, .binOp .or t x y u, ty, pos, aft, none⟩ :: l) κ e := Sr.p (Pu.or hx hy (by rw [UInt32.toNat_or]; exact or_u32 (UInt32.toNat_lt a) (UInt32.toNat_lt b))) rfl hlt rfl hk
theorem T.wnot {x : Operand} {d : Tmp} {t : TypeId} {a : UInt32} (hx : ev e x = some (wV a)) (hlt : Nat.blt d c.fn.ntmps = true) (hk : Sr q c ds H ops l κ ((d, wV (~~~a)) :: e)) :
    Sr q c ds H ops (⟨some d, .unOp .xor t x, ty, pos, aft, none⟩ :: l) κ e := Sr.p (Pu.notX hx (by
  have h1 : (BitVec.ofInt 32 4294967295 ^^^ BitVec.ofInt 32 (a.toNat : Int)).toNat = (~~~a).toNat := by
    rw [show BitVec.ofInt 32 4294967295 = BitVec.allOnes 32 from rfl, BitVec.allOnes_xor, show BitVec.ofInt 32 (a.toNat : Int) = a.toBitVec from by
      apply BitVec.eq_of_toNat_eq
      rw [ofInt_toNat (UInt32.toNat_lt a)]
      rfl]
    rfl
  show IntKind.u32.wrap ((BitVec.ofInt 32 4294967295 ^^^ BitVec.ofInt 32 (a.toNat : Int)).toNat : Int) = _
  rw [h1]
  have := UInt32.toNat_lt (~~~a)
  exact IntWalk.u32_in _ (by omega))) rfl hlt rfl hk
theorem T.wshl {x y : Operand} {d : Tmp} {t u : TypeId} {a : UInt32} {kd' : IntKind} {n : Int} (hx : ev e x = some (wV a)) (hy : ev e y = some (.int kd' n)) (hn : 0 ≤ n ∧ n < 32) (hlt : Nat.blt d c.fn.ntmps = true) (hk : Sr q c ds H ops l κ ((d, wV (wsl a n)) :: e)) :
    Sr q c ds H ops (⟨some d, .binOp .shl t x y u, ty, pos, aft, none⟩ :: l) κ e := Sr.p (Pu.shl hx hy hn.1 (by
  obtain ⟨m, rfl⟩ : ∃ m : Nat, n = (m : Int) := ⟨n.toNat, by omega⟩
  have h1 : Min.min (m : Int).toNat IntKind.u32.bits = m := by show Min.min (m : Int).toNat 32 = m; omega
  rw [wrap_u32, h1, wsl_int a (by omega)])) rfl hlt rfl hk
theorem T.wshr {x y : Operand} {d : Tmp} {t u : TypeId} {a : UInt32} {kd' : IntKind} {n : Int} (hx : ev e x = some (wV a)) (hy : ev e y = some (.int kd' n)) (hn : 0 ≤ n ∧ n < 32) (hlt : Nat.blt d c.fn.ntmps = true) (hk : Sr q c ds H ops l κ ((d, wV (wsr a n)) :: e)) :
    Sr q c ds H ops (⟨some d, .binOp .shr t x y u, ty, pos, aft, none⟩ :: l) κ e := Sr.p (Pu.shr hx hy hn.1 (by
  obtain ⟨m, rfl⟩ : ∃ m : Nat, n = (m : Int) := ⟨n.toNat, by omega⟩
  have h1 : Min.min (m : Int).toNat IntKind.u32.bits = m := by show Min.min (m : Int).toNat 32 = m; omega
  rw [h1, Int.fdiv_eq_ediv_of_nonneg _ (by have := Int.pow_pos (n := (2 : Int)) (m := m) (by decide); omega), wsr_int a (by omega)])) rfl hlt rfl hk
/-- A byte as a word, a word's lowest byte. -/
theorem T.wconvB {x : Operand} {d : Tmp} {s t : TypeId} {b : UInt8} {dd : TypeDesc} [HU c.P s dd] [HU c.P t (.int .u32)] (hx : ev e x = some (.int .u8 (b.toNat : Int))) (hlt : Nat.blt d c.fn.ntmps = true) (hk : Sr q c ds H ops l κ ((d, wV b.toUInt32) :: e)) :
    Sr q c ds H ops (⟨some d, .convert s t x, ty, pos, aft, none⟩ :: l) κ e := Sr.p (Pu.conv (d := dd) hx (by
  have := UInt8.toNat_lt b
  rw [wrap_u32, UInt8.toNat_toUInt32]; omega)) rfl hlt rfl hk
theorem T.wbyte {x : Operand} {d : Tmp} {s t : TypeId} {a : UInt32} {dd : TypeDesc} [HU c.P s dd] [HU c.P t (.int .u8)] (hx : ev e x = some (wV a)) (hlt : Nat.blt d c.fn.ntmps = true) (hk : Sr q c ds H ops l κ ((d, .int .u8 (a.toUInt8.toNat : Int)) :: e)) :
    Sr q c ds H ops (⟨some d, .convert s t x, ty, pos, aft, none⟩ :: l) κ e := Sr.p (Pu.conv (d := dd) hx (by rw [wrap_u8, UInt32.toNat_toUInt8]; omega)) rfl hlt rfl hk
theorem T.wand255 {x : Operand} {d : Tmp} {t u : TypeId} {a : UInt32} (hx : ev e x = some (wV a)) (hlt : Nat.blt d c.fn.ntmps = true) (hk : Sr q c ds H ops l κ ((d, wV (a &&& 255)) :: e)) :
    Sr q c ds H ops (⟨some d, .binOp .and t x (.const (.int .u32 255)) u, ty, pos, aft, none⟩ :: l) κ e := T.wand (b := 255) hx rfl hlt hk
theorem T.subKN {x y : Operand} {d : Tmp} {t u : TypeId} {m : Nat} (n : Nat) (hx : ev e x = some (.int .i64 (m : Int))) (hy : ev e y = some (.int .i64 (n : Int))) (h : n ≤ m ∧ m < 9223372036854775808) (hlt : Nat.blt d c.fn.ntmps = true) (hk : Sr q c ds H ops l κ ((d, .int .i64 ((m - n : Nat) : Int)) :: e)) :
    Sr q c ds H ops (⟨some d, .binOp .sub t x y u, ty, pos, aft, none⟩ :: l) κ e := Sr.p (Pu.sub hx hy (by rw [show (m : Int) - n = ((m - n : Nat) : Int) by omega]; exact IntWalk.i64_in _ (by omega))) rfl hlt rfl hk
theorem T.mulKN {x y : Operand} {d : Tmp} {t u : TypeId} {m : Nat} (n : Nat) (hx : ev e x = some (.int .i64 (n : Int))) (hy : ev e y = some (.int .i64 (m : Int))) (h : n * m < 9223372036854775808) (hlt : Nat.blt d c.fn.ntmps = true) (hk : Sr q c ds H ops l κ ((d, .int .i64 ((n * m : Nat) : Int)) :: e)) :
    Sr q c ds H ops (⟨some d, .binOp .mul t x y u, ty, pos, aft, none⟩ :: l) κ e := Sr.p (Pu.mul hx hy (by rw [show (n : Int) * m = ((n * m : Nat) : Int) by push_cast; rfl]; exact IntWalk.i64_in _ (by omega))) rfl hlt rfl hk
theorem T.addKN {x y : Operand} {d : Tmp} {t u : TypeId} {m : Nat} (n : Nat) (hx : ev e x = some (.int .i64 (m : Int))) (hy : ev e y = some (.int .i64 (n : Int))) (h : m + n < 9223372036854775808) (hlt : Nat.blt d c.fn.ntmps = true) (hk : Sr q c ds H ops l κ ((d, .int .i64 ((m + n : Nat) : Int)) :: e)) :
    Sr q c ds H ops (⟨some d, .binOp .add t x y u, ty, pos, aft, none⟩ :: l) κ e := Sr.p (Pu.add hx hy (by rw [show (m : Int) + n = ((m + n : Nat) : Int) by push_cast; rfl]; exact IntWalk.i64_in _ (by omega))) rfl hlt rfl hk
/-- A part of an array in a block, from a place on. -/
theorem T.sliceAN {x lo : Operand} {d : Tmp} {b off n : Nat} {kd : IntKind} {i : Nat} {t E : TypeId} {z : Value} {by_ : Nat} [HU c.P t (.array n E)] [HI c.P E z 1 by_] (hx : ev e x = some (.pointer (some ⟨b, off, none⟩))) (hl : ev e lo = some (.int kd (i : Int)))
    (h0 : i < n) (hlt : Nat.blt d c.fn.ntmps = true) (hk : Sr q c ds H ops l κ ((d, .slice (some ⟨b, off + i, none⟩) (n - i) (n - i)) :: e)) : Sr q c ds H ops (⟨some d, .slice t x (some lo) none none, ty, pos, aft, none⟩ :: l) κ e :=
  T.sliceA (n := n) (E := E) (z := z) (sz := 1) (by_ := by_) hx hl (by omega) hlt (by simpa using hk)
/-- A call that answers the same in every world. -/
theorem T.pcall {d : Tmp} {args : List Operand} {ats : Array TypeId} {g : FuncId} {vs : List Value} {v : Value} (hargs : evs e args = some vs) (hhf : HF c.P g) (hlt : Nat.blt d c.fn.ntmps = true) (hsp : PCall c.P g vs v) (hk : Sr (.eff dr) c ds H ops l κ ((d, v) :: e)) :
    Sr (.eff dr) c ds H ops (⟨some d, .call ⟨.value (.func g), args.toArray, ats⟩, ty, pos, aft, none⟩ :: l) κ e := Sr.call hargs hlt hsp.of (fun en H' h => by obtain ⟨rfl, rfl⟩ := h; exact hk)
theorem T.addNN {x y : Operand} {d : Tmp} {t u : TypeId} {m n : Nat} (hx : ev e x = some (.int .i64 (m : Int))) (hy : ev e y = some (.int .i64 (n : Int))) (h : m + n < 9223372036854775808) (hlt : Nat.blt d c.fn.ntmps = true) (hk : Sr q c ds H ops l κ ((d, .int .i64 ((m + n : Nat) : Int)) :: e)) :
    Sr q c ds H ops (⟨some d, .binOp .add t x y u, ty, pos, aft, none⟩ :: l) κ e := T.addKN n hx hy h hlt hk
/-- A number's lowest byte. -/
theorem T.convBU64 {x : Operand} {d : Tmp} {s t : TypeId} {m : Nat} {dd : TypeDesc} [HU c.P s dd] [HU c.P t (.int .u8)] (hx : ev e x = some (.int .u64 (m : Int))) (hlt : Nat.blt d c.fn.ntmps = true) (hk : Sr q c ds H ops l κ ((d, .int .u8 ((UInt8.ofNat m).toNat : Int)) :: e)) :
    Sr q c ds H ops (⟨some d, .convert s t x, ty, pos, aft, none⟩ :: l) κ e := Sr.p (Pu.conv (d := dd) hx (by rw [wrap_u8, UInt8.toNat_ofNat']; omega)) rfl hlt rfl hk
/-- Four bytes appended. -/
theorem T.append4 {d : Tmp} {x y : Operand} {ad : Option Addr} {n cp b t E Eb : Nat} {m₀ m₁ m₂ m₃ : UInt8} [HU c.P t (.slice E)] {z : Value} {by_ : Nat} [HI c.P E z 1 by_] {xs : List UInt8} {f : Res → List Res} (hx : ev e x = some (.slice ad n cp)) (hy : ev e y = some (.slice (some ⟨b, 0, none⟩) 4 4))
    (hr : AtR H ad cp E 1 n (xs.map bV) f) (hzs : z.cells.size = 1) (hroom : (n + 4) * by_ ≤ 140737488355328 ∧ n + 4 ≤ 140737488355328) (hlt : Nat.blt d c.fn.ntmps = true)
    (hk : ∀ ad' cp', Sr (.eff dr) c ds (f (.row ad' cp' E 1 (n + 4) ((xs ++ [m₀, m₁, m₂, m₃]).map bV))) ops l κ ((d, .slice ad' (n + 4) cp') :: e)) :
    Sr (.eff dr) c ds (.blk b [.int .u8 (m₀.toNat : Int), .int .u8 (m₁.toNat : Int), .int .u8 (m₂.toNat : Int), .int .u8 (m₃.toNat : Int)] Eb :: H) ops (⟨some d, .call ⟨.builtin .append, #[x, y], #[t, t]⟩, ty, pos, aft, none⟩ :: l) κ e := Sr.append (z := z) (by_ := by_) hx hy rfl rfl hzs (by omega) hroom hlt (fun ad' cp' => by
    have := hk ad' cp'
    rw [List.map_append] at this
    exact this)
/-- Three bytes appended. -/
theorem T.append3 {d : Tmp} {x y : Operand} {ad : Option Addr} {n cp b t E Eb : Nat} {m₀ m₁ m₂ : UInt8} [HU c.P t (.slice E)] {z : Value} {by_ : Nat} [HI c.P E z 1 by_] {xs : List UInt8} {f : Res → List Res} (hx : ev e x = some (.slice ad n cp)) (hy : ev e y = some (.slice (some ⟨b, 0, none⟩) 3 3))
    (hr : AtR H ad cp E 1 n (xs.map bV) f) (hzs : z.cells.size = 1) (hroom : (n + 3) * by_ ≤ 140737488355328 ∧ n + 3 ≤ 140737488355328) (hlt : Nat.blt d c.fn.ntmps = true)
    (hk : ∀ ad' cp', Sr (.eff dr) c ds (f (.row ad' cp' E 1 (n + 3) ((xs ++ [m₀, m₁, m₂]).map bV))) ops l κ ((d, .slice ad' (n + 3) cp') :: e)) :
    Sr (.eff dr) c ds (.blk b [.int .u8 (m₀.toNat : Int), .int .u8 (m₁.toNat : Int), .int .u8 (m₂.toNat : Int)] Eb :: H) ops (⟨some d, .call ⟨.builtin .append, #[x, y], #[t, t]⟩, ty, pos, aft, none⟩ :: l) κ e := Sr.append (z := z) (by_ := by_) hx hy rfl rfl hzs (by omega) hroom hlt (fun ad' cp' => by
    have := hk ad' cp'
    rw [List.map_append] at this
    exact this)
/-- Two bytes appended. -/
theorem T.append2 {d : Tmp} {x y : Operand} {ad : Option Addr} {n cp b t E Eb : Nat} {m₀ m₁ : UInt8} [HU c.P t (.slice E)] {z : Value} {by_ : Nat} [HI c.P E z 1 by_] {xs : List UInt8} {f : Res → List Res} (hx : ev e x = some (.slice ad n cp)) (hy : ev e y = some (.slice (some ⟨b, 0, none⟩) 2 2))
    (hr : AtR H ad cp E 1 n (xs.map bV) f) (hzs : z.cells.size = 1) (hroom : (n + 2) * by_ ≤ 140737488355328 ∧ n + 2 ≤ 140737488355328) (hlt : Nat.blt d c.fn.ntmps = true)
    (hk : ∀ ad' cp', Sr (.eff dr) c ds (f (.row ad' cp' E 1 (n + 2) ((xs ++ [m₀, m₁]).map bV))) ops l κ ((d, .slice ad' (n + 2) cp') :: e)) :
    Sr (.eff dr) c ds (.blk b [.int .u8 (m₀.toNat : Int), .int .u8 (m₁.toNat : Int)] Eb :: H) ops (⟨some d, .call ⟨.builtin .append, #[x, y], #[t, t]⟩, ty, pos, aft, none⟩ :: l) κ e := Sr.append (z := z) (by_ := by_) hx hy rfl rfl hzs (by omega) hroom hlt (fun ad' cp' => by
    have := hk ad' cp'
    rw [List.map_append] at this
    exact this)
theorem T.mulNK {x y : Operand} {d : Tmp} {t u : TypeId} {m : Nat} (n : Nat) (hx : ev e x = some (.int .i64 (m : Int))) (hy : ev e y = some (.int .i64 (n : Int))) (h : m * n < 9223372036854775808) (hlt : Nat.blt d c.fn.ntmps = true) (hk : Sr q c ds H ops l κ ((d, .int .i64 ((m * n : Nat) : Int)) :: e)) :
    Sr q c ds H ops (⟨some d, .binOp .mul t x y u, ty, pos, aft, none⟩ :: l) κ e := Sr.p (Pu.mul hx hy (by rw [show (m : Int) * n = ((m * n : Nat) : Int) by push_cast; rfl]; exact IntWalk.i64_in _ (by omega))) rfl hlt rfl hk
/-- A new row of bytes with room alone. -/
theorem T.makeB0 {d : Tmp} {x y : Operand} {kd kd' : IntKind} {n : Nat} {t E : TypeId} [HU c.P t (.slice E)] [HI c.P E (.int .u8 0) 1 1] (hx : ev e x = some (.int kd 0)) (hy : ev e y = some (.int kd' (n : Int))) (hn : n ≤ 281474976710656) (hd : Nat.blt d c.fn.ntmps = true)
    (hk : ∀ b, Sr (.eff dr) c ds (.row (some ⟨b, 0, none⟩) n E 1 0 (([] : List UInt8).map bV) :: H) ops l κ ((d, .slice (some ⟨b, 0, none⟩) 0 n) :: e)) : Sr (.eff dr) c ds H ops (⟨some d, .makeSlice t x y, ty, pos, aft, none⟩ :: l) κ e :=
  Sr.eff (K := fun v H' => ∃ b, v = .slice (some ⟨b, 0, none⟩) 0 n ∧ H' = .row (some ⟨b, 0, none⟩) n E 1 0 (([] : List UInt8).map bV) :: H) (fun w a hw ha => by
    obtain ⟨i, hi1, hi2, hi3, hi4⟩ := HI.h (P := c.P) (t := E) (z := .int .u8 0) (sz := 1) (by_ := 1)
    have hr := run_make (P := c.P) w t E i (.int .u8 0) (HU.h (P := c.P) (t := t)) hi1 hi2 kd kd' 0 n (Int.le_refl _) (by omega) (by rw [hi4]; omega) (by omega)
    simp only [Int.toNat_natCast, hi3, Nat.mul_one, Int.toNat_zero] at hr
    have hms : (madeCells (Value.int IntKind.u8 0).cells n).size = n := by simp [madeCells]
    generalize madeCells (Value.int IntKind.u8 0).cells n = cs at hr hms
    refine ⟨.slice (some ⟨w.heap.size, 0, none⟩) 0 n, w.alloc (.cells cs E), _, .inl (by simp only [execOp, ha.ev hx, ha.ev hy, Sem.run_bind, hr, Result.andThen_ok, Sem.run_pure]), hw.fresh (r' := .row (some ⟨w.heap.size, 0, none⟩) n E 1 0 (([] : List UInt8).map bV)) rfl rfl rfl (by simp) (fun j hj => Below.heap_alloc _ _ _ hj) ?_ (fun b hb => by simp only [Res.foot, List.mem_singleton] at hb; omega) (by simp [Res.foot]), _, rfl, rfl⟩
    refine ⟨rfl, .inr ⟨w.heap.size, n, cs, rfl, Nat.zero_le _, heap_alloc_new w _, Nat.zero_le _, by unfold maxLen; omega, by rw [hms, Nat.mul_one], by simp⟩⟩) hd rfl
    (fun v H' ⟨b, hv, hH⟩ => by subst hv hH; exact hk b)
theorem S.nilrowB {k : List Item} (E : TypeId) (h : S c ds (.row none 0 E 1 0 (([] : List UInt8).map bV) :: H) k e) : S c ds H k e := S.nilrow E 1 h
/-- A word of a row that can be read, by its address in a block. -/
theorem T.loadGW {x : Operand} {d b i : Nat} {t : TypeId} [HU c.P t (.int .u32)] {xs : List UInt32} (hx : ev e x = some (.pointer (some ⟨b, i, none⟩))) (hr : Rd c.F c.M H (some ⟨b, 0, none⟩) (xs.map wV)) (hi : i < xs.length) (hlt : Nat.blt d c.fn.ntmps = true)
    (hk : Sr q c ds H ops l κ ((d, wV (xs.getD i 0)) :: e)) : Sr q c ds H ops (⟨some d, .load t x, ty, pos, aft, none⟩ :: l) κ e :=
  Sr.p (Pu.loadE (ad := some ⟨b, 0, none⟩) (j := i) (d := .int .u32) (by rw [hx]; simp [eaddr, addr_add]) rfl (getW hi)) rfl hlt rfl hk
/-- A whole array that can be read. -/
theorem T.loadGA {x : Operand} {d b : Nat} {t : TypeId} {dd : TypeDesc} [HU c.P t dd] {z : Value} {n by_ : Nat} [HI c.P t z n by_] {vs : List Value} (hx : ev e x = some (.pointer (some ⟨b, 0, none⟩))) (hd : plain dd = false) (hr : Rd c.F c.M H (some ⟨b, 0, none⟩) vs) (hn : vs.length = n) (h0 : 0 < n) (hlt : Nat.blt d c.fn.ntmps = true)
    (hk : Sr q c ds H ops l κ ((d, .agg ⟨vs⟩) :: e)) : Sr q c ds H ops (⟨some d, .load t x, ty, pos, aft, none⟩ :: l) κ e := by
  have := Pu.loadEN (c := c) (H := H) (e := e) (x := x) (dst := some d) (ty := ty) (pos := pos) (aft := aft) (g := none) (t := t) (dd := dd) (z := z) (by_ := by_) (n := n) (vs := vs) (ad := some ⟨b, 0, none⟩) (j := 0) hd (by rw [hx]; simp [eaddr, addr_add]) hr h0 (by omega)
  rw [List.drop_zero, List.take_of_length_le (by omega)] at this
  exact Sr.p this rfl hlt rfl hk
/-- A word stored into an array of words of the call's own. -/
theorem T.storeWK {x y : Operand} {b i : Nat} {a : UInt32} {t : TypeId} {z : Value} {by_ : Nat} [HI c.P t z 1 by_] {vs : List Value} {xs : List UInt32} {E : TypeId} {f : Res → List Res} (hx : ev e x = some (.pointer (some ⟨b, i, none⟩))) (hy : ev e y = some (wV a))
    (hb : AtB H b vs E f) (hvs : vs = xs.map wV) (hi : i < xs.length) (hk : Sr (.eff dr) c ds (f (.blk b ((xs.set i a).map wV) E)) ops l κ e) : Sr (.eff dr) c ds H ops (⟨none, .store t x y, ty, pos, aft, none⟩ :: l) κ e := by
  subst hvs
  refine Sr.store (z := z) (by_ := by_) hx hy (by simpa using hi) rfl ?_
  rw [← List.map_set]
  exact hk
/-- An array's value at a place. -/
theorem T.widx {x y : Operand} {d : Tmp} {t E : TypeId} {n i : Nat} {kd : IntKind} {z : Value} {by_ : Nat} [HU c.P t (.array n E)] [HU c.P E (.int .u32)] [HI c.P E z 1 by_] {xs : List UInt32} (hx : ev e x = some (.agg ⟨xs.map wV⟩)) (hy : ev e y = some (.int kd (i : Int))) (hi : i < n ∧ i < xs.length) (hlt : Nat.blt d c.fn.ntmps = true)
    (hk : Sr q c ds H ops l κ ((d, wV (xs.getD i 0)) :: e)) : Sr q c ds H ops (⟨some d, .index t x y, ty, pos, aft, none⟩ :: l) κ e :=
  Sr.p (fun w a _ ha => by
    have h1 := getW hi.2
    generalize xs.getD i 0 = r at *
    simp only [List.getElem?_map] at h1
    simp [execOp, ha.ev hx, ha.ev hy, Instr.index, asIntOf, run_under (d := .array n E), run_size (z := z) (sz := 1) (b := by_), part, run_isAgg (d := .int .u32), plain, hi.1, h1]) rfl hlt rfl hk
/-- A part of an array in a block, by both ends. -/
theorem T.sliceALH {x lo hi : Operand} {d : Tmp} {b off n : Nat} {kd kd' : IntKind} {i j : Nat} {t E : TypeId} {z : Value} {by_ : Nat} [HU c.P t (.array n E)] [HI c.P E z 1 by_] (hx : ev e x = some (.pointer (some ⟨b, off, none⟩))) (hl : ev e lo = some (.int kd (i : Int))) (hh : ev e hi = some (.int kd' (j : Int)))
    (h0 : i ≤ j ∧ j ≤ n ∧ i < n) (hlt : Nat.blt d c.fn.ntmps = true) (hk : Sr q c ds H ops l κ ((d, .slice (some ⟨b, off + i, none⟩) (j - i) (n - i)) :: e)) : Sr q c ds H ops (⟨some d, .slice t x (some lo) (some hi) none, ty, pos, aft, none⟩ :: l) κ e :=
  Sr.p (fun w a _ ha => by
    have h1 : 0 ≤ (j : Int) ∧ (j : Int) ≤ (n : Int) := by omega
    have h2 : 0 ≤ (i : Int) ∧ (i : Int) ≤ (j : Int) := by omega
    have h3 : ¬ n = i := by omega
    simp [execOp, ha.ev hx, ha.ev hl, ha.ev hh, Instr.sliceAt, Instr.sureAddr, Instr.sliceBounds, run_under (d := .array n E), run_size (z := z) (sz := 1) (b := by_), run_sliceBound h1, run_sliceBound h2, h3, addr_add]) rfl hlt rfl hk
/-- A copy into a block of the call's own. -/
theorem Sr.copyB {d : Tmp} {x y : Operand} {b o dl dc m scp k t t' E Eb : Nat} {sad : Option Addr} [HU c.P t (.slice E)] {z : Value} {by_ : Nat} [HI c.P E z 1 by_] {vs us : List Value} {f : Res → List Res} (hx : ev e x = some (.slice (some ⟨b, o, none⟩) dl dc)) (hy : ev e y = some (.slice sad m scp))
    (hb : AtB H b vs Eb f) (hs : Rd c.F c.M H sad us) (hm : us.length = m) (h0 : 0 < m) (hk0 : min m dl = k) (ho : o + k ≤ vs.length) (h1 : us.all (·.oneCell') = true) (hlt : Nat.blt d c.fn.ntmps = true)
    (hk : Sr (.eff dr) c ds (f (.blk b (vs.take o ++ us.take k ++ vs.drop (o + k)) Eb)) ops l κ ((d, .int .i64 (k : Int)) :: e)) :
    Sr (.eff dr) c ds H ops (⟨some d, .call ⟨.builtin .copy, #[x, y], #[t, t']⟩, ty, pos, aft, none⟩ :: l) κ e :=
  Sr.eff (K := fun v H' => v = .int .i64 (k : Int) ∧ H' = f (.blk b (vs.take o ++ us.take k ++ vs.drop (o + k)) Eb)) (fun w a hw ha => by
    obtain ⟨rest, p1, p2⟩ := hb.h
    have hw' := hw.perm p1
    have hblk : w.heap[b]? = some (.cells ⟨vs⟩ Eb (0, 0)) := hw'.res _ (List.mem_cons_self ..)
    obtain ⟨q0, rfl, -⟩ := hs.h w hw 0 us[0] (List.getElem?_eq_getElem (by omega))
    have hlen : (us.take k).length = k := by rw [List.length_take]; omega
    have hP : c.P.underlying t = some (.slice E) := HU.h
    obtain ⟨ti, hi, _, hsz, _⟩ := HI.h (P := c.P) (t := E)
    have hsrc : ∀ j v, (us.take k)[j]? = some v → w.cell? (q0.add j) = some v := fun j v hj => by
      have hjk : j < k := by have := (List.getElem?_eq_some_iff.1 hj).1; omega
      rw [List.getElem?_take_of_lt hjk] at hj
      obtain ⟨q1, h2, h3⟩ := hs.h w hw j v hj
      simp only [Option.some.injEq] at h2
      subst h2
      exact h3
    have hrun := run_copy_row c.P w t t' ty E b o dl dc q0 m scp ⟨vs⟩ Eb (us.take k) hP (by rw [hi]; simp [hsz]) hblk (by rw [hlen, ← hk0]) hsrc (by rw [hlen]; simpa using ho) (fun v hv => List.all_eq_true.1 h1 v (List.mem_of_mem_take hv))
    rw [hlen] at hrun
    refine ⟨goInt k, w.setRow b ((⟨vs⟩ : Array Value).toList.take o ++ us.take k ++ (⟨vs⟩ : Array Value).toList.drop (o + k)).toArray, _, .inl (by simp only [execOp, ha.ev hx, ha.ev hy, resolve, invoke, builtin]; simp [ha.ev hx, ha.ev hy, resolve, invoke, builtin, -List.append_assoc, hrun]), St.perm (hw'.turn (r' := .blk b (vs.take o ++ us.take k ++ vs.drop (o + k)) Eb) rfl rfl rfl (by simp) (fun q _ hq => by rw [setRow_other]; simpa [Res.foot] using hq) ?_ (fun q hq => .inl hq) (by simp [Res.foot])) (p2 _), rfl, rfl⟩
    have := setRow_heap w b ⟨vs⟩ (vs.take o ++ us.take k ++ vs.drop (o + k)).toArray Eb (0, 0) hblk
    simpa [Res.holds] using this) hlt rfl (fun v H' ⟨h2, h3⟩ => by subst h2 h3; exact hk)
end
end Sg
