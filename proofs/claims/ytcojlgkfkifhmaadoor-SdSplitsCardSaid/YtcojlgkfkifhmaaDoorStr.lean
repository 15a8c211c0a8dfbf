/- Rules on texts: a text is the list of its bytes. -/
import Derived.Test.YtcojlgkfkifhmaaDoorMoreC
import Derived.Laws.Strings
import Derived.Laws.Strings2
import Derived.Laws.Slices
import Derived.Laws.BytesString
namespace Sg
open Go Go.RowKit
abbrev sV (l : List UInt8) : Value := .string (ByteArray.mk l.toArray)
theorem sV_of (s : ByteArray) : Value.string s = sV s.data.toList := by
  cases s
  simp [sV]
theorem beq_dec (a b : List UInt8) : (a == b) = decide (a = b) := by by_cases h : a = b <;> simp [h]
theorem sV_inj {a b : List UInt8} : sV a = sV b ↔ a = b := by
  simp [sV]
section
variable {c : Ctx} {dr : Bool} {ds : List Deferred} {H : List Res} {e : Env} {ops : Array Oper} {l : List Oper} {κ : List Res → Env → Prop} {dst : Option Tmp} {ty : TypeId} {pos : String} {aft : Array Edge} {g : Option (Nat × Bool)} {q : Mode}
theorem Pu.sop {x y : Operand} {a b : List UInt8} {op : BinOp} {t u : TypeId} {v : Value} (hop : op = .eql ∨ op = .neq ∨ op = .lss ∨ op = .leq ∨ op = .gtr ∨ op = .geq ∨ op = .add) (hx : ev e x = some (sV a)) (hy : ev e y = some (sV b))
    (hv : ∀ w, (Op.stringOp op (ByteArray.mk a.toArray) (ByteArray.mk b.toArray)).run c.P w = .ok v w) : Pu c H e ⟨dst, .binOp op t x y u, ty, pos, aft, g⟩ v := fun w ac _ ha => by
  rcases hop with rfl | rfl | rfl | rfl | rfl | rfl | rfl <;> simp [execOp, ha.ev hx, ha.ev hy, eqGuard, binOp, hv]
theorem T.sop {x y : Operand} {d : Tmp} {a b : List UInt8} {op : BinOp} {t u : TypeId} {v : Value} (hop : op = .eql ∨ op = .neq ∨ op = .lss ∨ op = .leq ∨ op = .gtr ∨ op = .geq ∨ op = .add) (hx : ev e x = some (sV a)) (hy : ev e y = some (sV b))
    (hv : ∀ w, (Op.stringOp op (ByteArray.mk a.toArray) (ByteArray.mk b.toArray)).run c.P w = .ok v w) (hlt : Nat.blt d c.fn.ntmps = true) (hk : Sr q c ds H ops l κ ((d, v) :: e)) : Sr q c ds H ops (⟨some d, .binOp op t x y u, ty, pos, aft, none⟩ :: l) κ e :=
  Sr.p (Pu.sop hop hx hy hv) rfl hlt rfl hk
theorem T.seql {x y : Operand} {d : Tmp} {a b : List UInt8} {t u : TypeId} (hx : ev e x = some (sV a)) (hy : ev e y = some (sV b)) (hlt : Nat.blt d c.fn.ntmps = true) (hk : Sr q c ds H ops l κ ((d, .bool (decide (a = b))) :: e)) : Sr q c ds H ops (⟨some d, .binOp .eql t x y u, ty, pos, aft, none⟩ :: l) κ e :=
  T.sop (by simp) hx hy (fun w => by
    simp [Op.stringOp, Sem.run_pure]
    rw [beq_dec]) hlt hk
theorem T.sneq {x y : Operand} {d : Tmp} {a b : List UInt8} {t u : TypeId} (hx : ev e x = some (sV a)) (hy : ev e y = some (sV b)) (hlt : Nat.blt d c.fn.ntmps = true) (hk : Sr q c ds H ops l κ ((d, .bool (decide (¬ a = b))) :: e)) : Sr q c ds H ops (⟨some d, .binOp .neq t x y u, ty, pos, aft, none⟩ :: l) κ e :=
  T.sop (by simp) hx hy (fun w => by
    simp [Op.stringOp, Sem.run_pure]
    rw [beq_dec]) hlt hk
theorem T.slss {x y : Operand} {d : Tmp} {a b : List UInt8} {t u : TypeId} (hx : ev e x = some (sV a)) (hy : ev e y = some (sV b)) (hlt : Nat.blt d c.fn.ntmps = true) (hk : Sr q c ds H ops l κ ((d, .bool (Op.bytesLess a b)) :: e)) : Sr q c ds H ops (⟨some d, .binOp .lss t x y u, ty, pos, aft, none⟩ :: l) κ e :=
  T.sop (by simp) hx hy (fun w => by simp [Op.stringOp, Sem.run_pure]) hlt hk
theorem T.sleq {x y : Operand} {d : Tmp} {a b : List UInt8} {t u : TypeId} (hx : ev e x = some (sV a)) (hy : ev e y = some (sV b)) (hlt : Nat.blt d c.fn.ntmps = true) (hk : Sr q c ds H ops l κ ((d, .bool (Op.bytesLess a b || decide (a = b))) :: e)) : Sr q c ds H ops (⟨some d, .binOp .leq t x y u, ty, pos, aft, none⟩ :: l) κ e :=
  T.sop (by simp) hx hy (fun w => by
    simp [Op.stringOp, Sem.run_pure]
    rw [beq_dec]) hlt hk
theorem T.sgtr {x y : Operand} {d : Tmp} {a b : List UInt8} {t u : TypeId} (hx : ev e x = some (sV a)) (hy : ev e y = some (sV b)) (hlt : Nat.blt d c.fn.ntmps = true) (hk : Sr q c ds H ops l κ ((d, .bool (!(Op.bytesLess a b || decide (a = b)))) :: e)) : Sr q c ds H ops (⟨some d, .binOp .gtr t x y u, ty, pos, aft, none⟩ :: l) κ e :=
  T.sop (by simp) hx hy (fun w => by
    simp [Op.stringOp, Sem.run_pure]
    rw [beq_dec]) hlt hk
theorem T.sadd {x y : Operand} {d : Tmp} {a b : List UInt8} {t u : TypeId} (hx : ev e x = some (sV a)) (hy : ev e y = some (sV b)) (hm : a.length + b.length ≤ 9223372036854775807) (hlt : Nat.blt d c.fn.ntmps = true) (hk : Sr q c ds H ops l κ ((d, sV (a ++ b)) :: e)) : Sr q c ds H ops (⟨some d, .binOp .add t x y u, ty, pos, aft, none⟩ :: l) κ e :=
  T.sop (by simp) hx hy (fun w => by
    have h : ¬ (((a.length + b.length : Nat) : Int) > IntKind.i64.max) := by
      show ¬ (((a.length + b.length : Nat) : Int) > 9223372036854775807)
      omega
    have h2 : ByteArray.mk a.toArray ++ ByteArray.mk b.toArray = ByteArray.mk (a ++ b).toArray := by
      apply ByteArray.ext
      simp
    have h3 : (ByteArray.mk a.toArray).size + (ByteArray.mk b.toArray).size = a.length + b.length := rfl
    simp only [Op.stringOp, h3, if_neg h, h2, Sem.run_pure]) hlt hk
theorem T.slen {x : Operand} {d : Tmp} {a : List UInt8} {t : TypeId} [HU c.P t .string] (hx : ev e x = some (sV a)) (hlt : Nat.blt d c.fn.ntmps = true) (hk : Sr q c ds H ops l κ ((d, .int .i64 (a.length : Int)) :: e)) : Sr q c ds H ops (⟨some d, .call ⟨.builtin .len, #[x], #[t]⟩, ty, pos, aft, none⟩ :: l) κ e := T.lenS hx hlt hk
theorem Pu.sidx {x y : Operand} {a : List UInt8} {i : Nat} {kd : IntKind} {t : TypeId} [HU c.P t .string] (hx : ev e x = some (sV a)) (hy : ev e y = some (.int kd (i : Int))) (h : i < a.length) : Pu c H e ⟨dst, .index t x y, ty, pos, aft, g⟩ (.int .u8 ((a.getD i 0).toNat : Int)) := fun w ac _ ha => by
  have hr := run_index_string (P := c.P) w t (ByteArray.mk a.toArray) kd (i : Int) (HU.h (P := c.P) (t := t))
  have hs : (0 : Int) ≤ (i : Int) ∧ ((i : Nat) : Int) < ((ByteArray.mk a.toArray).size : Nat) := ⟨by omega, by show (i : Int) < (a.length : Nat); omega⟩
  rw [dif_pos hs] at hr
  have hg : (ByteArray.mk a.toArray)[(i : Int).toNat]'(by show _ < a.length; omega) = a.getD i 0 := by
    show a.toArray[(i : Int).toNat]'_ = _
    simp [List.getD, h]
  rw [hg] at hr
  simp [execOp, ha.ev hx, ha.ev hy, hr]
theorem T.sidx {x y : Operand} {d : Tmp} {a : List UInt8} {i : Nat} {kd : IntKind} {t : TypeId} [HU c.P t .string] (hx : ev e x = some (sV a)) (hy : ev e y = some (.int kd (i : Int))) (h : i < a.length) (hlt : Nat.blt d c.fn.ntmps = true) (hk : Sr q c ds H ops l κ ((d, .int .u8 ((a.getD i 0).toNat : Int)) :: e)) :
    Sr q c ds H ops (⟨some d, .index t x y, ty, pos, aft, none⟩ :: l) κ e := Sr.p (Pu.sidx hx hy h) rfl hlt rfl hk
end
end Sg
