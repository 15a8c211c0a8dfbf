/- Texts put together by a program: JsnA Rune JsnB JsnC JsnD JsnK. -/
import Derived.Test.YtjajcmedipjfhaaGreatDoorFacts
import Derived.Test.YtjajcmedipjfhaaGreatDoorMc
import Derived.Test.YtjajcmedipjfhaaGreatDoorMb
import Derived.Shelf.Utf8.AppendRunePlain
import Derived.Shelf.Unicode.DecodeAny
import Derived.Test.YtjajcmedipjfhaaGreatDoorProg
/- The walks of the program's reader of JSON: bytes, blanks, digits, faults. -/
namespace Go.Proofs.YtjajcmedipjfhaaGreatDoor
open Sg Go.IntWalk
set_option maxRecDepth 100000
set_option maxHeartbeats 1000000
/-- A reader's cells: the text, what it has put down (three lists), its place, what it awaits, a name, a fault and its place. -/
abbrev jrV (t : List UInt8) (o n m : Value) (a s : Nat) (k : List UInt8) (c b : Int) : List Value := [sV t, .int .i64 a, .int .i64 s, o, n, m, sV k, .int .i64 c, .int .i64 b]
section
variable {F : World} {M : List Nat} {H : List Res} {p : Nat} {t : List UInt8} {o n m : Value} {a s : Nat} {k : List UInt8} {c b : Int}
theorem fail_spec {c' b' : Int} : Meets Tryz.prog 110 [.pointer (some ⟨p, 0, none⟩), .int .i64 c', .int .i64 b'] F M (.blk p (jrV t o n m a s k c b) 98 :: H) (fun e H' => e = .returned (.bool false) ∧ H' = .blk p (jrV t o n m a s k c' b') 98 :: H) := by
 refine Meets.enter Tryz.func110 rfl rfl ?_
 repeat' (first | (apply T.mv; apply rfl; apply rfl) | (apply T.asn; apply rfl; apply rfl) | (apply T.nilCheck; apply rfl; apply rfl) | (apply T.fieldAddrZ; apply rfl; apply rfl) | (apply T.store; apply rfl; apply rfl; infer_instance; (first | decide | (simp; omega) | simp); apply rfl) | with_reducible refine Sr.nil ?_ | with_reducible refine S.seq ?_ | with_reducible refine S.reg ?_ | (apply T.retW; apply rfl) | fail)
 exact ⟨_, PSub.refl _, rfl, rfl⟩
theorem odd_spec : Meets Tryz.prog 77 [.pointer (some ⟨p, 0, none⟩)] F M (.blk p (jrV t o n m a s k c b) 98 :: H) (fun e H' => e = .returned (.bool false) ∧ H' = .blk p (jrV t o n m a s k 31 a) 98 :: H) := by
 refine Meets.enter Tryz.func77 rfl rfl ?_
 repeat' (first | (apply T.mv; apply rfl; apply rfl) | (apply T.asn; apply rfl; apply rfl) | (apply T.nilCheck; apply rfl; apply rfl) | (apply T.fieldAddrZ; apply rfl; apply rfl) | (apply T.load; apply rfl; apply rfl; infer_instance; apply rfl; apply rfl) | with_reducible refine Sr.nil ?_ | with_reducible refine S.seq ?_ | with_reducible refine S.reg ?_ | fail)
 refine T.call rfl rfl fail_spec ?_
 rintro _ _ ⟨rfl, rfl⟩
 repeat' (first | (apply T.asn; apply rfl; apply rfl) | with_reducible refine Sr.nil ?_ | (apply T.retW; apply rfl) | (with_reducible apply T.ofRet) | fail)
 exact ⟨_, PSub.refl _, rfl, rfl⟩
theorem next_spec : Meets Tryz.prog 74 [.pointer (some ⟨p, 0, none⟩)] F M (.blk p (jrV t o n m a s k c b) 98 :: H) (fun e H' => e = .returned (.int .u8 (bAt t a : Nat)) ∧ H' = .blk p (jrV t o n m a s k c b) 98 :: H) := by
 refine Meets.enter Tryz.func74 rfl rfl ?_
 by_cases h : a < t.length
 ·repeat' (first | (apply T.slen; apply rfl; apply rfl) | (apply T.sidx; apply rfl; apply rfl; omega; apply rfl) | (apply T.mv; apply rfl; apply rfl) | (apply T.asn; apply rfl; apply rfl) | (apply T.nilCheck; apply rfl; apply rfl) | (apply T.fieldAddrZ; apply rfl; apply rfl) | (apply T.load; apply rfl; apply rfl; infer_instance; apply rfl; apply rfl) | (apply T.lss; (iterate 3 apply rfl)) | with_reducible refine Sr.nil ?_ | with_reducible refine S.seq ?_ | with_reducible refine S.reg ?_ | (apply S.quiet; apply rfl; kernel_rfl) | (apply S.condQ; apply rfl; all_goals (intro _; try (exfalso; first | omega | with_reducible contradiction))) | (apply T.retW; apply rfl) | fail)
  exact ⟨_, PSub.refl _, rfl, rfl⟩
 ·repeat' (first | (apply T.slen; apply rfl; apply rfl) | (apply T.mv; apply rfl; apply rfl) | (apply T.asn; apply rfl; apply rfl) | (apply T.nilCheck; apply rfl; apply rfl) | (apply T.fieldAddrZ; apply rfl; apply rfl) | (apply T.load; apply rfl; apply rfl; infer_instance; apply rfl; apply rfl) | (apply T.lss; (iterate 3 apply rfl)) | with_reducible refine Sr.nil ?_ | with_reducible refine S.seq ?_ | with_reducible refine S.reg ?_ | with_reducible refine S.skip ?_ | (apply S.quiet; apply rfl; kernel_rfl) | (apply S.condQ; apply rfl; all_goals (intro _; try (exfalso; first | omega | with_reducible contradiction))) | (apply T.retW; apply rfl) | fail)
  rw [bAt_big (by omega)]
  exact ⟨_, PSub.refl _, rfl, rfl⟩
theorem blanks_spec (ha : a ≤ t.length) (hl : t.length ≤ 1000000000) : Meets Tryz.prog 43 [.pointer (some ⟨p, 0, none⟩)] F M (.blk p (jrV t o n m a s k c b) 98 :: H) (fun e H' => e = .returned (.tuple ⟨[]⟩) ∧ H' = .blk p (jrV t o n m (skipB t a) s k c b) 98 :: H) := by
 refine Meets.enter Tryz.func43 rfl rfl ?_
 repeat' (first | with_reducible refine S.block ?_ | fail)
 refine S.loopE 1 [0] (fun R b' μ H' e => ∃ q : Nat, H' = .blk p (jrV t o n m q s k c b) 98 :: R ∧ e = b' ∧ (q ≤ t.length ∧ skipB t a = skipB t q) ∧ μ = t.length - q) rfl rfl ?_ _ _ ⟨a, rfl, rfl, ⟨ha, rfl⟩, rfl⟩ (by repeat' first | exact trivial | refine And.intro rfl ?_)
 rintro _ _ _ ⟨q, rfl, rfl, ⟨h1, h2⟩, rfl⟩ ih
 have hb : bAt t q = (t.getD q 0).toNat := rfl
 by_cases h3 : q < t.length
 ·repeat' (first | (apply T.slen; apply rfl; apply rfl) | (apply T.sidx; apply rfl; apply rfl; omega; apply rfl) | (apply T.mv; apply rfl; apply rfl) | (apply T.nilCheck; apply rfl; apply rfl) | (apply T.fieldAddrZ; apply rfl; apply rfl) | (apply T.load; apply rfl; apply rfl; infer_instance; apply rfl; apply rfl) | (apply T.lss; (iterate 3 apply rfl)) | (apply T.eql; (iterate 3 apply rfl)) | (apply T.addI; apply rfl; apply rfl; omega; apply rfl) | (apply T.pickT; (iterate 3 apply rfl)) | (apply T.pickF; (iterate 3 apply rfl)) | (apply T.store; apply rfl; apply rfl; infer_instance; (first | decide | (simp; omega) | simp); apply rfl) | with_reducible refine Sr.nil ?_ | with_reducible refine S.seq ?_ | with_reducible refine S.block ?_ | with_reducible refine S.reg ?_ | with_reducible refine S.skip ?_ | with_reducible refine S.inBlock ?_ | (apply S.exit; apply rfl) | (apply S.quiet; apply rfl; kernel_rfl) | (apply T.ungV; apply rfl; (first | with_reducible rfl | decide)) | (apply T.skip; apply rfl; (first | with_reducible rfl | decide); apply rfl) | (apply S.condTV; apply rfl; (first | with_reducible rfl | decide)) | (apply S.condQ; apply rfl; all_goals (intro _; try (exfalso; first | omega | with_reducible contradiction))) | (apply T.gcase; apply rfl; apply rfl; all_goals (intro _; try (exfalso; first | omega | with_reducible contradiction))) | (apply T.doneW; apply rfl) | fail)
  rotate_left 4
  ·rw [h2, skip_no (t := t) (p := q) (by omega)]; exact ⟨_, PSub.refl _, rfl, rfl⟩
  all_goals (have h5 := skip_yes (t := t) (p := q) (by omega); exact ih _ _ _ _ ⟨q + 1, rfl, rfl, ⟨by omega, h2.trans h5⟩, rfl⟩ (by omega) (by repeat' first | exact trivial | refine And.intro rfl ?_))
 ·have h4 := bAt_big (t := t) (p := q) (by omega)
  repeat' (first | (apply T.slen; apply rfl; apply rfl) | (apply T.mv; apply rfl; apply rfl) | (apply T.nilCheck; apply rfl; apply rfl) | (apply T.fieldAddrZ; apply rfl; apply rfl) | (apply T.load; apply rfl; apply rfl; infer_instance; apply rfl; apply rfl) | (apply T.lss; (iterate 3 apply rfl)) | (apply T.pickF; (iterate 3 apply rfl)) | with_reducible refine Sr.nil ?_ | with_reducible refine S.seq ?_ | (apply S.exit; apply rfl) | (apply S.quiet; apply rfl; kernel_rfl) | (apply T.skip; apply rfl; (first | with_reducible rfl | decide); apply rfl) | (apply T.skipU; apply rfl; apply rfl) | (apply S.condFV; apply rfl; (first | with_reducible rfl | decide)) | (apply T.gcase; apply rfl; apply rfl; all_goals (intro _; try (exfalso; first | omega | with_reducible contradiction))) | (apply T.doneW; apply rfl) | fail)
  rw [h2, skip_no (t := t) (p := q) (by omega)]
  exact ⟨_, PSub.refl _, rfl, rfl⟩
/-- What the reader answers: it has read on, or it has met a fault. -/
def JrB (p : Nat) (t : List UInt8) (o n m : Value) (s : Nat) (k : List UInt8) (c b : Int) (H : List Res) : Gt Unit → Ending → List Res → Prop
 | .ok a' _ => fun e H' => e = .returned (.bool true) ∧ H' = .blk p (jrV t o n m a' s k c b) 98 :: H
 | .bad c' b' => fun e H' => ∃ a', e = .returned (.bool false) ∧ H' = .blk p (jrV t o n m a' s k c' b') 98 :: H
theorem digits_spec (ha : a ≤ t.length) (hl : t.length ≤ 1000000000) : Meets Tryz.prog 135 [.pointer (some ⟨p, 0, none⟩)] F M (.blk p (jrV t o n m a s k c b) 98 :: H) (JrB p t o n m s k c b H (digsX t a)) := by
 refine Meets.enter Tryz.func135 rfl rfl ?_
 have hu := bAt_lt t a
 repeat' (first | (apply T.mv; apply rfl; apply rfl) | (apply T.asn; apply rfl; apply rfl) | with_reducible refine Sr.nil ?_ | with_reducible refine S.seq ?_ | with_reducible refine S.reg ?_ | fail)
 refine T.call rfl rfl next_spec ?_
 rintro _ _ ⟨rfl, rfl⟩
 by_cases h : 48 ≤ bAt t a ∧ bAt t a ≤ 57
 ·rw [digsX_ok h]
  obtain ⟨h1, h2⟩ := h
  repeat' (first | (apply T.mv; apply rfl; apply rfl) | (apply T.asn; apply rfl; apply rfl) | (apply T.lss; (iterate 3 apply rfl)) | (apply T.gtr; (iterate 3 apply rfl)) | (apply T.pickF; (iterate 3 apply rfl)) | with_reducible refine Sr.nil ?_ | with_reducible refine S.seq ?_ | with_reducible refine S.reg ?_ | with_reducible refine S.skip ?_ | (apply T.ungV; apply rfl; (first | with_reducible rfl | decide)) | (apply S.condQ; apply rfl; all_goals (intro _; try (exfalso; first | omega | with_reducible contradiction))) | (apply T.gcase; apply rfl; apply rfl; all_goals (intro _; try (exfalso; first | omega | with_reducible contradiction))) | (with_reducible apply T.ofRet) | fail)
  refine T.call rfl rfl next_spec ?_
  rintro _ _ ⟨rfl, rfl⟩
  repeat' (first | (apply T.asn; apply rfl; apply rfl) | with_reducible refine Sr.nil ?_ | with_reducible refine S.block ?_ | (with_reducible apply T.ofRet) | fail)
  refine S.loopE 1 [0] (fun R b' μ H' e => ∃ q : Nat, H' = .blk p (jrV t o n m q s k c b) 98 :: R ∧ e = (4, .int .u8 (bAt t q : Nat)) :: b' ∧ (q ≤ t.length ∧ digsE t a = digsE t q) ∧ μ = t.length - q) rfl rfl ?_ _ _ ⟨a, rfl, rfl, ⟨ha, rfl⟩, rfl⟩ (by repeat' first | exact trivial | refine And.intro rfl ?_)
  rintro _ _ _ ⟨q, rfl, rfl, ⟨h3, h4⟩, rfl⟩ ih
  by_cases h5 : 48 ≤ bAt t q ∧ bAt t q ≤ 57
  ·have h6 := bAt_lt_of (t := t) (p := q) (by omega)
   rw [digsE_yes h5] at h4
   obtain ⟨h5, h7⟩ := h5
   repeat' (first | (apply T.mv; apply rfl; apply rfl) | (apply T.nilCheck; apply rfl; apply rfl) | (apply T.fieldAddrZ; apply rfl; apply rfl) | (apply T.load; apply rfl; apply rfl; infer_instance; apply rfl; apply rfl) | (apply T.leq; (iterate 3 apply rfl)) | (apply T.geq; (iterate 3 apply rfl)) | (apply T.addI; apply rfl; apply rfl; omega; apply rfl) | (apply T.pickT; (iterate 3 apply rfl)) | (apply T.store; apply rfl; apply rfl; infer_instance; (first | decide | (simp; omega) | simp); apply rfl) | with_reducible refine Sr.nil ?_ | with_reducible refine S.seq ?_ | with_reducible refine S.block ?_ | with_reducible refine S.reg ?_ | with_reducible refine S.skip ?_ | with_reducible refine S.inBlock ?_ | (apply T.ungV; apply rfl; (first | with_reducible rfl | decide)) | (apply S.condQ; apply rfl; all_goals (intro _; try (exfalso; first | omega | with_reducible contradiction))) | (apply T.gcase; apply rfl; apply rfl; all_goals (intro _; try (exfalso; first | omega | with_reducible contradiction))) | fail)
   refine T.call rfl rfl next_spec ?_
   rintro _ _ ⟨rfl, rfl⟩
   repeat' (first | (apply T.asn; apply rfl; apply rfl) | with_reducible refine Sr.nil ?_ | (with_reducible apply T.ofRet) | fail)
   exact ih _ _ _ _ ⟨q + 1, rfl, rfl, ⟨by omega, h4⟩, rfl⟩ (by omega) (by repeat' first | exact trivial | refine And.intro rfl ?_)
  ·rw [digsE_no h5] at h4
   rw [h4]
   repeat' (first | (apply T.mv; apply rfl; apply rfl) | (apply T.asn; apply rfl; apply rfl) | (apply T.leq; (iterate 3 apply rfl)) | (apply T.geq; (iterate 3 apply rfl)) | (apply T.pickT; (iterate 3 apply rfl)) | (apply T.pickF; (iterate 3 apply rfl)) | with_reducible refine Sr.nil ?_ | with_reducible refine S.seq ?_ | with_reducible refine S.reg ?_ | (apply S.exit; apply rfl) | (apply T.ungV; apply rfl; (first | with_reducible rfl | decide)) | (apply T.skip; apply rfl; (first | with_reducible rfl | decide); apply rfl) | (apply S.condFV; apply rfl; (first | with_reducible rfl | decide)) | (apply S.condQ; apply rfl; all_goals (intro _; try (exfalso; first | omega | with_reducible contradiction))) | (apply T.gcase; apply rfl; apply rfl; all_goals (intro _; try (exfalso; first | omega | with_reducible contradiction))) | (apply T.retW; apply rfl) | fail)
   all_goals exact ⟨_, PSub.refl _, rfl, rfl⟩
 ·rw [digsX_bad h]
  repeat' (first | (apply T.mv; apply rfl; apply rfl) | (apply T.asn; apply rfl; apply rfl) | (apply T.lss; (iterate 3 apply rfl)) | (apply T.gtr; (iterate 3 apply rfl)) | (apply T.pickT; (iterate 3 apply rfl)) | (apply T.pickF; (iterate 3 apply rfl)) | with_reducible refine Sr.nil ?_ | with_reducible refine S.seq ?_ | with_reducible refine S.reg ?_ | (apply T.ungV; apply rfl; (first | with_reducible rfl | decide)) | (apply T.skip; apply rfl; (first | with_reducible rfl | decide); apply rfl) | (apply S.condTV; apply rfl; (first | with_reducible rfl | decide)) | (apply S.condQ; apply rfl; all_goals (intro _; try (exfalso; first | omega | with_reducible contradiction))) | (apply T.gcase; apply rfl; apply rfl; all_goals (intro _; try (exfalso; first | omega | with_reducible contradiction))) | (with_reducible apply T.ofRet) | fail)
  all_goals
   refine T.call rfl rfl odd_spec ?_
   rintro _ _ ⟨rfl, rfl⟩
   repeat' (first | (apply T.asn; apply rfl; apply rfl) | with_reducible refine Sr.nil ?_ | (apply T.retW; apply rfl) | (with_reducible apply T.ofRet) | fail)
   exact ⟨_, PSub.refl _, a, rfl, rfl⟩
end
end Go.Proofs.YtjajcmedipjfhaaGreatDoor
/- Rules of runes (32 bits with a sign) and of single bytes; worlds that have grown alone. -/
namespace Sg
open Go Go.RowKit
section
variable {q : Mode} {c : Ctx} {dr : Bool} {ds : List Deferred} {H : List Res} {e : Env} {ops : Array Oper} {l : List Oper} {κ : List Res → Env → Prop} {ty : TypeId} {pos : String} {aft : Array Edge}
theorem T.raddR {x y : Operand} {d : Tmp} {t u : TypeId} {m n : Int} (hx : ev e x = some (.int .i32 m)) (hy : ev e y = some (.int .i32 n)) (h : -2147483648 ≤ m + n ∧ m + n ≤ 2147483647) (hlt : Nat.blt d c.fn.ntmps = true) (hk : Sr q c ds H ops l κ ((d, .int .i32 (m + n)) :: e)) :
  Sr q c ds H ops (⟨some d, .binOp .add t x y u, ty, pos, aft, none⟩ :: l) κ e := Sr.p (Pu.add hx hy (IntWalk.i32_in _ h)) rfl hlt rfl hk
theorem T.rsubR {x y : Operand} {d : Tmp} {t u : TypeId} {m n : Int} (hx : ev e x = some (.int .i32 m)) (hy : ev e y = some (.int .i32 n)) (h : -2147483648 ≤ m - n ∧ m - n ≤ 2147483647) (hlt : Nat.blt d c.fn.ntmps = true) (hk : Sr q c ds H ops l κ ((d, .int .i32 (m - n)) :: e)) :
  Sr q c ds H ops (⟨some d, .binOp .sub t x y u, ty, pos, aft, none⟩ :: l) κ e := Sr.p (Pu.sub hx hy (IntWalk.i32_in _ h)) rfl hlt rfl hk
theorem or_i32 {m n : Nat} (hm : m < 2147483648) (hn : n < 2147483648) : IntKind.i32.wrap ((BitVec.ofInt IntKind.i32.bits (m : Int) ||| BitVec.ofInt IntKind.i32.bits (n : Int)).toNat : Int) = ((m ||| n : Nat) : Int) := by
 have h1 : (BitVec.ofInt 32 (m : Int)).toNat = m := ofInt_toNat (Nat.lt_of_lt_of_le hm (by decide))
 have h2 : (BitVec.ofInt 32 (n : Int)).toNat = n := ofInt_toNat (Nat.lt_of_lt_of_le hn (by decide))
 have h3 : m ||| n < 2 ^ 31 := Nat.or_lt_two_pow (by omega) (by omega)
 show IntKind.i32.wrap ((BitVec.ofInt 32 (m : Int) ||| BitVec.ofInt 32 (n : Int)).toNat : Int) = _
 rw [BitVec.toNat_or, h1, h2]
 exact IntWalk.i32_in _ (by omega)
theorem shl_i32 {m n : Nat} (hm : m * 2 ^ n < 2147483648) (hn : n ≤ 32) : IntKind.i32.wrap ((m : Int) * 2 ^ (min (n : Int).toNat IntKind.i32.bits)) = ((m * 2 ^ n : Nat) : Int) := by
 have h1 : min (n : Int).toNat IntKind.i32.bits = n := by show min (n : Int).toNat 32 = n; omega
 rw [h1, show ((m : Int) * 2 ^ n) = ((m * 2 ^ n : Nat) : Int) by push_cast; rfl]
 exact IntWalk.i32_in _ (by omega)
theorem shr_i32 {m n : Nat} (hn : n ≤ 32) : (m : Int).fdiv (2 ^ (min (n : Int).toNat IntKind.i32.bits)) = ((m / 2 ^ n : Nat) : Int) := by
 have h1 : min (n : Int).toNat IntKind.i32.bits = n := by show min (n : Int).toNat 32 = n; omega
 rw [h1, Int.fdiv_eq_ediv_of_nonneg _ (by have := Int.pow_pos (n := (2 : Int)) (m := n) (by decide); omega)]
 push_cast
 rfl
theorem T.ror {x y : Operand} {d : Tmp} {t u : TypeId} {m n : Nat} (hx : ev e x = some (.int .i32 (m : Int))) (hy : ev e y = some (.int .i32 (n : Int))) (hm : m < 2147483648) (hn : n < 2147483648) (hlt : Nat.blt d c.fn.ntmps = true) (hk : Sr q c ds H ops l κ ((d, .int .i32 ((m ||| n : Nat) : Int)) :: e)) :
  Sr q c ds H ops (⟨some d, .binOp .or t x y u, ty, pos, aft, none⟩ :: l) κ e := Sr.p (Pu.or hx hy (or_i32 hm hn)) rfl hlt rfl hk
theorem T.rshl {x y : Operand} {d : Tmp} {t u : TypeId} {m : Nat} (n : Nat) {kd' : IntKind} (hx : ev e x = some (.int .i32 (m : Int))) (hy : ev e y = some (.int kd' (n : Int))) (hm : m * 2 ^ n < 2147483648 ∧ n ≤ 32) (hlt : Nat.blt d c.fn.ntmps = true) (hk : Sr q c ds H ops l κ ((d, .int .i32 ((m * 2 ^ n : Nat) : Int)) :: e)) :
  Sr q c ds H ops (⟨some d, .binOp .shl t x y u, ty, pos, aft, none⟩ :: l) κ e := Sr.p (Pu.shl hx hy (Int.natCast_nonneg n) (shl_i32 hm.1 hm.2)) rfl hlt rfl hk
theorem shlZ_i32 {m : Int} {n : Nat} (hm : -2147483648 ≤ m * 2 ^ n ∧ m * 2 ^ n ≤ 2147483647 ∧ n ≤ 32) : IntKind.i32.wrap (m * 2 ^ (min (n : Int).toNat IntKind.i32.bits)) = m * 2 ^ n := by
 have h1 : min (n : Int).toNat IntKind.i32.bits = n := by show min (n : Int).toNat 32 = n; omega
 rw [h1]
 exact IntWalk.i32_in _ ⟨hm.1, hm.2.1⟩
theorem T.rshlZ {x y : Operand} {d : Tmp} {t u : TypeId} {m : Int} (n : Nat) {kd' : IntKind} (hx : ev e x = some (.int .i32 m)) (hy : ev e y = some (.int kd' (n : Int))) (hm : -2147483648 ≤ m * 2 ^ n ∧ m * 2 ^ n ≤ 2147483647 ∧ n ≤ 32) (hlt : Nat.blt d c.fn.ntmps = true) (hk : Sr q c ds H ops l κ ((d, .int .i32 (m * 2 ^ n)) :: e)) :
  Sr q c ds H ops (⟨some d, .binOp .shl t x y u, ty, pos, aft, none⟩ :: l) κ e := Sr.p (Pu.shl hx hy (Int.natCast_nonneg n) (shlZ_i32 hm)) rfl hlt rfl hk
theorem T.rshr {x y : Operand} {d : Tmp} {t u : TypeId} {m : Nat} (n : Nat) {kd' : IntKind} (hx : ev e x = some (.int .i32 (m : Int))) (hy : ev e y = some (.int kd' (n : Int))) (hn : n ≤ 32) (hlt : Nat.blt d c.fn.ntmps = true) (hk : Sr q c ds H ops l κ ((d, .int .i32 ((m / 2 ^ n : Nat) : Int)) :: e)) :
  Sr q c ds H ops (⟨some d, .binOp .shr t x y u, ty, pos, aft, none⟩ :: l) κ e := Sr.p (Pu.shr hx hy (Int.natCast_nonneg n) (shr_i32 hn)) rfl hlt rfl hk
/-- A rune's lowest byte. -/
theorem T.convRB {x : Operand} {d : Tmp} {s t : TypeId} {m : Nat} {dd : TypeDesc} [HU c.P s dd] [HU c.P t (.int .u8)] (hx : ev e x = some (.int .i32 (m : Int))) (hlt : Nat.blt d c.fn.ntmps = true) (hk : Sr q c ds H ops l κ ((d, .int .u8 ((UInt8.ofNat m).toNat : Int)) :: e)) :
  Sr q c ds H ops (⟨some d, .convert s t x, ty, pos, aft, none⟩ :: l) κ e := Sr.p (Pu.conv (d := dd) hx (by rw [wrap_u8, UInt8.toNat_ofNat']; omega)) rfl hlt rfl hk
theorem T.band {x y : Operand} {d : Tmp} {t u : TypeId} {a : UInt8} (b : UInt8) (hx : ev e x = some (.int .u8 (a.toNat : Int))) (hy : ev e y = some (.int .u8 (b.toNat : Int))) (hlt : Nat.blt d c.fn.ntmps = true) (hk : Sr q c ds H ops l κ ((d, .int .u8 ((a &&& b).toNat : Int)) :: e)) :
  Sr q c ds H ops (⟨some d, .binOp .and t x y u, ty, pos, aft, none⟩ :: l) κ e := Sr.p (Pu.and hx hy (by rw [and_u8 a.toNat_lt b.toNat_lt, UInt8.toNat_and])) rfl hlt rfl hk
theorem T.bor {x y : Operand} {d : Tmp} {t u : TypeId} (a : UInt8) {b : UInt8} (hx : ev e x = some (.int .u8 (a.toNat : Int))) (hy : ev e y = some (.int .u8 (b.toNat : Int))) (hlt : Nat.blt d c.fn.ntmps = true) (hk : Sr q c ds H ops l κ ((d, .int .u8 ((a ||| b).toNat : Int)) :: e)) :
  Sr q c ds H ops (⟨some d, .binOp .or t x y u, ty, pos, aft, none⟩ :: l) κ e := Sr.p (Pu.or hx hy (by rw [or_u8 a.toNat_lt b.toNat_lt, UInt8.toNat_or])) rfl hlt rfl hk
/-- Words of 64 bits: a quotient, the opposite, and back to a number with a sign. -/
theorem T.quoU64 {x y : Operand} {d : Tmp} {t u : TypeId} {m : Nat} (n : Nat) (hx : ev e x = some (.int .u64 (m : Int))) (hy : ev e y = some (.int .u64 (n : Int))) (h0 : 0 < n ∧ m < 18446744073709551616) (hlt : Nat.blt d c.fn.ntmps = true) (hk : Sr q c ds H ops l κ ((d, .int .u64 ((m / n : Nat) : Int)) :: e)) :
  Sr q c ds H ops (⟨some d, .binOp .quo t x y u, ty, pos, aft, none⟩ :: l) κ e := Sr.p (Pu.quo hx hy (by omega) (by
   have := Nat.div_le_self m n
   rw [← Int.ofNat_tdiv]
   generalize m / n = k at *
   exact IntWalk.u64_in _ (by omega))) rfl hlt rfl hk
theorem T.negU64 {x : Operand} {d : Tmp} {t : TypeId} {m : Nat} (hx : ev e x = some (.int .u64 (m : Int))) (hlt : Nat.blt d c.fn.ntmps = true) (hk : Sr q c ds H ops l κ ((d, .int .u64 ((0 - (m : Int)) % 18446744073709551616)) :: e)) :
  Sr q c ds H ops (⟨some d, .unOp .neg t x, ty, pos, aft, none⟩ :: l) κ e := Sr.p (Pu.neg hx (wrap_u64 _)) rfl hlt rfl hk
theorem T.convNeg {x : Operand} {d : Tmp} {s t : TypeId} {m : Nat} {dd : TypeDesc} [HU c.P s dd] [HU c.P t (.int .i64)] (hx : ev e x = some (.int .u64 ((0 - (m : Int)) % 18446744073709551616))) (hm : m ≤ 9223372036854775808) (hlt : Nat.blt d c.fn.ntmps = true) (hk : Sr q c ds H ops l κ ((d, .int .i64 (-(m : Int))) :: e)) :
  Sr q c ds H ops (⟨some d, .convert s t x, ty, pos, aft, none⟩ :: l) κ e := Sr.p (Pu.conv (d := dd) hx (by rw [IntKind.wrap_i64]; omega)) rfl hlt rfl hk
/-- A text's end, a text's beginning. -/
theorem T.ssliceL {d : Tmp} {x lo : Operand} {kd : IntKind} {i : Nat} {t : TypeId} {bs : List UInt8} [HU c.P t .string] (hx : ev e x = some (sV bs)) (hl : ev e lo = some (.int kd (i : Int))) (h0 : i ≤ bs.length) (hlt : Nat.blt d c.fn.ntmps = true)
  (hk : Sr q c ds H ops l κ ((d, sV (bs.drop i)) :: e)) : Sr q c ds H ops (⟨some d, .slice t x (some lo) none none, ty, pos, aft, none⟩ :: l) κ e :=
 Sr.p (fun w a _ ha => by
  have hr := run_slice_string_l (P := c.P) (w := w) (t := t) (s := ByteArray.mk bs.toArray) (HU.h (P := c.P) (t := t)) kd (i : Int) (by omega) (by show (i : Int) ≤ (bs.length : Nat); omega)
  have hex : (ByteArray.mk bs.toArray).extract (i : Int).toNat (ByteArray.mk bs.toArray).size = ByteArray.mk (bs.drop i).toArray := by
   rw [Int.toNat_natCast]
   apply ByteArray.ext
   rw [ByteArray.data_extract]
   apply Array.ext'
   have : (ByteArray.mk bs.toArray).size = bs.length := rfl
   simp [List.extract, this]
   exact List.take_of_length_le (by rw [List.length_drop]; omega)
  rw [hex] at hr
  simp [execOp, ha.ev hx, ha.ev hl, Instr.sliceAt, run_under (d := .string), hr]) rfl hlt rfl hk
theorem T.ssliceH {d : Tmp} {x hi : Operand} {kd : IntKind} {j : Nat} {t : TypeId} {bs : List UInt8} [HU c.P t .string] (hx : ev e x = some (sV bs)) (hh : ev e hi = some (.int kd (j : Int))) (h0 : j ≤ bs.length) (hlt : Nat.blt d c.fn.ntmps = true)
  (hk : Sr q c ds H ops l κ ((d, sV (bs.take j)) :: e)) : Sr q c ds H ops (⟨some d, .slice t x none (some hi) none, ty, pos, aft, none⟩ :: l) κ e :=
 Sr.p (fun w a _ ha => by
  have hr := run_slice_string_h (P := c.P) (w := w) (t := t) (s := ByteArray.mk bs.toArray) (HU.h (P := c.P) (t := t)) kd (j : Int) (by omega) (by show (j : Int) ≤ (bs.length : Nat); omega)
  have hex : (ByteArray.mk bs.toArray).extract 0 (j : Int).toNat = ByteArray.mk (bs.take j).toArray := by
   rw [Int.toNat_natCast]
   apply ByteArray.ext
   rw [ByteArray.data_extract]
   apply Array.ext'
   simp [List.extract]
  rw [hex] at hr
  simp [execOp, ha.ev hx, ha.ev hh, Instr.sliceAt, run_under (d := .string), hr]) rfl hlt rfl hk
/-- A cell, or a record, of a table that can be read, by its address in a block. -/
theorem T.loadG {x : Operand} {d b i : Nat} {t : TypeId} {dd : TypeDesc} [HU c.P t dd] {vs : List Value} {v : Value} (hx : ev e x = some (.pointer (some ⟨b, i, none⟩))) (hd : plain dd = true) (hr : Rd c.F c.M H (some ⟨b, 0, none⟩) vs) (hi : vs[i]? = some v) (hlt : Nat.blt d c.fn.ntmps = true)
  (hk : Sr q c ds H ops l κ ((d, v) :: e)) : Sr q c ds H ops (⟨some d, .load t x, ty, pos, aft, none⟩ :: l) κ e :=
 Sr.p (Pu.loadE (ad := some ⟨b, 0, none⟩) (j := i) (d := dd) (by rw [hx]; simp [eaddr, addr_add]) hd hi) rfl hlt rfl hk
theorem T.loadGN {x : Operand} {d b i : Nat} {t : TypeId} {dd : TypeDesc} [HU c.P t dd] {z : Value} {n by_ : Nat} [HI c.P t z n by_] {vs us : List Value} (hx : ev e x = some (.pointer (some ⟨b, i, none⟩))) (hd : plain dd = false) (hr : Rd c.F c.M H (some ⟨b, 0, none⟩) vs) (hn : i + n ≤ vs.length) (h0 : 0 < n) (hu : (vs.drop i).take n = us) (hlt : Nat.blt d c.fn.ntmps = true)
  (hk : Sr q c ds H ops l κ ((d, .agg ⟨us⟩) :: e)) : Sr q c ds H ops (⟨some d, .load t x, ty, pos, aft, none⟩ :: l) κ e := by
 have := Pu.loadEN (c := c) (H := H) (e := e) (x := x) (dst := some d) (ty := ty) (pos := pos) (aft := aft) (g := none) (t := t) (dd := dd) (z := z) (by_ := by_) (n := n) (vs := vs) (ad := some ⟨b, 0, none⟩) (j := i) hd (by rw [hx]; simp [eaddr, addr_add]) hr h0 hn
 rw [hu] at this
 exact Sr.p this rfl hlt rfl hk
/-- An array of arrays (or records): one of them. -/
theorem T.aidx {x y : Operand} {d : Tmp} {t E : TypeId} {n i sz : Nat} {kd : IntKind} {z : Value} {by_ : Nat} {dd : TypeDesc} [HU c.P t (.array n E)] [HU c.P E dd] [HI c.P E z sz by_] {vs us : List Value} (hx : ev e x = some (.agg ⟨vs⟩)) (hy : ev e y = some (.int kd (Int.ofNat i))) (hd : plain dd = false) (hi : i < n) (hv : (vs.drop (i * sz)).take sz = us) (hlt : Nat.blt d c.fn.ntmps = true)
  (hk : Sr q c ds H ops l κ ((d, .agg ⟨us⟩) :: e)) : Sr q c ds H ops (⟨some d, .index t x y, ty, pos, aft, none⟩ :: l) κ e :=
 Sr.p (fun w a _ ha => by
  have hy' : ev e y = some (.int kd (i : Int)) := hy
  simp [execOp, ha.ev hx, ha.ev hy', Instr.index, asIntOf, run_under (d := .array n E), run_size (z := z) (sz := sz) (b := by_), part, run_isAgg (d := dd), hd, hi]
  exact hv) rfl hlt rfl hk
end
theorem and63 (n : Nat) : UInt8.ofNat n &&& 63 = UInt8.ofNat (n % 64) := by
 apply UInt8.toNat_inj.1
 rw [UInt8.toNat_and, UInt8.toNat_ofNat', UInt8.toNat_ofNat', show (63 : UInt8).toNat = 2 ^ 6 - 1 from rfl, Nat.and_two_pow_sub_one_eq_mod]
 omega
theorem or_mark : ∀ k : Fin 64, (128 : UInt8) ||| UInt8.ofNat k.val = UInt8.ofNat (128 + k.val) := by decide
theorem or_two : ∀ k : Fin 32, (192 : UInt8) ||| UInt8.ofNat k.val = UInt8.ofNat (192 + k.val) := by decide
theorem or_three : ∀ k : Fin 16, (224 : UInt8) ||| UInt8.ofNat k.val = UInt8.ofNat (224 + k.val) := by decide
theorem or_four : ∀ k : Fin 8, (240 : UInt8) ||| UInt8.ofNat k.val = UInt8.ofNat (240 + k.val) := by decide
theorem mark_of (n : Nat) : (128 : UInt8) ||| (UInt8.ofNat n &&& 63) = UInt8.ofNat (128 + n % 64) := by
 rw [and63]
 exact or_mark ⟨n % 64, Nat.mod_lt _ (by decide)⟩
theorem utfL_two {u : Nat} (h1 : 128 ≤ u) (h2 : u < 2048) : [(192 : UInt8) ||| UInt8.ofNat (u / 2 ^ 6), 128 ||| (UInt8.ofNat u &&& 63)] = utfL u := by
 unfold utfL
 rw [if_neg (by omega), if_pos h2, mark_of, or_two ⟨u / 2 ^ 6, by omega⟩]
theorem utfL_three {u : Nat} (h1 : 2048 ≤ u) (h2 : u < 65536) : [(224 : UInt8) ||| UInt8.ofNat (u / 2 ^ 12), 128 ||| (UInt8.ofNat (u / 2 ^ 6) &&& 63), 128 ||| (UInt8.ofNat u &&& 63)] = utfL u := by
 unfold utfL
 rw [if_neg (by omega), if_neg (by omega), if_pos h2, mark_of, mark_of, or_three ⟨u / 2 ^ 12, by omega⟩]
theorem utfL_four {u : Nat} (h1 : 65536 ≤ u) (h2 : u < 1114112) : [(240 : UInt8) ||| UInt8.ofNat (u / 2 ^ 18), 128 ||| (UInt8.ofNat (u / 2 ^ 12) &&& 63), 128 ||| (UInt8.ofNat (u / 2 ^ 6) &&& 63), 128 ||| (UInt8.ofNat u &&& 63)] = utfL u := by
 unfold utfL
 rw [if_neg (by omega), if_neg (by omega), if_neg (by omega), mark_of, mark_of, mark_of, or_four ⟨u / 2 ^ 18, by omega⟩]
theorem utfL_one {u : Nat} (h : u < 128) : [UInt8.ofNat u] = utfL u := by
 unfold utfL
 rw [if_pos h]
/-- A world that has grown above, and is else as it was. -/
theorem St.below {F : World} {M : List Nat} {w w' : World} {H : List Res} (h : St F M w H) (hb : Below w.heap.size w w') : St F M w' H := by
 have hlt : ∀ q ∈ H, ∀ b ∈ q.foot, b < w.heap.size := fun q hq => Res.foot_lt (h.res q hq)
 exact ⟨hb.os.trans h.os, hb.tape.trans h.tape, hb.output.trans h.output, Nat.le_trans h.size hb.size, fun j hj hm => by rw [hb.block j (Nat.lt_of_lt_of_le hj h.size), h.keep j hj hm], h.own, h.nd, fun r hr => Res.holds_of_heap (h.res r hr) fun b hb' => hb.block b (hlt r hr b hb')⟩
end Sg
/- The walks of the program's reader of JSON: escapes, sequences, runes appended. -/
namespace Go.Proofs.YtjajcmedipjfhaaGreatDoor
open Sg Go.IntWalk
set_option maxRecDepth 100000
set_option maxHeartbeats 2000000
theorem appendNon_spec {F : World} {M : List Nat} {H : List Res} {ad : Option Addr} {n cp u : Nat} {xs : List UInt8} (hn : n ≤ 1000000000) (h1 : 128 ≤ u) (h2 : u < 1114112) (h3 : u < 55296 ∨ 57343 < u) :
  Meets Tryz.prog 161 [.slice ad n cp, .int .i32 u] F M (.row ad cp 5 1 n (xs.map bV) :: H) (fun e H' => ∃ ad' cp' m, e = .returned (.slice ad' m cp') ∧ H' = .row ad' cp' 5 1 m ((xs ++ utfL u).map bV) :: H ∧ m = n + (utfL u).length) := by
 refine Meets.enter Tryz.func161 rfl rfl ?_
 by_cases c2 : u < 2048
 ·rw [← utfL_two h1 c2]
  repeat' (first | ((with_reducible apply T.rshr 6); apply rfl; apply rfl; omega; apply rfl) | (apply T.convRB; apply rfl; apply rfl) | ((with_reducible apply T.band 63); (iterate 3 apply rfl)) | ((with_reducible apply T.bor 192); (iterate 3 apply rfl)) | ((with_reducible apply T.bor 128); (iterate 3 apply rfl)) | (apply T.append2; apply rfl; apply rfl; infer_instance; apply rfl; (constructor <;> omega); apply rfl; intro na nc) | (apply T.mv; apply rfl; apply rfl) | (apply T.asn; apply rfl; apply rfl) | (apply T.leq; (iterate 3 apply rfl)) | (apply T.convU32; apply rfl; omega; apply rfl) | (apply T.bs; (iterate 6 apply rfl); intro nb) | with_reducible refine Sr.nil ?_ | with_reducible refine S.seq ?_ | with_reducible refine S.block ?_ | with_reducible refine S.reg ?_ | (apply S.condQ; apply rfl; all_goals (intro _; try (exfalso; first | omega | with_reducible contradiction))) | (apply T.retW; apply rfl) | fail)
  exact ⟨_, PSub.refl _, na, nc, _, rfl, rfl, rfl⟩
 by_cases c3 : u < 65536
 ·rw [← utfL_three (by omega) c3]
  repeat' (first | ((with_reducible apply T.rshr 6); apply rfl; apply rfl; omega; apply rfl) | ((with_reducible apply T.rshr 12); apply rfl; apply rfl; omega; apply rfl) | (apply T.convRB; apply rfl; apply rfl) | ((with_reducible apply T.band 63); (iterate 3 apply rfl)) | ((with_reducible apply T.bor 224); (iterate 3 apply rfl)) | ((with_reducible apply T.bor 128); (iterate 3 apply rfl)) | (apply T.append3; apply rfl; apply rfl; infer_instance; apply rfl; (constructor <;> omega); apply rfl; intro na nc) | (apply T.mv; apply rfl; apply rfl) | (apply T.asn; apply rfl; apply rfl) | (apply T.lss; (iterate 3 apply rfl)) | (apply T.leq; (iterate 3 apply rfl)) | (apply T.pickT; (iterate 3 apply rfl)) | (apply T.convU32; apply rfl; omega; apply rfl) | (apply T.bs; (iterate 6 apply rfl); intro nb) | with_reducible refine Sr.nil ?_ | with_reducible refine S.seq ?_ | with_reducible refine S.block ?_ | with_reducible refine S.reg ?_ | with_reducible refine S.skip ?_ | (apply T.ungV; apply rfl; (first | with_reducible rfl | decide)) | (apply S.condQ; apply rfl; all_goals (intro _; try (exfalso; first | omega | with_reducible contradiction))) | (apply T.gcase; apply rfl; apply rfl; all_goals (intro _; try (exfalso; first | omega | with_reducible contradiction))) | (apply T.retW; apply rfl) | fail)
  all_goals exact ⟨_, PSub.refl _, na, nc, _, rfl, rfl, rfl⟩
 ·rw [← utfL_four (by omega) h2]
  repeat' (first | ((with_reducible apply T.rshr 6); apply rfl; apply rfl; omega; apply rfl) | ((with_reducible apply T.rshr 12); apply rfl; apply rfl; omega; apply rfl) | ((with_reducible apply T.rshr 18); apply rfl; apply rfl; omega; apply rfl) | (apply T.convRB; apply rfl; apply rfl) | ((with_reducible apply T.band 63); (iterate 3 apply rfl)) | ((with_reducible apply T.bor 240); (iterate 3 apply rfl)) | ((with_reducible apply T.bor 128); (iterate 3 apply rfl)) | (apply T.append4; apply rfl; apply rfl; infer_instance; apply rfl; (constructor <;> omega); apply rfl; intro na nc) | (apply T.mv; apply rfl; apply rfl) | (apply T.asn; apply rfl; apply rfl) | (apply T.lss; (iterate 3 apply rfl)) | (apply T.leq; (iterate 3 apply rfl)) | (apply T.gtr; (iterate 3 apply rfl)) | (apply T.pickT; (iterate 3 apply rfl)) | (apply T.convU32; apply rfl; omega; apply rfl) | (apply T.bs; (iterate 6 apply rfl); intro nb) | with_reducible refine Sr.nil ?_ | with_reducible refine S.seq ?_ | with_reducible refine S.block ?_ | with_reducible refine S.reg ?_ | (apply T.ungV; apply rfl; (first | with_reducible rfl | decide)) | (apply S.condQ; apply rfl; all_goals (intro _; try (exfalso; first | omega | with_reducible contradiction))) | (apply T.gcase; apply rfl; apply rfl; all_goals (intro _; try (exfalso; first | omega | with_reducible contradiction))) | (apply T.retW; apply rfl) | fail)
  all_goals exact ⟨_, PSub.refl _, na, nc, _, rfl, rfl, rfl⟩
theorem appendRune_spec {F : World} {M : List Nat} {H : List Res} {ad : Option Addr} {n cp u : Nat} {xs : List UInt8} (hn : n ≤ 1000000000) (h2 : u < 1114112) (h3 : u < 55296 ∨ 57343 < u) :
  Meets Tryz.prog 133 [.slice ad n cp, .int .i32 u] F M (.row ad cp 5 1 n (xs.map bV) :: H) (fun e H' => ∃ ad' cp' m, e = .returned (.slice ad' m cp') ∧ H' = .row ad' cp' 5 1 m ((xs ++ utfL u).map bV) :: H ∧ m = n + (utfL u).length) := by
 refine Meets.enter Tryz.func133 rfl rfl ?_
 by_cases c1 : u < 128
 ·rw [← utfL_one c1]
  repeat' (first | (apply T.convRB; apply rfl; apply rfl) | (apply T.mv; apply rfl; apply rfl) | (apply T.asn; apply rfl; apply rfl) | (apply T.leq; (iterate 3 apply rfl)) | (apply T.convU32; apply rfl; omega; apply rfl) | (apply T.bs; (iterate 6 apply rfl); intro nb) | (apply T.appendB; apply rfl; apply rfl; infer_instance; apply rfl; (constructor <;> omega); apply rfl; intro na nc) | with_reducible refine Sr.nil ?_ | with_reducible refine S.seq ?_ | with_reducible refine S.reg ?_ | (apply S.condQ; apply rfl; all_goals (intro _; try (exfalso; first | omega | with_reducible contradiction))) | (apply T.retW; apply rfl) | fail)
  exact ⟨_, PSub.refl _, na, nc, _, rfl, rfl, rfl⟩
 ·repeat' (first | (apply T.mv; apply rfl; apply rfl) | (apply T.asn; apply rfl; apply rfl) | (apply T.leq; (iterate 3 apply rfl)) | (apply T.convU32; apply rfl; omega; apply rfl) | with_reducible refine Sr.nil ?_ | with_reducible refine S.seq ?_ | with_reducible refine S.reg ?_ | with_reducible refine S.skip ?_ | (apply S.condQ; apply rfl; all_goals (intro _; try (exfalso; first | omega | with_reducible contradiction))) | fail)
  refine T.call rfl rfl (appendNon_spec hn (by omega) h2 h3) ?_
  rintro _ _ ⟨a1, c1, m, rfl, rfl, rfl⟩
  repeat' (first | (apply T.asn; apply rfl; apply rfl) | with_reducible refine Sr.nil ?_ | (apply T.retW; apply rfl) | (with_reducible apply T.ofRet) | fail)
  exact ⟨_, PSub.refl _, a1, c1, _, rfl, rfl, rfl⟩
/-- What a hexadecimal digit says. -/
def hexV (c : UInt8) : Value := match hexN c with
 | some d => .tuple ⟨[.int .i32 (d : Nat), .bool true]⟩
 | none => .tuple ⟨[.int .i32 0, .bool false]⟩
theorem hexN_eq (c : UInt8) : hexN c = if 48 ≤ c.toNat ∧ c.toNat ≤ 57 then some (c.toNat - 48) else if 97 ≤ c.toNat ∧ c.toNat ≤ 102 then some (c.toNat - 87) else if 65 ≤ c.toNat ∧ c.toNat ≤ 70 then some (c.toNat - 55) else none := rfl
theorem hexN_lt {c : UInt8} {d : Nat} (h : hexN c = some d) : d < 16 := by
 rw [hexN_eq] at h
 repeat' split at h
 all_goals first | (simp only [Option.some.injEq] at h; omega) | cases h
theorem digit_spec {F : World} {M : List Nat} {H : List Res} {c : UInt8} : Meets Tryz.prog 184 [.int .u8 (c.toNat : Nat)] F M H (fun e H' => e = .returned (hexV c) ∧ H' = H) := by
 have hc := c.toNat_lt
 refine Meets.enter Tryz.func184 rfl rfl ?_
 by_cases h1 : 48 ≤ c.toNat ∧ c.toNat ≤ 57
 ·have e1 : hexV c = .tuple ⟨[.int .i32 ((c.toNat - 48 : Nat) : Int), .bool true]⟩ := by rw [hexV, hexN_eq, if_pos h1]
  rw [e1]
  obtain ⟨h1, h2⟩ := h1
  repeat' (first | ((with_reducible apply T.subU8N (n := 48)); apply rfl; apply rfl; omega; apply rfl) | (apply T.convI32; apply rfl; omega; apply rfl) | (apply T.mv; apply rfl; apply rfl) | (apply T.asn; apply rfl; apply rfl) | (apply T.leq; (iterate 3 apply rfl)) | (apply T.geq; (iterate 3 apply rfl)) | (apply T.pickT; (iterate 3 apply rfl)) | with_reducible refine Sr.nil ?_ | with_reducible refine S.seq ?_ | with_reducible refine S.block ?_ | with_reducible refine S.reg ?_ | (apply T.ungV; apply rfl; (first | with_reducible rfl | decide)) | (apply S.condQ; apply rfl; all_goals (intro _; try (exfalso; first | omega | with_reducible contradiction))) | (apply T.gcase; apply rfl; apply rfl; all_goals (intro _; try (exfalso; first | omega | with_reducible contradiction))) | (apply T.retW; apply rfl) | fail)
  exact ⟨_, PSub.refl _, rfl, rfl⟩
 by_cases h3 : 97 ≤ c.toNat ∧ c.toNat ≤ 102
 ·have e1 : hexV c = .tuple ⟨[.int .i32 ((c.toNat - 97 : Nat) + 10 : Int), .bool true]⟩ := by rw [hexV, hexN_eq, if_neg h1, if_pos h3]; simp only; rw [show ((c.toNat - 87 : Nat) : Int) = ((c.toNat - 97 : Nat) + 10 : Int) by omega]
  rw [e1]
  obtain ⟨h3, h2⟩ := h3
  repeat' (first | ((with_reducible apply T.subU8N (n := 97)); apply rfl; apply rfl; omega; apply rfl) | (apply T.convI32; apply rfl; omega; apply rfl) | (apply T.raddR; apply rfl; apply rfl; omega; apply rfl) | (apply T.mv; apply rfl; apply rfl) | (apply T.asn; apply rfl; apply rfl) | (apply T.leq; (iterate 3 apply rfl)) | (apply T.geq; (iterate 3 apply rfl)) | (apply T.pickT; (iterate 3 apply rfl)) | with_reducible refine Sr.nil ?_ | with_reducible refine S.seq ?_ | with_reducible refine S.block ?_ | with_reducible refine S.reg ?_ | (apply T.ungV; apply rfl; (first | with_reducible rfl | decide)) | (apply S.condQ; apply rfl; all_goals (intro _; try (exfalso; first | omega | with_reducible contradiction))) | (apply T.gcase; apply rfl; apply rfl; all_goals (intro _; try (exfalso; first | omega | with_reducible contradiction))) | (apply T.retW; apply rfl) | fail)
  all_goals exact ⟨_, PSub.refl _, rfl, rfl⟩
 by_cases h4 : 65 ≤ c.toNat ∧ c.toNat ≤ 70
 ·have e1 : hexV c = .tuple ⟨[.int .i32 ((c.toNat - 65 : Nat) + 10 : Int), .bool true]⟩ := by rw [hexV, hexN_eq, if_neg h1, if_neg h3, if_pos h4]; simp only; rw [show ((c.toNat - 55 : Nat) : Int) = ((c.toNat - 65 : Nat) + 10 : Int) by omega]
  rw [e1]
  obtain ⟨h4, h2⟩ := h4
  repeat' (first | ((with_reducible apply T.subU8N (n := 65)); apply rfl; apply rfl; omega; apply rfl) | (apply T.convI32; apply rfl; omega; apply rfl) | (apply T.raddR; apply rfl; apply rfl; omega; apply rfl) | (apply T.mv; apply rfl; apply rfl) | (apply T.asn; apply rfl; apply rfl) | (apply T.leq; (iterate 3 apply rfl)) | (apply T.geq; (iterate 3 apply rfl)) | (apply T.pickT; (iterate 3 apply rfl)) | (apply T.pickF; (iterate 3 apply rfl)) | with_reducible refine Sr.nil ?_ | with_reducible refine S.seq ?_ | with_reducible refine S.block ?_ | with_reducible refine S.reg ?_ | (apply T.ungV; apply rfl; (first | with_reducible rfl | decide)) | (apply T.skip; apply rfl; (first | with_reducible rfl | decide); apply rfl) | (apply S.condFV; apply rfl; (first | with_reducible rfl | decide)) | (apply S.condQ; apply rfl; all_goals (intro _; try (exfalso; first | omega | with_reducible contradiction))) | (apply T.gcase; apply rfl; apply rfl; all_goals (intro _; try (exfalso; first | omega | with_reducible contradiction))) | (apply T.retW; apply rfl) | fail)
  all_goals exact ⟨_, PSub.refl _, rfl, rfl⟩
 ·have e1 : hexV c = .tuple ⟨[.int .i32 0, .bool false]⟩ := by rw [hexV, hexN_eq, if_neg h1, if_neg h3, if_neg h4]
  rw [e1]
  repeat' (first | (apply T.mv; apply rfl; apply rfl) | (apply T.asn; apply rfl; apply rfl) | (apply T.leq; (iterate 3 apply rfl)) | (apply T.geq; (iterate 3 apply rfl)) | (apply T.pickT; (iterate 3 apply rfl)) | (apply T.pickF; (iterate 3 apply rfl)) | with_reducible refine Sr.nil ?_ | with_reducible refine S.seq ?_ | with_reducible refine S.block ?_ | with_reducible refine S.reg ?_ | with_reducible refine S.skip ?_ | with_reducible refine S.inBlock ?_ | (apply T.ungV; apply rfl; (first | with_reducible rfl | decide)) | (apply T.skip; apply rfl; (first | with_reducible rfl | decide); apply rfl) | (apply S.condFV; apply rfl; (first | with_reducible rfl | decide)) | (apply S.condQ; apply rfl; all_goals (intro _; try (exfalso; first | omega | with_reducible contradiction))) | (apply T.gcase; apply rfl; apply rfl; all_goals (intro _; try (exfalso; first | omega | with_reducible contradiction))) | (apply T.retW; apply rfl) | fail)
  all_goals exact ⟨_, PSub.refl _, rfl, rfl⟩
section
variable {F : World} {M : List Nat} {H : List Res} {p : Nat} {t : List UInt8} {o n m : Value} {a s : Nat} {k : List UInt8} {c b : Int}
/-- A rune has been read, or there is a fault. -/
def JrR (p : Nat) (t : List UInt8) (o n m : Value) (s : Nat) (k : List UInt8) (c b : Int) (B : Int) (H : List Res) : Gt Nat → Ending → List Res → Prop
 | .ok a' u => fun e H' => e = .returned (.tuple ⟨[.int .i32 (u : Nat), .bool true]⟩) ∧ H' = .blk p (jrV t o n m a' s k c b) 98 :: H
 | .bad c' b' => fun e H' => ∃ (a' : Nat) (z : Int), (-B ≤ z ∧ z ≤ B) ∧ e = .returned (.tuple ⟨[.int .i32 z, .bool false]⟩) ∧ H' = .blk p (jrV t o n m a' s k c' b') 98 :: H
theorem badT {i u d : Nat} : badHex true i u d = true ↔ (i = 0 ∧ d ≠ 13 ∨ i = 1 ∧ d < 12) := by
 unfold badHex
 simp
theorem badF {i u d : Nat} : badHex false i u d = true ↔ (i = 1 ∧ u = 13 ∧ 12 ≤ d) := by
 unfold badHex
 simp [and_assoc]
theorem or_nib {u d : Nat} (h : d < 16) : u * 2 ^ 4 ||| d = 16 * u + d := by
 have := Nat.two_pow_add_eq_or_of_lt (i := 4) (b := d) h u
 rw [Nat.mul_comm (2 ^ 4) u] at this
 omega
theorem fourX_succ {t : List UInt8} {low : Bool} {fr k p u : Nat} : fourX t low fr (k + 1) p u = match t[p]? with
  | none => .bad 31 p
  | some c => match hexN c with
   | none => .bad 33 fr
   | some d => if badHex low (3 - k) u d then .bad 33 fr else fourX t low fr k (p + 1) (16 * u + d) := rfl
theorem unit_spec {fr : Nat} {low : Bool} (ha : a ≤ t.length) (hl : t.length ≤ 1000000000) : Meets Tryz.prog 176 [.pointer (some ⟨p, 0, none⟩), .int .i64 fr, .bool low] F M (.blk p (jrV t o n m a s k c b) 98 :: H) (JrR p t o n m s k c b 0 H (fourX t low fr 4 a 0)) := by
 refine Meets.enter Tryz.func176 rfl rfl ?_
 repeat' (first | (apply T.mv; apply rfl; apply rfl) | (apply T.asn; apply rfl; apply rfl) | with_reducible refine Sr.nil ?_ | with_reducible refine S.seq ?_ | with_reducible refine S.block ?_ | with_reducible refine S.reg ?_ | fail)
 refine S.loopE 1 [0, 1, 2] (fun R b' μ H' e => ∃ q i u : Nat, H' = .blk p (jrV t o n m q s k c b) 98 :: R ∧ e = (8, .int .i32 (u : Nat)) :: (12, .int .i64 i) :: b' ∧ (q ≤ t.length ∧ i ≤ 4 ∧ u < 16 ^ i ∧ fourX t low fr 4 a 0 = fourX t low fr (4 - i) q u) ∧ μ = 4 - i) rfl rfl ?_ _ _ ⟨a, 0, 0, rfl, rfl, ⟨ha, by omega, by decide, rfl⟩, rfl⟩ (by repeat' first | exact trivial | refine And.intro rfl ?_)
 rintro _ _ _ ⟨q, i, u, rfl, rfl, ⟨h1, h2, h3, h4⟩, rfl⟩ ih
 by_cases h5 : i < 4
 ·have h6 : u < 4096 := Nat.lt_of_lt_of_le h3 (Nat.le_trans (Nat.pow_le_pow_right (by decide) (show i ≤ 3 by omega)) (by decide))
  obtain ⟨j, hj⟩ : ∃ j, 4 - i = j + 1 := ⟨3 - i, by omega⟩
  have hi : 3 - j = i := by omega
  rw [hj, fourX_succ (p := q), hi] at h4
  rcases Nat.lt_or_ge q t.length with h7 | h7
  ·have hq : t[q]? = some (t.getD q 0) := by simp [List.getD, h7]
   rw [hq] at h4
   have d1 : ∀ {X : List Res}, Meets Tryz.prog 184 [.int .u8 ((t.getD q 0).toNat : Int)] F M X (fun e H' => e = .returned (hexV (t.getD q 0)) ∧ H' = X) := digit_spec
   cases hx : hexN (t.getD q 0) with
   | none =>
    have e2 : hexV (t.getD q 0) = .tuple ⟨[.int .i32 0, .bool false]⟩ := by rw [hexV, hx]
    rw [e2] at d1
    simp only [hx] at h4
    repeat' (first | (apply T.slen; apply rfl; apply rfl) | (apply T.mv; apply rfl; apply rfl) | (apply T.asn; apply rfl; apply rfl) | (apply T.nilCheck; apply rfl; apply rfl) | (apply T.fieldAddrZ; apply rfl; apply rfl) | (apply T.load; apply rfl; apply rfl; infer_instance; apply rfl; apply rfl) | (apply T.lss; (iterate 3 apply rfl)) | (apply T.eql; (iterate 3 apply rfl)) | with_reducible refine Sr.nil ?_ | with_reducible refine S.seq ?_ | with_reducible refine S.block ?_ | with_reducible refine S.reg ?_ | with_reducible refine S.skip ?_ | (apply S.quiet; apply rfl; kernel_rfl) | (apply S.condQ; apply rfl; all_goals (intro _; try (exfalso; first | omega | with_reducible contradiction))) | fail)
    (apply S.draw; (case Hs => exact .blk p (jrV t o n m q s k c b) 98 :: H); (case es => exact  [9]); (case n => exact  15); (case hn => rfl))
    repeat' (first | (apply T.call; apply rfl; apply rfl; with_reducible exact d1; rintro _ _ ⟨rfl, rfl⟩) | (apply T.sidx; apply rfl; apply rfl; omega; apply rfl) | (apply T.mv; apply rfl; apply rfl) | (apply T.asn; apply rfl; apply rfl) | (apply T.nilCheck; apply rfl; apply rfl) | (apply T.fieldAddrZ; apply rfl; apply rfl) | (apply T.load; apply rfl; apply rfl; infer_instance; apply rfl; apply rfl) | (apply T.extract; (iterate 3 apply rfl)) | (apply T.notB; apply rfl; apply rfl) | with_reducible refine Sr.nil ?_ | with_reducible refine S.seq ?_ | with_reducible refine S.block ?_ | with_reducible refine S.reg ?_ | with_reducible refine S.skip ?_ | (apply S.condTV; apply rfl; (first | with_reducible rfl | decide)) | (with_reducible apply T.ofRet) | (apply SA.qn; (iterate 4 apply rfl); kernel_rfl) | (apply SA.en; apply rfl; apply rfl; kernel_rfl) | (apply SA.done; apply rfl; kernel_rfl) | (apply SK.intro; (first | exact fun _ h => h | exact fun _ h => St.psub h (by ((repeat (first | dsimp only [List.set_cons_zero] | dsimp only [List.set_cons_succ])); repeat' first | exact PSub.refl _ | exact PSub.nil | (apply PSub.take; (repeat' first | (with_reducible exact pick_hd) | (with_reducible apply pick_tl))) | (with_reducible apply PSub.drop) | ((apply PSub.take); (repeat' first | exact pick_hd | (apply pick_tl))))))) | fail)
    rw [h4]
    refine T.call rfl rfl fail_spec ?_
    rintro _ _ ⟨rfl, rfl⟩
    repeat' (first | (apply T.asn; apply rfl; apply rfl) | with_reducible refine Sr.nil ?_ | (apply T.retW; apply rfl) | (with_reducible apply T.ofRet) | fail)
    exact ⟨_, PSub.refl _, q, 0, by omega, rfl, rfl⟩
   | some d =>
    have e2 : hexV (t.getD q 0) = .tuple ⟨[.int .i32 (d : Nat), .bool true]⟩ := by rw [hexV, hx]
    rw [e2] at d1
    simp only [hx] at h4
    have hd := hexN_lt hx
    cases low with
    | false =>
     repeat' (first | (apply T.slen; apply rfl; apply rfl) | (apply T.mv; apply rfl; apply rfl) | (apply T.asn; apply rfl; apply rfl) | (apply T.nilCheck; apply rfl; apply rfl) | (apply T.fieldAddrZ; apply rfl; apply rfl) | (apply T.load; apply rfl; apply rfl; infer_instance; apply rfl; apply rfl) | (apply T.lss; (iterate 3 apply rfl)) | (apply T.eql; (iterate 3 apply rfl)) | with_reducible refine Sr.nil ?_ | with_reducible refine S.seq ?_ | with_reducible refine S.block ?_ | with_reducible refine S.reg ?_ | with_reducible refine S.skip ?_ | (apply S.quiet; apply rfl; kernel_rfl) | (apply S.condQ; apply rfl; all_goals (intro _; try (exfalso; first | omega | with_reducible contradiction))) | fail)
     (apply S.draw; (case Hs => exact .blk p (jrV t o n m q s k c b) 98 :: H); (case es => exact  [9]); (case n => exact  15); (case hn => rfl))
     repeat' (first | (apply T.call; apply rfl; apply rfl; with_reducible exact d1; rintro _ _ ⟨rfl, rfl⟩) | (apply T.call; apply rfl; apply rfl; with_reducible exact fail_spec; rintro _ _ ⟨rfl, rfl⟩) | ((with_reducible apply T.rshl 4); apply rfl; apply rfl; omega; apply rfl) | (apply T.ror; apply rfl; apply rfl; omega; omega; apply rfl) | (apply T.sidx; apply rfl; apply rfl; omega; apply rfl) | (apply T.mv; apply rfl; apply rfl) | (apply T.asn; apply rfl; apply rfl) | (apply T.nilCheck; apply rfl; apply rfl) | (apply T.fieldAddrZ; apply rfl; apply rfl) | (apply T.load; apply rfl; apply rfl; infer_instance; apply rfl; apply rfl) | (apply T.geq; (iterate 3 apply rfl)) | (apply T.eql; (iterate 3 apply rfl)) | (apply T.addI; apply rfl; apply rfl; omega; apply rfl) | (apply T.extract; (iterate 3 apply rfl)) | (apply T.notB; apply rfl; apply rfl) | (apply T.pickT; (iterate 3 apply rfl)) | (apply T.pickF; (iterate 3 apply rfl)) | (apply T.store; apply rfl; apply rfl; infer_instance; (first | decide | (simp; omega) | simp); apply rfl) | with_reducible refine Sr.nil ?_ | with_reducible refine S.seq ?_ | with_reducible refine S.block ?_ | with_reducible refine S.reg ?_ | with_reducible refine S.skip ?_ | with_reducible refine S.inBlock ?_ | (apply T.ungV; apply rfl; (first | with_reducible rfl | decide)) | (apply T.skip; apply rfl; (first | with_reducible rfl | decide); apply rfl) | (apply S.condFV; apply rfl; (first | with_reducible rfl | decide)) | (apply S.condQ; apply rfl; all_goals (intro _; try (exfalso; first | omega | with_reducible contradiction))) | (apply T.gcase; apply rfl; apply rfl; all_goals (intro _; try (exfalso; first | omega | with_reducible contradiction))) | (apply T.retW; apply rfl) | (with_reducible apply T.ofRet) | (apply SA.qn; (iterate 4 apply rfl); kernel_rfl) | (apply SA.en; apply rfl; apply rfl; kernel_rfl) | (apply SA.done; apply rfl; kernel_rfl) | (apply SK.intro; (first | exact fun _ h => h | exact fun _ h => St.psub h (by ((repeat (first | dsimp only [List.set_cons_zero] | dsimp only [List.set_cons_succ])); repeat' first | exact PSub.refl _ | exact PSub.nil | (apply PSub.take; (repeat' first | (with_reducible exact pick_hd) | (with_reducible apply pick_tl))) | (with_reducible apply PSub.drop) | ((apply PSub.take); (repeat' first | exact pick_hd | (apply pick_tl))))))) | fail)
     all_goals first
      | (rw [h4, if_pos (badF.2 (by omega))]; exact ⟨_, PSub.refl _, q, 0, by omega, rfl, rfl⟩)
      | (rw [if_neg (fun h => (show ¬ _ by omega) (badF.1 h))] at h4; rw [or_nib hd]; exact ih _ _ _ _ ⟨q + 1, i + 1, 16 * u + d, rfl, rfl, ⟨by omega, by omega, by rw [Nat.pow_succ]; omega, by rw [h4, show 4 - (i + 1) = j by omega]⟩, rfl⟩ (by omega) (by repeat' first | exact trivial | refine And.intro rfl ?_))
    | true =>
     repeat' (first | (apply T.slen; apply rfl; apply rfl) | (apply T.mv; apply rfl; apply rfl) | (apply T.asn; apply rfl; apply rfl) | (apply T.nilCheck; apply rfl; apply rfl) | (apply T.fieldAddrZ; apply rfl; apply rfl) | (apply T.load; apply rfl; apply rfl; infer_instance; apply rfl; apply rfl) | (apply T.lss; (iterate 3 apply rfl)) | (apply T.eql; (iterate 3 apply rfl)) | with_reducible refine Sr.nil ?_ | with_reducible refine S.seq ?_ | with_reducible refine S.block ?_ | with_reducible refine S.reg ?_ | with_reducible refine S.skip ?_ | (apply S.quiet; apply rfl; kernel_rfl) | (apply S.condQ; apply rfl; all_goals (intro _; try (exfalso; first | omega | with_reducible contradiction))) | fail)
     (apply S.draw; (case Hs => exact .blk p (jrV t o n m q s k c b) 98 :: H); (case es => exact  [9]); (case n => exact  15); (case hn => rfl))
     repeat' (first | (apply T.call; apply rfl; apply rfl; with_reducible exact d1; rintro _ _ ⟨rfl, rfl⟩) | (apply T.call; apply rfl; apply rfl; with_reducible exact fail_spec; rintro _ _ ⟨rfl, rfl⟩) | ((with_reducible apply T.rshl 4); apply rfl; apply rfl; omega; apply rfl) | (apply T.ror; apply rfl; apply rfl; omega; omega; apply rfl) | (apply T.sidx; apply rfl; apply rfl; omega; apply rfl) | (apply T.mv; apply rfl; apply rfl) | (apply T.asn; apply rfl; apply rfl) | (apply T.nilCheck; apply rfl; apply rfl) | (apply T.fieldAddrZ; apply rfl; apply rfl) | (apply T.load; apply rfl; apply rfl; infer_instance; apply rfl; apply rfl) | (apply T.lss; (iterate 3 apply rfl)) | (apply T.eql; (iterate 3 apply rfl)) | (apply T.neq; (iterate 3 apply rfl)) | (apply T.addI; apply rfl; apply rfl; omega; apply rfl) | (apply T.extract; (iterate 3 apply rfl)) | (apply T.notB; apply rfl; apply rfl) | (apply T.pickT; (iterate 3 apply rfl)) | (apply T.pickF; (iterate 3 apply rfl)) | (apply T.store; apply rfl; apply rfl; infer_instance; (first | decide | (simp; omega) | simp); apply rfl) | with_reducible refine Sr.nil ?_ | with_reducible refine S.seq ?_ | with_reducible refine S.block ?_ | with_reducible refine S.reg ?_ | with_reducible refine S.skip ?_ | with_reducible refine S.inBlock ?_ | (apply T.ungV; apply rfl; (first | with_reducible rfl | decide)) | (apply T.skip; apply rfl; (first | with_reducible rfl | decide); apply rfl) | (apply S.condFV; apply rfl; (first | with_reducible rfl | decide)) | (apply S.condQ; apply rfl; all_goals (intro _; try (exfalso; first | omega | with_reducible contradiction))) | (apply T.gcase; apply rfl; apply rfl; all_goals (intro _; try (exfalso; first | omega | with_reducible contradiction))) | (apply T.retW; apply rfl) | (with_reducible apply T.ofRet) | (apply SA.qn; (iterate 4 apply rfl); kernel_rfl) | (apply SA.en; apply rfl; apply rfl; kernel_rfl) | (apply SA.done; apply rfl; kernel_rfl) | (apply SK.intro; (first | exact fun _ h => h | exact fun _ h => St.psub h (by ((repeat (first | dsimp only [List.set_cons_zero] | dsimp only [List.set_cons_succ])); repeat' first | exact PSub.refl _ | exact PSub.nil | (apply PSub.take; (repeat' first | (with_reducible exact pick_hd) | (with_reducible apply pick_tl))) | (with_reducible apply PSub.drop) | ((apply PSub.take); (repeat' first | exact pick_hd | (apply pick_tl))))))) | fail)
     all_goals first
      | (rw [h4, if_pos (badT.2 (by omega))]; exact ⟨_, PSub.refl _, q, 0, by omega, rfl, rfl⟩)
      | (rw [if_neg (fun h => (show ¬ _ by omega) (badT.1 h))] at h4; rw [or_nib hd]; exact ih _ _ _ _ ⟨q + 1, i + 1, 16 * u + d, rfl, rfl, ⟨by omega, by omega, by rw [Nat.pow_succ]; omega, by rw [h4, show 4 - (i + 1) = j by omega]⟩, rfl⟩ (by omega) (by repeat' first | exact trivial | refine And.intro rfl ?_))
  ·obtain rfl : q = t.length := by omega
   rw [List.getElem?_eq_none (Nat.le_refl _)] at h4
   repeat' (first | (apply T.slen; apply rfl; apply rfl) | (apply T.mv; apply rfl; apply rfl) | (apply T.asn; apply rfl; apply rfl) | (apply T.nilCheck; apply rfl; apply rfl) | (apply T.fieldAddrZ; apply rfl; apply rfl) | (apply T.load; apply rfl; apply rfl; infer_instance; apply rfl; apply rfl) | (apply T.lss; (iterate 3 apply rfl)) | (apply T.eql; (iterate 3 apply rfl)) | with_reducible refine Sr.nil ?_ | with_reducible refine S.seq ?_ | with_reducible refine S.block ?_ | with_reducible refine S.reg ?_ | with_reducible refine S.skip ?_ | (apply S.quiet; apply rfl; kernel_rfl) | (apply S.condQ; apply rfl; all_goals (intro _; try (exfalso; first | omega | with_reducible contradiction))) | fail)
   rw [h4]
   refine T.call rfl rfl odd_spec ?_
   rintro _ _ ⟨rfl, rfl⟩
   repeat' (first | (apply T.asn; apply rfl; apply rfl) | with_reducible refine Sr.nil ?_ | (apply T.retW; apply rfl) | (with_reducible apply T.ofRet) | fail)
   exact ⟨_, PSub.refl _, _, 0, by omega, rfl, rfl⟩
 ·obtain rfl : i = 4 := by omega
  rw [h4]
  repeat' (first | (apply T.mv; apply rfl; apply rfl) | (apply T.asn; apply rfl; apply rfl) | (apply T.lss; (iterate 3 apply rfl)) | with_reducible refine Sr.nil ?_ | with_reducible refine S.seq ?_ | with_reducible refine S.reg ?_ | (apply S.exit; apply rfl) | (apply S.condFV; apply rfl; (first | with_reducible rfl | decide)) | (apply T.retW; apply rfl) | fail)
  exact ⟨_, PSub.refl _, rfl, rfl⟩
end
end Go.Proofs.YtjajcmedipjfhaaGreatDoor
/- The walks of the program's reader of JSON: whole escapes. -/
namespace Go.Proofs.YtjajcmedipjfhaaGreatDoor
open Sg Go.IntWalk
set_option maxRecDepth 100000
set_option maxHeartbeats 2000000
section
variable {F : World} {M : List Nat} {H : List Res} {p : Nat} {t : List UInt8} {o n m : Value} {a s : Nat} {k : List UInt8} {c b : Int}
theorem point_spec {fr : Nat} (ha : a ≤ t.length) (hl : t.length ≤ 1000000000) : Meets Tryz.prog 160 [.pointer (some ⟨p, 0, none⟩), .int .i64 fr] F M (.blk p (jrV t o n m a s k c b) 98 :: H) (JrR p t o n m s k c b 100000000 H (pointX t fr a)) := by
 refine Meets.enter Tryz.func160 rfl rfl ?_
 repeat' (first | (apply T.mv; apply rfl; apply rfl) | (apply T.asn; apply rfl; apply rfl) | with_reducible refine Sr.nil ?_ | with_reducible refine S.seq ?_ | with_reducible refine S.reg ?_ | fail)
 refine T.call rfl rfl (unit_spec (fr := fr) (low := false) ha hl) ?_
 unfold pointX
 cases h1 : fourX t false fr 4 a 0 with
 | bad e1 q1 =>
  rintro _ _ ⟨a1, z, hz, rfl, rfl⟩
  repeat' (first | (apply T.mv; apply rfl; apply rfl) | (apply T.asn; apply rfl; apply rfl) | (apply T.extract; (iterate 3 apply rfl)) | (apply T.notB; apply rfl; apply rfl) | (apply T.pickT; (iterate 3 apply rfl)) | with_reducible refine Sr.nil ?_ | with_reducible refine S.seq ?_ | with_reducible refine S.reg ?_ | (apply T.skip; apply rfl; (first | with_reducible rfl | decide); apply rfl) | (apply S.condTV; apply rfl; (first | with_reducible rfl | decide)) | (apply T.retW; apply rfl) | (with_reducible apply T.ofRet) | fail)
  exact ⟨_, PSub.refl _, a1, z, by omega, rfl, rfl⟩
 | ok a1 hi =>
  rintro _ _ ⟨rfl, rfl⟩
  have hb := four_high h1
  have hf := fourX_fits (low := false) (fr := fr) (k := 4) (u := 0) ha a1 hi h1
  simp only [Gt.bind]
  by_cases h2 : hi < 55296 ∨ 57343 < hi
  ·rw [if_pos h2]
   repeat' (first | (apply T.mv; apply rfl; apply rfl) | (apply T.asn; apply rfl; apply rfl) | (apply T.lss; (iterate 3 apply rfl)) | (apply T.gtr; (iterate 3 apply rfl)) | (apply T.extract; (iterate 3 apply rfl)) | (apply T.notB; apply rfl; apply rfl) | (apply T.pickT; (iterate 3 apply rfl)) | (apply T.pickF; (iterate 3 apply rfl)) | with_reducible refine Sr.nil ?_ | with_reducible refine S.seq ?_ | with_reducible refine S.reg ?_ | (apply T.ungV; apply rfl; (first | with_reducible rfl | decide)) | (apply T.skip; apply rfl; (first | with_reducible rfl | decide); apply rfl) | (apply S.condTV; apply rfl; (first | with_reducible rfl | decide)) | (apply S.condQ; apply rfl; all_goals (intro _; try (exfalso; first | omega | with_reducible contradiction))) | (apply T.gcase; apply rfl; apply rfl; all_goals (intro _; try (exfalso; first | omega | with_reducible contradiction))) | (apply T.retW; apply rfl) | (with_reducible apply T.ofRet) | fail)
   all_goals exact ⟨_, PSub.refl _, rfl, rfl⟩
  ·rw [if_neg h2]
   have h3 : ¬ hi < 55296 := by omega
   have h4 : ¬ 57343 < hi := by omega
   repeat' (first | (apply T.convM; apply rfl; apply rfl) | (apply T.mv; apply rfl; apply rfl) | (apply T.asn; apply rfl; apply rfl) | (apply T.len; apply rfl; apply rfl) | (apply T.lss; (iterate 3 apply rfl)) | (apply T.gtr; (iterate 3 apply rfl)) | (apply T.extract; (iterate 3 apply rfl)) | (apply T.notB; apply rfl; apply rfl) | (apply T.pickF; (iterate 3 apply rfl)) | (apply T.bs; (iterate 6 apply rfl); intro nb) | with_reducible refine Sr.nil ?_ | with_reducible refine S.seq ?_ | with_reducible refine S.block ?_ | with_reducible refine S.reg ?_ | with_reducible refine S.skip ?_ | (apply T.ungV; apply rfl; (first | with_reducible rfl | decide)) | (apply S.condQ; apply rfl; all_goals (intro _; try (exfalso; first | omega | with_reducible contradiction))) | (apply T.gcase; apply rfl; apply rfl; all_goals (intro _; try (exfalso; first | omega | with_reducible contradiction))) | (with_reducible apply T.ofRet) | fail)
   refine S.unroll ?_
   by_cases h5 : a1 < t.length
   ·rw [signX_at h5]
    have hg : bAt t a1 = (t.getD a1 0).toNat := rfl
    by_cases h6 : bAt t a1 = (92 : UInt8).toNat
    ·rw [if_pos h6]
     have h6' : (t.getD a1 0).toNat = 92 := h6
     simp only
     repeat' (first | (apply T.loadE; apply rfl; apply rfl; infer_instance; apply rfl; apply rfl) | (apply T.ixK; apply rfl; apply rfl; infer_instance; decide; decide; apply rfl) | (apply T.slen; apply rfl; apply rfl) | (apply T.sidx; apply rfl; apply rfl; omega; apply rfl) | (apply T.mv; apply rfl; apply rfl) | (apply T.asn; apply rfl; apply rfl) | (apply T.nilCheck; apply rfl; apply rfl) | (apply T.fieldAddrZ; apply rfl; apply rfl) | (apply T.load; apply rfl; apply rfl; infer_instance; apply rfl; apply rfl) | (apply T.lss; (iterate 3 apply rfl)) | (apply T.eql; (iterate 3 apply rfl)) | (apply T.neq; (iterate 3 apply rfl)) | (apply T.addI; apply rfl; apply rfl; omega; apply rfl) | (apply T.store; apply rfl; apply rfl; infer_instance; (first | decide | (simp; omega) | simp); apply rfl) | with_reducible refine Sr.nil ?_ | with_reducible refine S.seq ?_ | with_reducible refine S.block ?_ | with_reducible refine S.reg ?_ | with_reducible refine S.skip ?_ | with_reducible refine S.inBlock ?_ | (apply S.quiet; apply rfl; kernel_rfl) | (apply S.condTV; apply rfl; (first | with_reducible rfl | decide)) | (apply S.condQ; apply rfl; all_goals (intro _; try (exfalso; first | omega | with_reducible contradiction))) | fail)
     refine S.again ?_
     by_cases h7 : a1 + 1 < t.length
     ·rw [signX_at h7]
      by_cases h8 : bAt t (a1 + 1) = (117 : UInt8).toNat
      ·rw [if_pos h8]
       have h8' : ((t.getD (a1 + 1) 0).toNat : Int) = 117 := congrArg Int.ofNat h8
       simp only
       repeat' (first | (apply T.loadE; apply rfl; apply rfl; infer_instance; apply rfl; apply rfl) | (apply T.ixK; apply rfl; apply rfl; infer_instance; decide; decide; apply rfl) | (refine T.sidx (i := a1 + 1) rfl rfl (by omega) rfl ?_) | (apply T.slen; apply rfl; apply rfl) | (apply T.mv; apply rfl; apply rfl) | (apply T.asn; apply rfl; apply rfl) | (apply T.nilCheck; apply rfl; apply rfl) | (apply T.fieldAddrZ; apply rfl; apply rfl) | (apply T.load; apply rfl; apply rfl; infer_instance; apply rfl; apply rfl) | (apply T.lss; (iterate 3 apply rfl)) | (apply T.eql; (iterate 3 apply rfl)) | (apply T.neq; (iterate 3 apply rfl)) | (apply T.addI; apply rfl; apply rfl; omega; apply rfl) | (apply T.store; apply rfl; apply rfl; infer_instance; (first | decide | (simp; omega) | simp); apply rfl) | with_reducible refine Sr.nil ?_ | with_reducible refine S.seq ?_ | with_reducible refine S.block ?_ | with_reducible refine S.reg ?_ | with_reducible refine S.skip ?_ | with_reducible refine S.inBlock ?_ | (apply S.quiet; apply rfl; kernel_rfl) | (apply S.condTV; apply rfl; (first | with_reducible rfl | decide)) | (apply S.condQ; apply rfl; all_goals (intro _; try (exfalso; first | omega | with_reducible contradiction))) | fail)
       refine S.again ?_
       repeat' (first | (apply T.mv; apply rfl; apply rfl) | (apply T.lss; (iterate 3 apply rfl)) | with_reducible refine Sr.nil ?_ | with_reducible refine S.seq ?_ | with_reducible refine S.reg ?_ | (apply S.exit; apply rfl) | (apply S.condFV; apply rfl; (first | with_reducible rfl | decide)) | fail)
       refine Sr.front p ?_
       refine T.call rfl rfl (unit_spec (a := a1 + 1 + 1) (fr := fr) (low := true) (by omega) hl) ?_
       cases h9 : fourX t true fr 4 (a1 + 1 + 1) 0 with
       | bad e1 q1 =>
        rintro _ _ ⟨a2, z, hz, rfl, rfl⟩
        repeat' (first | (apply T.raddR; apply rfl; apply rfl; omega; apply rfl) | (apply T.rsubR; apply rfl; apply rfl; omega; apply rfl) | ((with_reducible apply T.rshlZ 10); apply rfl; apply rfl; omega; apply rfl) | (apply T.mv; apply rfl; apply rfl) | (apply T.asn; apply rfl; apply rfl) | (apply T.extract; (iterate 3 apply rfl)) | with_reducible refine Sr.nil ?_ | with_reducible refine S.seq ?_ | with_reducible refine S.reg ?_ | (apply T.retW; apply rfl) | (with_reducible apply T.ofRet) | fail)
        exact ⟨_, by ((repeat (first | dsimp only [List.set_cons_zero] | dsimp only [List.set_cons_succ])); repeat' first | exact PSub.refl _ | exact PSub.nil | (apply PSub.take; (repeat' first | (with_reducible exact pick_hd) | (with_reducible apply pick_tl))) | (with_reducible apply PSub.drop) | ((apply PSub.take); (repeat' first | exact pick_hd | (apply pick_tl)))), a2, _, by omega, rfl, rfl⟩
       | ok a2 lo =>
        rintro _ _ ⟨rfl, rfl⟩
        have hb2 := four_low h9
        repeat' (first | (apply T.raddR; apply rfl; apply rfl; omega; apply rfl) | (apply T.rsubR; apply rfl; apply rfl; omega; apply rfl) | ((with_reducible apply T.rshlZ 10); apply rfl; apply rfl; omega; apply rfl) | (apply T.mv; apply rfl; apply rfl) | (apply T.asn; apply rfl; apply rfl) | (apply T.extract; (iterate 3 apply rfl)) | with_reducible refine Sr.nil ?_ | with_reducible refine S.seq ?_ | with_reducible refine S.reg ?_ | (apply T.retW; apply rfl) | (with_reducible apply T.ofRet) | fail)
        have e1 : (65536 + ((hi : Int) - 55296) * 2 ^ 10 + ((lo : Int) - 56320)) = ((65536 + 1024 * (hi - 55296) + lo - 56320 : Nat) : Int) := by omega
        rw [e1]
        exact ⟨_, by ((repeat (first | dsimp only [List.set_cons_zero] | dsimp only [List.set_cons_succ])); repeat' first | exact PSub.refl _ | exact PSub.nil | (apply PSub.take; (repeat' first | (with_reducible exact pick_hd) | (with_reducible apply pick_tl))) | (with_reducible apply PSub.drop) | ((apply PSub.take); (repeat' first | exact pick_hd | (apply pick_tl)))), rfl, rfl⟩
      ·rw [if_neg h8]
       have h8' : ¬ ((t.getD (a1 + 1) 0).toNat : Int) = 117 := fun h => h8 (Int.ofNat.inj h)
       repeat' (first | (apply T.loadE; apply rfl; apply rfl; infer_instance; apply rfl; apply rfl) | (apply T.ixK; apply rfl; apply rfl; infer_instance; decide; decide; apply rfl) | (refine T.sidx (i := a1 + 1) rfl rfl (by omega) rfl ?_) | (apply T.slen; apply rfl; apply rfl) | (apply T.mv; apply rfl; apply rfl) | (apply T.asn; apply rfl; apply rfl) | (apply T.nilCheck; apply rfl; apply rfl) | (apply T.fieldAddrZ; apply rfl; apply rfl) | (apply T.load; apply rfl; apply rfl; infer_instance; apply rfl; apply rfl) | (apply T.lss; (iterate 3 apply rfl)) | (apply T.eql; (iterate 3 apply rfl)) | (apply T.neq; (iterate 3 apply rfl)) | with_reducible refine Sr.nil ?_ | with_reducible refine S.seq ?_ | with_reducible refine S.block ?_ | with_reducible refine S.reg ?_ | with_reducible refine S.skip ?_ | (apply S.quiet; apply rfl; kernel_rfl) | (apply S.condTV; apply rfl; (first | with_reducible rfl | decide)) | (apply S.condQ; apply rfl; all_goals (intro _; try (exfalso; first | omega | with_reducible contradiction))) | fail)
       refine Sr.front p ?_
       refine T.call rfl rfl fail_spec ?_
       rintro _ _ ⟨rfl, rfl⟩
       repeat' (first | (apply T.asn; apply rfl; apply rfl) | with_reducible refine Sr.nil ?_ | (apply T.retW; apply rfl) | (with_reducible apply T.ofRet) | fail)
       exact ⟨_, by ((repeat (first | dsimp only [List.set_cons_zero] | dsimp only [List.set_cons_succ])); repeat' first | exact PSub.refl _ | exact PSub.nil | (apply PSub.take; (repeat' first | (with_reducible exact pick_hd) | (with_reducible apply pick_tl))) | (with_reducible apply PSub.drop) | ((apply PSub.take); (repeat' first | exact pick_hd | (apply pick_tl)))), a1 + 1, 0, by omega, rfl, rfl⟩
     ·rw [signX_end h7]
      have e9 : (t.length : Int) = (a1 : Int) + 1 := by omega
      repeat' (first | (apply T.ixK; apply rfl; apply rfl; infer_instance; decide; decide; apply rfl) | (apply T.loadE; apply rfl; apply rfl; infer_instance; apply rfl; apply rfl) | (apply T.slen; apply rfl; apply rfl) | (apply T.mv; apply rfl; apply rfl) | (apply T.asn; apply rfl; apply rfl) | (apply T.nilCheck; apply rfl; apply rfl) | (apply T.fieldAddrZ; apply rfl; apply rfl) | (apply T.load; apply rfl; apply rfl; infer_instance; apply rfl; apply rfl) | (apply T.lss; (iterate 3 apply rfl)) | (apply T.eql; (iterate 3 apply rfl)) | with_reducible refine Sr.nil ?_ | with_reducible refine S.seq ?_ | with_reducible refine S.block ?_ | with_reducible refine S.reg ?_ | with_reducible refine S.skip ?_ | (apply S.quiet; apply rfl; kernel_rfl) | (apply S.condTV; apply rfl; (first | with_reducible rfl | decide)) | (apply S.condQ; apply rfl; all_goals (intro _; try (exfalso; first | omega | with_reducible contradiction))) | fail)
      refine Sr.front p ?_
      refine T.call rfl rfl (odd_spec (a := a1 + 1)) ?_
      rintro _ _ ⟨rfl, rfl⟩
      repeat' (first | (apply T.asn; apply rfl; apply rfl) | with_reducible refine Sr.nil ?_ | (apply T.retW; apply rfl) | (with_reducible apply T.ofRet) | fail)
      exact ⟨_, by ((repeat (first | dsimp only [List.set_cons_zero] | dsimp only [List.set_cons_succ])); repeat' first | exact PSub.refl _ | exact PSub.nil | (apply PSub.take; (repeat' first | (with_reducible exact pick_hd) | (with_reducible apply pick_tl))) | (with_reducible apply PSub.drop) | ((apply PSub.take); (repeat' first | exact pick_hd | (apply pick_tl)))), a1 + 1, 0, by omega, rfl, rfl⟩
    ·rw [if_neg h6]
     have h6' : ¬ (t.getD a1 0).toNat = 92 := h6
     repeat' (first | (apply T.loadE; apply rfl; apply rfl; infer_instance; apply rfl; apply rfl) | (apply T.ixK; apply rfl; apply rfl; infer_instance; decide; decide; apply rfl) | (apply T.slen; apply rfl; apply rfl) | (apply T.sidx; apply rfl; apply rfl; omega; apply rfl) | (apply T.mv; apply rfl; apply rfl) | (apply T.asn; apply rfl; apply rfl) | (apply T.nilCheck; apply rfl; apply rfl) | (apply T.fieldAddrZ; apply rfl; apply rfl) | (apply T.load; apply rfl; apply rfl; infer_instance; apply rfl; apply rfl) | (apply T.lss; (iterate 3 apply rfl)) | (apply T.eql; (iterate 3 apply rfl)) | (apply T.neq; (iterate 3 apply rfl)) | with_reducible refine Sr.nil ?_ | with_reducible refine S.seq ?_ | with_reducible refine S.block ?_ | with_reducible refine S.reg ?_ | with_reducible refine S.skip ?_ | (apply S.quiet; apply rfl; kernel_rfl) | (apply S.condTV; apply rfl; (first | with_reducible rfl | decide)) | (apply S.condQ; apply rfl; all_goals (intro _; try (exfalso; first | omega | with_reducible contradiction))) | fail)
     refine Sr.front p ?_
     refine T.call rfl rfl fail_spec ?_
     rintro _ _ ⟨rfl, rfl⟩
     repeat' (first | (apply T.asn; apply rfl; apply rfl) | with_reducible refine Sr.nil ?_ | (apply T.retW; apply rfl) | (with_reducible apply T.ofRet) | fail)
     exact ⟨_, by ((repeat (first | dsimp only [List.set_cons_zero] | dsimp only [List.set_cons_succ])); repeat' first | exact PSub.refl _ | exact PSub.nil | (apply PSub.take; (repeat' first | (with_reducible exact pick_hd) | (with_reducible apply pick_tl))) | (with_reducible apply PSub.drop) | ((apply PSub.take); (repeat' first | exact pick_hd | (apply pick_tl)))), a1, 0, by omega, rfl, rfl⟩
   ·rw [signX_end h5]
    repeat' (first | (apply T.ixK; apply rfl; apply rfl; infer_instance; decide; decide; apply rfl) | (apply T.loadE; apply rfl; apply rfl; infer_instance; apply rfl; apply rfl) | (apply T.slen; apply rfl; apply rfl) | (apply T.mv; apply rfl; apply rfl) | (apply T.asn; apply rfl; apply rfl) | (apply T.nilCheck; apply rfl; apply rfl) | (apply T.fieldAddrZ; apply rfl; apply rfl) | (apply T.load; apply rfl; apply rfl; infer_instance; apply rfl; apply rfl) | (apply T.lss; (iterate 3 apply rfl)) | (apply T.eql; (iterate 3 apply rfl)) | with_reducible refine Sr.nil ?_ | with_reducible refine S.seq ?_ | with_reducible refine S.block ?_ | with_reducible refine S.reg ?_ | with_reducible refine S.skip ?_ | (apply S.quiet; apply rfl; kernel_rfl) | (apply S.condTV; apply rfl; (first | with_reducible rfl | decide)) | (apply S.condQ; apply rfl; all_goals (intro _; try (exfalso; first | omega | with_reducible contradiction))) | fail)
    refine Sr.front p ?_
    refine T.call rfl rfl odd_spec ?_
    rintro _ _ ⟨rfl, rfl⟩
    repeat' (first | (apply T.asn; apply rfl; apply rfl) | with_reducible refine Sr.nil ?_ | (apply T.retW; apply rfl) | (with_reducible apply T.ofRet) | fail)
    exact ⟨_, by ((repeat (first | dsimp only [List.set_cons_zero] | dsimp only [List.set_cons_succ])); repeat' first | exact PSub.refl _ | exact PSub.nil | (apply PSub.take; (repeat' first | (with_reducible exact pick_hd) | (with_reducible apply pick_tl))) | (with_reducible apply PSub.drop) | ((apply PSub.take); (repeat' first | exact pick_hd | (apply pick_tl)))), a1, 0, by omega, rfl, rfl⟩
end
end Go.Proofs.YtjajcmedipjfhaaGreatDoor
/- The walks of the program's reader of JSON: escapes. -/
namespace Go.Proofs.YtjajcmedipjfhaaGreatDoor
open Sg Go.IntWalk
set_option maxRecDepth 100000
set_option maxHeartbeats 4000000
section
variable {F : World} {M : List Nat} {H : List Res} {p : Nat} {t : List UInt8} {o n m : Value} {s : Nat} {k : List UInt8} {c b : Int}
theorem escape_spec {fr : Nat} (ha : fr < t.length) (hl : t.length ≤ 1000000000) : Meets Tryz.prog 132 [.pointer (some ⟨p, 0, none⟩)] F M (.blk p (jrV t o n m fr s k c b) 98 :: H) (JrR p t o n m s k c b 100000000 H (escX t fr)) := by
 refine Meets.enter Tryz.func132 rfl rfl ?_
 have hu := bAt_lt t (fr + 1)
 repeat' (first | (apply T.mv; apply rfl; apply rfl) | (apply T.asn; apply rfl; apply rfl) | (apply T.nilCheck; apply rfl; apply rfl) | (apply T.fieldAddrZ; apply rfl; apply rfl) | (apply T.load; apply rfl; apply rfl; infer_instance; apply rfl; apply rfl) | (apply T.addI; apply rfl; apply rfl; omega; apply rfl) | (apply T.store; apply rfl; apply rfl; infer_instance; (first | decide | (simp; omega) | simp); apply rfl) | with_reducible refine Sr.nil ?_ | with_reducible refine S.seq ?_ | with_reducible refine S.reg ?_ | fail)
 refine T.call rfl rfl (next_spec (a := fr + 1)) ?_
 rintro _ _ ⟨rfl, rfl⟩
 by_cases h1 : fr + 1 < t.length
 ·rw [escX_at h1]
  by_cases h2 : bAt t (fr + 1) = 117
  ·rw [if_pos h2]
   repeat' (first | (apply T.slen; apply rfl; apply rfl) | (apply T.mv; apply rfl; apply rfl) | (apply T.asn; apply rfl; apply rfl) | (apply T.nilCheck; apply rfl; apply rfl) | (apply T.fieldAddrZ; apply rfl; apply rfl) | (apply T.load; apply rfl; apply rfl; infer_instance; apply rfl; apply rfl) | (apply T.eql; (iterate 3 apply rfl)) | (apply T.addI; apply rfl; apply rfl; omega; apply rfl) | (apply T.store; apply rfl; apply rfl; infer_instance; (first | decide | (simp; omega) | simp); apply rfl) | with_reducible refine Sr.nil ?_ | with_reducible refine S.seq ?_ | with_reducible refine S.block ?_ | with_reducible refine S.reg ?_ | (apply S.quiet; apply rfl; kernel_rfl) | (apply S.condQ; apply rfl; all_goals (intro _; try (exfalso; first | omega | with_reducible contradiction))) | (with_reducible apply T.ofRet) | fail)
   refine T.call rfl rfl (point_spec (a := fr + 2) (fr := fr) (by omega) hl) ?_
   cases pointX t fr (fr + 2) with
   | bad e1 q1 =>
    rintro _ _ ⟨a1, z, hz, rfl, rfl⟩
    repeat' (first | (apply T.asn; apply rfl; apply rfl) | (apply T.extract; (iterate 3 apply rfl)) | with_reducible refine Sr.nil ?_ | (apply T.retW; apply rfl) | (with_reducible apply T.ofRet) | fail)
    exact ⟨_, PSub.refl _, a1, z, hz, rfl, rfl⟩
   | ok a1 u =>
    rintro _ _ ⟨rfl, rfl⟩
    repeat' (first | (apply T.asn; apply rfl; apply rfl) | (apply T.extract; (iterate 3 apply rfl)) | with_reducible refine Sr.nil ?_ | (apply T.retW; apply rfl) | (with_reducible apply T.ofRet) | fail)
    exact ⟨_, PSub.refl _, rfl, rfl⟩
  ·rw [if_neg h2]
   repeat' (first | (apply T.slen; apply rfl; apply rfl) | (apply T.mv; apply rfl; apply rfl) | (apply T.asn; apply rfl; apply rfl) | (apply T.nilCheck; apply rfl; apply rfl) | (apply T.fieldAddrZ; apply rfl; apply rfl) | (apply T.load; apply rfl; apply rfl; infer_instance; apply rfl; apply rfl) | (apply T.eql; (iterate 3 apply rfl)) | (apply T.buildAL; (iterate 3 apply rfl)) | with_reducible refine Sr.nil ?_ | with_reducible refine S.seq ?_ | with_reducible refine S.block ?_ | with_reducible refine S.reg ?_ | with_reducible refine S.skip ?_ | with_reducible refine S.inBlock ?_ | (apply S.quiet; apply rfl; kernel_rfl) | (apply S.condQ; apply rfl; all_goals (intro _; try (exfalso; first | omega | with_reducible contradiction))) | (with_reducible apply T.ofRet) | fail)
   refine S.unroll ?_
   repeat' (first | (apply T.aidx; (iterate 3 apply rfl); decide; apply rfl; apply rfl) | (apply T.convI32; apply rfl; omega; apply rfl) | (apply T.mv; apply rfl; apply rfl) | (apply T.asn; apply rfl; apply rfl) | (apply T.nilCheck; apply rfl; apply rfl) | (apply T.fieldAddrZ; apply rfl; apply rfl) | (apply T.load; apply rfl; apply rfl; infer_instance; apply rfl; apply rfl) | (apply T.lss; (iterate 3 apply rfl)) | (apply T.eql; (iterate 3 apply rfl)) | (apply T.addI; apply rfl; apply rfl; omega; apply rfl) | (apply T.ixA; apply rfl; apply rfl; omega; apply rfl) | (apply T.storeW; apply rfl; apply rfl; infer_instance; (first | rfl | (simp only [List.length_append, List.length_map, List.length_set, List.length_replicate, List.length_cons, List.length_nil]; first | done | omega)); (first | rfl | (simp only [List.length_append, List.length_map, List.length_set, List.length_replicate, List.length_cons, List.length_nil]; first | done | omega)); (first | rfl | (repeat' first | apply all_nV | apply all_bV | apply all_iV | rfl | apply all_app))) | (apply T.store; apply rfl; apply rfl; infer_instance; (first | decide | (simp; omega) | simp); apply rfl) | (apply T.alloc; apply rfl; intro nb) | with_reducible refine Sr.nil ?_ | with_reducible refine S.seq ?_ | with_reducible refine S.block ?_ | with_reducible refine S.reg ?_ | with_reducible refine S.skip ?_ | with_reducible refine S.inBlock ?_ | (apply S.condTV; apply rfl; (first | with_reducible rfl | decide)) | (apply S.condQ; apply rfl; all_goals (intro _; try (exfalso; first | omega | with_reducible contradiction))) | (apply T.retW; apply rfl) | fail)
   ·rw [show bAt t (fr + 1) = 34 by omega]
    exact ⟨_, PSub.drop (PSub.refl _), rfl, rfl⟩
   refine S.again ?_
   repeat' (first | (apply T.aidx; (iterate 3 apply rfl); decide; apply rfl; apply rfl) | (apply T.convI32; apply rfl; omega; apply rfl) | (apply T.mv; apply rfl; apply rfl) | (apply T.asn; apply rfl; apply rfl) | (apply T.nilCheck; apply rfl; apply rfl) | (apply T.fieldAddrZ; apply rfl; apply rfl) | (apply T.load; apply rfl; apply rfl; infer_instance; apply rfl; apply rfl) | (apply T.lss; (iterate 3 apply rfl)) | (apply T.eql; (iterate 3 apply rfl)) | (apply T.addI; apply rfl; apply rfl; omega; apply rfl) | (apply T.ixA; apply rfl; apply rfl; omega; apply rfl) | (apply T.storeW; apply rfl; apply rfl; infer_instance; (first | rfl | (simp only [List.length_append, List.length_map, List.length_set, List.length_replicate, List.length_cons, List.length_nil]; first | done | omega)); (first | rfl | (simp only [List.length_append, List.length_map, List.length_set, List.length_replicate, List.length_cons, List.length_nil]; first | done | omega)); (first | rfl | (repeat' first | apply all_nV | apply all_bV | apply all_iV | rfl | apply all_app))) | (apply T.store; apply rfl; apply rfl; infer_instance; (first | decide | (simp; omega) | simp); apply rfl) | (apply T.alloc; apply rfl; intro nb) | with_reducible refine Sr.nil ?_ | with_reducible refine S.seq ?_ | with_reducible refine S.block ?_ | with_reducible refine S.reg ?_ | with_reducible refine S.skip ?_ | with_reducible refine S.inBlock ?_ | (apply S.condTV; apply rfl; (first | with_reducible rfl | decide)) | (apply S.condQ; apply rfl; all_goals (intro _; try (exfalso; first | omega | with_reducible contradiction))) | (apply T.retW; apply rfl) | fail)
   ·rw [show bAt t (fr + 1) = 92 by omega]
    exact ⟨_, PSub.drop (PSub.drop (PSub.refl _)), rfl, rfl⟩
   refine S.again ?_
   repeat' (first | (apply T.aidx; (iterate 3 apply rfl); decide; apply rfl; apply rfl) | (apply T.convI32; apply rfl; omega; apply rfl) | (apply T.mv; apply rfl; apply rfl) | (apply T.asn; apply rfl; apply rfl) | (apply T.nilCheck; apply rfl; apply rfl) | (apply T.fieldAddrZ; apply rfl; apply rfl) | (apply T.load; apply rfl; apply rfl; infer_instance; apply rfl; apply rfl) | (apply T.lss; (iterate 3 apply rfl)) | (apply T.eql; (iterate 3 apply rfl)) | (apply T.addI; apply rfl; apply rfl; omega; apply rfl) | (apply T.ixA; apply rfl; apply rfl; omega; apply rfl) | (apply T.storeW; apply rfl; apply rfl; infer_instance; (first | rfl | (simp only [List.length_append, List.length_map, List.length_set, List.length_replicate, List.length_cons, List.length_nil]; first | done | omega)); (first | rfl | (simp only [List.length_append, List.length_map, List.length_set, List.length_replicate, List.length_cons, List.length_nil]; first | done | omega)); (first | rfl | (repeat' first | apply all_nV | apply all_bV | apply all_iV | rfl | apply all_app))) | (apply T.store; apply rfl; apply rfl; infer_instance; (first | decide | (simp; omega) | simp); apply rfl) | (apply T.alloc; apply rfl; intro nb) | with_reducible refine Sr.nil ?_ | with_reducible refine S.seq ?_ | with_reducible refine S.block ?_ | with_reducible refine S.reg ?_ | with_reducible refine S.skip ?_ | with_reducible refine S.inBlock ?_ | (apply S.condTV; apply rfl; (first | with_reducible rfl | decide)) | (apply S.condQ; apply rfl; all_goals (intro _; try (exfalso; first | omega | with_reducible contradiction))) | (apply T.retW; apply rfl) | fail)
   ·rw [show bAt t (fr + 1) = 47 by omega]
    exact ⟨_, PSub.drop (PSub.drop (PSub.drop (PSub.refl _))), rfl, rfl⟩
   refine S.again ?_
   repeat' (first | (apply T.aidx; (iterate 3 apply rfl); decide; apply rfl; apply rfl) | (apply T.convI32; apply rfl; omega; apply rfl) | (apply T.mv; apply rfl; apply rfl) | (apply T.asn; apply rfl; apply rfl) | (apply T.nilCheck; apply rfl; apply rfl) | (apply T.fieldAddrZ; apply rfl; apply rfl) | (apply T.load; apply rfl; apply rfl; infer_instance; apply rfl; apply rfl) | (apply T.lss; (iterate 3 apply rfl)) | (apply T.eql; (iterate 3 apply rfl)) | (apply T.addI; apply rfl; apply rfl; omega; apply rfl) | (apply T.ixA; apply rfl; apply rfl; omega; apply rfl) | (apply T.storeW; apply rfl; apply rfl; infer_instance; (first | rfl | (simp only [List.length_append, List.length_map, List.length_set, List.length_replicate, List.length_cons, List.length_nil]; first | done | omega)); (first | rfl | (simp only [List.length_append, List.length_map, List.length_set, List.length_replicate, List.length_cons, List.length_nil]; first | done | omega)); (first | rfl | (repeat' first | apply all_nV | apply all_bV | apply all_iV | rfl | apply all_app))) | (apply T.store; apply rfl; apply rfl; infer_instance; (first | decide | (simp; omega) | simp); apply rfl) | (apply T.alloc; apply rfl; intro nb) | with_reducible refine Sr.nil ?_ | with_reducible refine S.seq ?_ | with_reducible refine S.block ?_ | with_reducible refine S.reg ?_ | with_reducible refine S.skip ?_ | with_reducible refine S.inBlock ?_ | (apply S.condTV; apply rfl; (first | with_reducible rfl | decide)) | (apply S.condQ; apply rfl; all_goals (intro _; try (exfalso; first | omega | with_reducible contradiction))) | (apply T.retW; apply rfl) | fail)
   ·rw [show bAt t (fr + 1) = 98 by omega]
    exact ⟨_, PSub.drop (PSub.drop (PSub.drop (PSub.drop (PSub.refl _)))), rfl, rfl⟩
   refine S.again ?_
   repeat' (first | (apply T.aidx; (iterate 3 apply rfl); decide; apply rfl; apply rfl) | (apply T.convI32; apply rfl; omega; apply rfl) | (apply T.mv; apply rfl; apply rfl) | (apply T.asn; apply rfl; apply rfl) | (apply T.nilCheck; apply rfl; apply rfl) | (apply T.fieldAddrZ; apply rfl; apply rfl) | (apply T.load; apply rfl; apply rfl; infer_instance; apply rfl; apply rfl) | (apply T.lss; (iterate 3 apply rfl)) | (apply T.eql; (iterate 3 apply rfl)) | (apply T.addI; apply rfl; apply rfl; omega; apply rfl) | (apply T.ixA; apply rfl; apply rfl; omega; apply rfl) | (apply T.storeW; apply rfl; apply rfl; infer_instance; (first | rfl | (simp only [List.length_append, List.length_map, List.length_set, List.length_replicate, List.length_cons, List.length_nil]; first | done | omega)); (first | rfl | (simp only [List.length_append, List.length_map, List.length_set, List.length_replicate, List.length_cons, List.length_nil]; first | done | omega)); (first | rfl | (repeat' first | apply all_nV | apply all_bV | apply all_iV | rfl | apply all_app))) | (apply T.store; apply rfl; apply rfl; infer_instance; (first | decide | (simp; omega) | simp); apply rfl) | (apply T.alloc; apply rfl; intro nb) | with_reducible refine Sr.nil ?_ | with_reducible refine S.seq ?_ | with_reducible refine S.block ?_ | with_reducible refine S.reg ?_ | with_reducible refine S.skip ?_ | with_reducible refine S.inBlock ?_ | (apply S.condTV; apply rfl; (first | with_reducible rfl | decide)) | (apply S.condQ; apply rfl; all_goals (intro _; try (exfalso; first | omega | with_reducible contradiction))) | (apply T.retW; apply rfl) | fail)
   ·rw [show bAt t (fr + 1) = 102 by omega]
    exact ⟨_, PSub.drop (PSub.drop (PSub.drop (PSub.drop (PSub.drop (PSub.refl _))))), rfl, rfl⟩
   refine S.again ?_
   repeat' (first | (apply T.aidx; (iterate 3 apply rfl); decide; apply rfl; apply rfl) | (apply T.convI32; apply rfl; omega; apply rfl) | (apply T.mv; apply rfl; apply rfl) | (apply T.asn; apply rfl; apply rfl) | (apply T.nilCheck; apply rfl; apply rfl) | (apply T.fieldAddrZ; apply rfl; apply rfl) | (apply T.load; apply rfl; apply rfl; infer_instance; apply rfl; apply rfl) | (apply T.lss; (iterate 3 apply rfl)) | (apply T.eql; (iterate 3 apply rfl)) | (apply T.addI; apply rfl; apply rfl; omega; apply rfl) | (apply T.ixA; apply rfl; apply rfl; omega; apply rfl) | (apply T.storeW; apply rfl; apply rfl; infer_instance; (first | rfl | (simp only [List.length_append, List.length_map, List.length_set, List.length_replicate, List.length_cons, List.length_nil]; first | done | omega)); (first | rfl | (simp only [List.length_append, List.length_map, List.length_set, List.length_replicate, List.length_cons, List.length_nil]; first | done | omega)); (first | rfl | (repeat' first | apply all_nV | apply all_bV | apply all_iV | rfl | apply all_app))) | (apply T.store; apply rfl; apply rfl; infer_instance; (first | decide | (simp; omega) | simp); apply rfl) | (apply T.alloc; apply rfl; intro nb) | with_reducible refine Sr.nil ?_ | with_reducible refine S.seq ?_ | with_reducible refine S.block ?_ | with_reducible refine S.reg ?_ | with_reducible refine S.skip ?_ | with_reducible refine S.inBlock ?_ | (apply S.condTV; apply rfl; (first | with_reducible rfl | decide)) | (apply S.condQ; apply rfl; all_goals (intro _; try (exfalso; first | omega | with_reducible contradiction))) | (apply T.retW; apply rfl) | fail)
   ·rw [show bAt t (fr + 1) = 110 by omega]
    exact ⟨_, PSub.drop (PSub.drop (PSub.drop (PSub.drop (PSub.drop (PSub.drop (PSub.refl _)))))), rfl, rfl⟩
   refine S.again ?_
   repeat' (first | (apply T.aidx; (iterate 3 apply rfl); decide; apply rfl; apply rfl) | (apply T.convI32; apply rfl; omega; apply rfl) | (apply T.mv; apply rfl; apply rfl) | (apply T.asn; apply rfl; apply rfl) | (apply T.nilCheck; apply rfl; apply rfl) | (apply T.fieldAddrZ; apply rfl; apply rfl) | (apply T.load; apply rfl; apply rfl; infer_instance; apply rfl; apply rfl) | (apply T.lss; (iterate 3 apply rfl)) | (apply T.eql; (iterate 3 apply rfl)) | (apply T.addI; apply rfl; apply rfl; omega; apply rfl) | (apply T.ixA; apply rfl; apply rfl; omega; apply rfl) | (apply T.storeW; apply rfl; apply rfl; infer_instance; (first | rfl | (simp only [List.length_append, List.length_map, List.length_set, List.length_replicate, List.length_cons, List.length_nil]; first | done | omega)); (first | rfl | (simp only [List.length_append, List.length_map, List.length_set, List.length_replicate, List.length_cons, List.length_nil]; first | done | omega)); (first | rfl | (repeat' first | apply all_nV | apply all_bV | apply all_iV | rfl | apply all_app))) | (apply T.store; apply rfl; apply rfl; infer_instance; (first | decide | (simp; omega) | simp); apply rfl) | (apply T.alloc; apply rfl; intro nb) | with_reducible refine Sr.nil ?_ | with_reducible refine S.seq ?_ | with_reducible refine S.block ?_ | with_reducible refine S.reg ?_ | with_reducible refine S.skip ?_ | with_reducible refine S.inBlock ?_ | (apply S.condTV; apply rfl; (first | with_reducible rfl | decide)) | (apply S.condQ; apply rfl; all_goals (intro _; try (exfalso; first | omega | with_reducible contradiction))) | (apply T.retW; apply rfl) | fail)
   ·rw [show bAt t (fr + 1) = 114 by omega]
    exact ⟨_, PSub.drop (PSub.drop (PSub.drop (PSub.drop (PSub.drop (PSub.drop (PSub.drop (PSub.refl _))))))), rfl, rfl⟩
   refine S.again ?_
   repeat' (first | (apply T.aidx; (iterate 3 apply rfl); decide; apply rfl; apply rfl) | (apply T.convI32; apply rfl; omega; apply rfl) | (apply T.mv; apply rfl; apply rfl) | (apply T.asn; apply rfl; apply rfl) | (apply T.nilCheck; apply rfl; apply rfl) | (apply T.fieldAddrZ; apply rfl; apply rfl) | (apply T.load; apply rfl; apply rfl; infer_instance; apply rfl; apply rfl) | (apply T.lss; (iterate 3 apply rfl)) | (apply T.eql; (iterate 3 apply rfl)) | (apply T.addI; apply rfl; apply rfl; omega; apply rfl) | (apply T.ixA; apply rfl; apply rfl; omega; apply rfl) | (apply T.storeW; apply rfl; apply rfl; infer_instance; (first | rfl | (simp only [List.length_append, List.length_map, List.length_set, List.length_replicate, List.length_cons, List.length_nil]; first | done | omega)); (first | rfl | (simp only [List.length_append, List.length_map, List.length_set, List.length_replicate, List.length_cons, List.length_nil]; first | done | omega)); (first | rfl | (repeat' first | apply all_nV | apply all_bV | apply all_iV | rfl | apply all_app))) | (apply T.store; apply rfl; apply rfl; infer_instance; (first | decide | (simp; omega) | simp); apply rfl) | (apply T.alloc; apply rfl; intro nb) | with_reducible refine Sr.nil ?_ | with_reducible refine S.seq ?_ | with_reducible refine S.block ?_ | with_reducible refine S.reg ?_ | with_reducible refine S.skip ?_ | with_reducible refine S.inBlock ?_ | (apply S.condTV; apply rfl; (first | with_reducible rfl | decide)) | (apply S.condQ; apply rfl; all_goals (intro _; try (exfalso; first | omega | with_reducible contradiction))) | (apply T.retW; apply rfl) | fail)
   ·rw [show bAt t (fr + 1) = 116 by omega]
    exact ⟨_, PSub.drop (PSub.drop (PSub.drop (PSub.drop (PSub.drop (PSub.drop (PSub.drop (PSub.drop (PSub.refl _)))))))), rfl, rfl⟩
   refine S.again ?_
   repeat' (first | (apply T.mv; apply rfl; apply rfl) | (apply T.lss; (iterate 3 apply rfl)) | with_reducible refine Sr.nil ?_ | with_reducible refine S.seq ?_ | with_reducible refine S.reg ?_ | (apply S.exit; apply rfl) | (apply S.condFV; apply rfl; (first | with_reducible rfl | decide)) | fail)
   refine Sr.front p ?_
   refine T.call rfl rfl fail_spec ?_
   rintro _ _ ⟨rfl, rfl⟩
   repeat' (first | (apply T.asn; apply rfl; apply rfl) | with_reducible refine Sr.nil ?_ | (apply T.retW; apply rfl) | (with_reducible apply T.ofRet) | fail)
   have e9 : escN (bAt t (fr + 1)) = none := by
    unfold escN
    repeat' (split; · omega)
    rfl
   rw [e9]
   exact ⟨_, by ((repeat (first | dsimp only [List.set_cons_zero] | dsimp only [List.set_cons_succ])); repeat' first | exact PSub.refl _ | exact PSub.nil | (apply PSub.take; (repeat' first | (with_reducible exact pick_hd) | (with_reducible apply pick_tl))) | (with_reducible apply PSub.drop) | ((apply PSub.take); (repeat' first | exact pick_hd | (apply pick_tl)))), fr + 1, 0, by omega, rfl, rfl⟩
 ·rw [escX_end h1]
  repeat' (first | (apply T.slen; apply rfl; apply rfl) | (apply T.mv; apply rfl; apply rfl) | (apply T.asn; apply rfl; apply rfl) | (apply T.nilCheck; apply rfl; apply rfl) | (apply T.fieldAddrZ; apply rfl; apply rfl) | (apply T.load; apply rfl; apply rfl; infer_instance; apply rfl; apply rfl) | (apply T.eql; (iterate 3 apply rfl)) | with_reducible refine Sr.nil ?_ | with_reducible refine S.seq ?_ | with_reducible refine S.block ?_ | with_reducible refine S.reg ?_ | (apply S.quiet; apply rfl; kernel_rfl) | (apply S.condQ; apply rfl; all_goals (intro _; try (exfalso; first | omega | with_reducible contradiction))) | (with_reducible apply T.ofRet) | fail)
  refine T.call rfl rfl (odd_spec (a := fr + 1)) ?_
  rintro _ _ ⟨rfl, rfl⟩
  repeat' (first | (apply T.asn; apply rfl; apply rfl) | with_reducible refine Sr.nil ?_ | (apply T.retW; apply rfl) | (with_reducible apply T.ofRet) | fail)
  exact ⟨_, PSub.refl _, fr + 1, 0, by omega, rfl, rfl⟩
end
end Go.Proofs.YtjajcmedipjfhaaGreatDoor
/- The library's contracts, laid at this program (printed by the kit's tools lay-shelf and lay-plain, cut out by a program). -/
namespace Go.Proofs
open Go.Shelf
def Tryz.lays197_ren : Go.Shelf.Ren := ⟨fun | 197 => 162 | 260 => 177 | n => n, fun | 9 => 9 | 21 => 21 | 3 => 3 | 4 => 4 | 5 => 5 | 105 => 213 | 119 => 120 | 0 => 0 | 46 => 124 | 139 => 123 | 138 => 122 | n => n, fun | 3 => 0 | 4 => 1 | n => n⟩
theorem Tryz.lays197 : Go.Proofs.Lays.n197 Tryz.prog Tryz.lays197_ren := {
 mixed := by kernel_rfl
 f197 := Tryz.func162.trans (congrArg some (by kernel_rfl))
 f260 := Tryz.func177.trans (congrArg some (by kernel_rfl))
 t0 := Tryz.underlying0
 a0 := Tryz.isAgg0
 z0 := Tryz.sizeOf0
 v0 := Tryz.zeroValue0
 t3 := Tryz.underlying3
 a3 := Tryz.isAgg3
 z3 := Tryz.sizeOf3
 v3 := Tryz.zeroValue3
 t4 := Tryz.underlying4
 a4 := Tryz.isAgg4
 z4 := Tryz.sizeOf4
 v4 := Tryz.zeroValue4
 t5 := Tryz.underlying5
 a5 := Tryz.isAgg5
 z5 := Tryz.sizeOf5
 v5 := Tryz.zeroValue5
 t9 := Tryz.underlying9
 a9 := Tryz.isAgg9
 z9 := Tryz.sizeOf9
 v9 := Tryz.zeroValue9
 t21 := Tryz.underlying21
 a21 := Tryz.isAgg21
 z21 := Tryz.sizeOf21
 v21 := Tryz.zeroValue21
 t46 := Tryz.underlying124
 a46 := Tryz.isAgg124
 z46 := Tryz.sizeOf124
 v46 := Tryz.zeroValue124
 t105 := Tryz.underlying213
 a105 := Tryz.isAgg213
 z105 := Tryz.sizeOf213
 v105 := Tryz.zeroValue213
 t119 := Tryz.underlying120
 a119 := Tryz.isAgg120
 z119 := Tryz.sizeOf120
 t138 := Tryz.underlying122
 a138 := Tryz.isAgg122
 z138 := Tryz.sizeOf122
 v138 := Tryz.zeroValue122
 t139 := Tryz.underlying123
 a139 := Tryz.isAgg123
 z139 := Tryz.sizeOf123
 v139 := Tryz.zeroValue123
 g3 := by kernel_rfl
 g4 := by kernel_rfl }
open Go.RowKit Go.Lib in
/-- **unicode/utf8.DecodeRuneInString AT EVERY STRING.** (LAID: no walk: one application.) -/
theorem Tryz.utf8_DecodeRuneInString (s : ByteArray) (w : World) (hT : Lib.Utf8Tabs 0 1 w) :
  Calls Tryz.prog 162 #[.string s] w fun e w' => e = .returned (.tuple #[.int .i32 (Lib.decodeGo s).1, .int .i64 (Lib.decodeGo s).2]) ∧ Below w.heap.size w w' := Any.utf8_DecodeRuneInString Tryz.lays197 s w hT
end Go.Proofs
