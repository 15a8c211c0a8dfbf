/- Texts put together by a program: Blda SplA ShlV ShpA ShpB MapN DrawG. -/
import Derived.Test.YtnimcchalinihaaDoorFacts
import Derived.Test.YtnimcchalinihaaDoorMa
import Derived.Test.YtnimcchalinihaaDoorMb
import Derived.Lib.Bytealg
import Derived.Shelf.Unicode.ValidAny
import Derived.Test.YtnimcchalinihaaDoorProg
import Derived.Laws.Cover3
/- The walks of strings.Builder, by hand. -/
namespace Go.Proofs.YtnimcchalinihaaDoor
open Sg Go.IntWalk
set_option maxRecDepth 100000
set_option maxHeartbeats 4000000
section
variable {F : World} {M : List Nat} {H : List Res} {b : Nat} {p v : Value}
/-- A builder's first cell: fresh, or its own place. -/
def BdOk (b : Nat) (p : Value) : Prop := p = .pointer none ∨ p = .pointer (some ⟨b, 0, none⟩)
theorem BdOk.self (b : Nat) : BdOk b (.pointer (some ⟨b, 0, none⟩)) := .inr rfl
abbrev bdB (b : Nat) (p : Value) (na : Option Addr) (n cp : Nat) : Res := .blk b [p, .slice na n cp] 83
abbrev byR (na : Option Addr) (cp : Nat) (xs : List UInt8) : Res := .row na cp 5 1 xs.length (xs.map bV)
theorem copyCheck_spec (hp : BdOk b p) : Meets Tryd.prog 83 [.pointer (some ⟨b, 0, none⟩)] F M (.blk b [p, v] 83 :: H) (fun e H' => e = .returned (.tuple ⟨[]⟩) ∧ H' = .blk b [.pointer (some ⟨b, 0, none⟩), v] 83 :: H) := by
  refine Meets.enter Tryd.func83 rfl rfl ?_
  rcases hp with rfl | rfl
  · repeat' (first | (apply T.toUnsafe; apply rfl; infer_instance; apply rfl; apply rfl; apply rfl) | (apply T.eqlP0; apply rfl; apply rfl) | (apply T.mv; apply rfl; apply rfl) | (apply T.nilCheck; apply rfl; apply rfl) | (apply T.fieldAddrZ; apply rfl; apply rfl) | (apply T.load; apply rfl; apply rfl; infer_instance; apply rfl; apply rfl) | with_reducible refine Sr.nil ?_ | with_reducible refine S.seq ?_ | with_reducible refine S.reg ?_ | (apply S.condTV; apply rfl; (first | with_reducible rfl | decide)) | fail)
    refine T.callX (vs := [.pointer (some ⟨b, 0, none⟩)]) (K := fun v H' => v = .pointer (some ⟨b, 0, none⟩) ∧ H' = _) rfl rfl (fun w hw => ⟨_, w, _, by rw [run_callFunc_extern Tryd.func109 (by kernel_rfl) (by kernel_rfl) (by kernel_rfl) (e := Extern.AbiNoEscape.same) (by kernel_rfl)]; rfl, hw, rfl, rfl⟩) ?_
    rintro _ _ ⟨rfl, rfl⟩
    repeat' (first | (apply T.fromUnsafe; apply rfl; infer_instance; kernel_rfl; apply rfl) | (apply T.nilCheck; apply rfl; apply rfl) | (apply T.fieldAddrZ; apply rfl; apply rfl) | (apply T.store; apply rfl; apply rfl; infer_instance; (first | decide | (simp; omega) | simp); apply rfl) | with_reducible refine Sr.nil ?_ | (apply T.doneW; apply rfl) | fail)
    exact ⟨_, PSub.refl _, rfl, rfl⟩
  · repeat' (first | (apply T.pneqSame; apply rfl; apply rfl; apply rfl) | (apply T.eqlP; apply rfl; apply rfl) | (apply T.mv; apply rfl; apply rfl) | (apply T.nilCheck; apply rfl; apply rfl) | (apply T.fieldAddrZ; apply rfl; apply rfl) | (apply T.load; apply rfl; apply rfl; infer_instance; apply rfl; apply rfl) | with_reducible refine Sr.nil ?_ | with_reducible refine S.seq ?_ | with_reducible refine S.reg ?_ | with_reducible refine S.skip ?_ | (apply S.condFV; apply rfl; (first | with_reducible rfl | decide)) | (apply T.doneW; apply rfl) | fail)
    exact ⟨_, PSub.refl _, rfl, rfl⟩
theorem bdLen_spec {na : Option Addr} {n cp : Nat} : Meets Tryd.prog 37 [.pointer (some ⟨b, 0, none⟩)] F M (bdB b p na n cp :: H) (fun e H' => e = .returned (.int .i64 n) ∧ H' = bdB b p na n cp :: H) := by
  refine Meets.enter Tryd.func37 rfl rfl ?_
  repeat' (first | (apply T.mv; apply rfl; apply rfl) | (apply T.asn; apply rfl; apply rfl) | (apply T.len; apply rfl; apply rfl) | (apply T.nilCheck; apply rfl; apply rfl) | (apply T.fieldAddrZ; apply rfl; apply rfl) | (apply T.load; apply rfl; apply rfl; infer_instance; apply rfl; apply rfl) | with_reducible refine Sr.nil ?_ | with_reducible refine S.seq ?_ | with_reducible refine S.reg ?_ | (apply T.retW; apply rfl) | fail)
  exact ⟨_, PSub.refl _, rfl, rfl⟩
theorem writeString_spec {na : Option Addr} {cp : Nat} {xs s : List UInt8} (hp : BdOk b p) (hl : xs.length + s.length ≤ 100000000) :
    Meets Tryd.prog 53 [.pointer (some ⟨b, 0, none⟩), sV s] F M (bdB b p na xs.length cp :: byR na cp xs :: H)
      (fun e H' => ∃ na' cp', e = .returned (.tuple ⟨[.int .i64 s.length, .nilIface]⟩) ∧ H' = bdB b (.pointer (some ⟨b, 0, none⟩)) na' (xs ++ s).length cp' :: byR na' cp' (xs ++ s) :: H) := by
  refine Meets.enter Tryd.func53 rfl rfl ?_
  have hL : (xs ++ s).length = xs.length + s.length := List.length_append
  repeat' (first | (apply T.mv; apply rfl; apply rfl) | (apply T.asn; apply rfl; apply rfl) | with_reducible refine Sr.nil ?_ | with_reducible refine S.seq ?_ | with_reducible refine S.reg ?_ | fail)
  refine T.call rfl rfl (copyCheck_spec hp) ?_
  rintro _ _ ⟨rfl, rfl⟩
  repeat' (first | (apply T.slen; apply rfl; apply rfl) | (apply T.appendS; apply rfl; apply rfl; infer_instance; omega; apply rfl; intro na nc) | (apply T.mv; apply rfl; apply rfl) | (apply T.asn; apply rfl; apply rfl) | (apply T.nilCheck; apply rfl; apply rfl) | (apply T.fieldAddrZ; apply rfl; apply rfl) | (apply T.load; apply rfl; apply rfl; infer_instance; apply rfl; apply rfl) | (apply T.store; apply rfl; apply rfl; infer_instance; (first | decide | (simp; omega) | simp); apply rfl) | with_reducible refine Sr.nil ?_ | with_reducible refine S.seq ?_ | with_reducible refine S.reg ?_ | (apply T.retW; apply rfl) | (with_reducible apply T.ofRet) | fail)
  dsimp only [bdB, byR]
  rw [hL]
  exact ⟨_, PSub.refl _, _, _, rfl, rfl⟩
theorem writeByte_spec {na : Option Addr} {cp : Nat} {xs : List UInt8} {x : UInt8} (hp : BdOk b p) (hl : xs.length ≤ 100000000) :
    Meets Tryd.prog 55 [.pointer (some ⟨b, 0, none⟩), .int .u8 (x.toNat : Nat)] F M (bdB b p na xs.length cp :: byR na cp xs :: H)
      (fun e H' => ∃ na' cp', e = .returned .nilIface ∧ H' = bdB b (.pointer (some ⟨b, 0, none⟩)) na' (xs ++ [x]).length cp' :: byR na' cp' (xs ++ [x]) :: H) := by
  refine Meets.enter Tryd.func55 rfl rfl ?_
  have hL : (xs ++ [x]).length = xs.length + 1 := List.length_append
  repeat' (first | (apply T.mv; apply rfl; apply rfl) | (apply T.asn; apply rfl; apply rfl) | with_reducible refine Sr.nil ?_ | with_reducible refine S.seq ?_ | with_reducible refine S.reg ?_ | fail)
  refine T.call rfl rfl (copyCheck_spec hp) ?_
  rintro _ _ ⟨rfl, rfl⟩
  repeat' (first | (apply T.mv; apply rfl; apply rfl) | (apply T.asn; apply rfl; apply rfl) | (apply T.nilCheck; apply rfl; apply rfl) | (apply T.fieldAddrZ; apply rfl; apply rfl) | (apply T.load; apply rfl; apply rfl; infer_instance; apply rfl; apply rfl) | (apply T.store; apply rfl; apply rfl; infer_instance; (first | decide | (simp; omega) | simp); apply rfl) | (apply T.bs; apply rfl; apply rfl; apply rfl; apply rfl; apply rfl; apply rfl; intro nb) | (apply T.appendB; apply rfl; apply rfl; infer_instance; apply rfl; (constructor <;> omega); apply rfl; intro na nc) | with_reducible refine Sr.nil ?_ | with_reducible refine S.seq ?_ | with_reducible refine S.reg ?_ | (apply T.retW; apply rfl) | (with_reducible apply T.ofRet) | fail)
  dsimp only [bdB, byR]
  rw [hL]
  exact ⟨_, PSub.refl _, _, _, rfl, rfl⟩
theorem bdString_spec {na : Option Addr} {cp : Nat} {xs : List UInt8} (hx : 0 < xs.length) :
    Meets Tryd.prog 38 [.pointer (some ⟨b, 0, none⟩)] F M (bdB b p na xs.length cp :: byR na cp xs :: H) (fun e H' => e = .returned (sV xs) ∧ H' = H) := by
  refine Meets.enter Tryd.func38 rfl rfl ?_
  refine S.capR (ad := na) inferInstance fun hcap => ?_
  have h0 : 0 < cp ∨ na = none := .inl (by omega)
  refine S.seq ?_
  repeat' (first | (apply T.asn; apply rfl; apply rfl) | with_reducible refine Sr.nil ?_ | with_reducible refine S.reg ?_ | fail)
  refine S.seq ?_
  (apply S.draw; (case Hs => exact bdB b p na xs.length cp :: H); (case es => exact  [10]); (case n => exact  12); (case hn => rfl))
  repeat' (first | (apply T.unsafeData; apply rfl; exact h0; apply rfl) | (refine T.unsafeStr (xs := xs) rfl rfl inferInstance hx rfl ?_) | (apply T.mv; apply rfl; apply rfl) | (apply T.asn; apply rfl; apply rfl) | (apply T.len; apply rfl; apply rfl) | (apply T.nilCheck; apply rfl; apply rfl) | (apply T.fieldAddrZ; apply rfl; apply rfl) | (apply T.load; apply rfl; apply rfl; infer_instance; apply rfl; apply rfl) | with_reducible refine Sr.nil ?_ | (apply T.retW; apply rfl) | (apply SA.qn; apply rfl; apply rfl; apply rfl; apply rfl; kernel_rfl) | (apply SA.en; apply rfl; apply rfl; kernel_rfl) | (apply SA.done; apply rfl; kernel_rfl) | (apply SK.intro; (first | exact fun _ h => h | exact fun _ h => St.psub h (by ((repeat (first | dsimp only [List.set_cons_zero] | dsimp only [List.set_cons_succ])); repeat' first | exact PSub.refl _ | exact PSub.nil | (apply PSub.take; (repeat' first | (with_reducible exact pick_hd) | (with_reducible apply pick_tl))) | (with_reducible apply PSub.drop) | ((apply PSub.take); (repeat' first | exact pick_hd | (apply pick_tl))))))) | fail)
  exact ⟨_, PSub.drop (PSub.drop (PSub.refl _)), rfl, rfl⟩
end
end Go.Proofs.YtnimcchalinihaaDoor
/- The walks of the program's spelling of texts and values. -/
namespace Sg
open Go Go.RowKit
section
variable {c : Ctx} {ds : List Deferred} {H : List Res} {ops : Array Oper} {l : List Oper} {κ : List Res → Env → Prop} {q : Mode} {e : Env} {ty : TypeId} {pos : String} {aft : Array Edge}
theorem T.bshr4 {x : Operand} {d : Tmp} {t u : TypeId} {a : UInt8} {kd' : IntKind} (hx : ev e x = some (.int .u8 (a.toNat : Int))) (hlt : Nat.blt d c.fn.ntmps = true) (hk : Sr q c ds H ops l κ ((d, .int .u8 ((a.toNat / 16 : Nat) : Int)) :: e)) :
    Sr q c ds H ops (⟨some d, .binOp .shr t x (.const (.int kd' 4)) u, ty, pos, aft, none⟩ :: l) κ e := Sr.p (Pu.shr hx rfl (by decide) (by
  show (a.toNat : Int).fdiv (2 ^ 4) = ((a.toNat / 16 : Nat) : Int)
  rw [Int.fdiv_eq_ediv_of_nonneg _ (by decide)]
  omega)) rfl hlt rfl hk
theorem T.band15 {x : Operand} {d : Tmp} {t u : TypeId} {a : UInt8} (hx : ev e x = some (.int .u8 (a.toNat : Int))) (hlt : Nat.blt d c.fn.ntmps = true) (hk : Sr q c ds H ops l κ ((d, .int .u8 ((a.toNat % 16 : Nat) : Int)) :: e)) :
    Sr q c ds H ops (⟨some d, .binOp .and t x (.const (.int .u8 15)) u, ty, pos, aft, none⟩ :: l) κ e := T.band (b := 15) hx rfl hlt (by
  rw [show (a &&& 15).toNat = a.toNat % 16 by
    rw [UInt8.toNat_and]
    exact Nat.and_two_pow_sub_one_eq_mod a.toNat 4]
  exact hk)
theorem T.badd1 {x : Operand} {d : Tmp} {t u : TypeId} {n : Nat} (hx : ev e x = some (.int .u8 (n : Int))) (hn : n < 255) (hlt : Nat.blt d c.fn.ntmps = true) (hk : Sr q c ds H ops l κ ((d, .int .u8 ((n + 1 : Nat) : Int)) :: e)) :
    Sr q c ds H ops (⟨some d, .binOp .add t x (.const (.int .u8 1)) u, ty, pos, aft, none⟩ :: l) κ e := Sr.p (Pu.add hx rfl (by
  show IntKind.u8.wrap ((n : Int) + 1) = ((n + 1 : Nat) : Int)
  rw [wrap_u8]
  omega)) rfl hlt rfl hk
end
/-- The signs of a number in sixteen. -/
def hexL : List UInt8 := [48, 49, 50, 51, 52, 53, 54, 55, 56, 57, 97, 98, 99, 100, 101, 102]
theorem hexL_get : ∀ k : Fin 16, (hexL.drop k.val).take (k.val + 1 - k.val) = [hexD k.val] := by decide
theorem hexL_at {k : Nat} (h : k < 16) : (hexL.drop k).take (k + 1 - k) = [hexD k] := hexL_get ⟨k, h⟩
/-- The signs with a spelling of their own, and these. -/
def escL : List UInt8 := [8, 12, 10, 13, 9, 34, 92]
def escT : List UInt8 := [98, 102, 110, 114, 116, 34, 92]
theorem esc_ix : ∀ n : Fin 256, (Lib.indexByte escL (UInt8.ofNat n.val) = -1 ∧ (n.val < 32 → qB (UInt8.ofNat n.val) = [92, 117, 48, 48, hexD (n.val / 16), hexD (n.val % 16)]) ∧ n.val ≠ 34 ∧ n.val ≠ 92) ∨
    (∃ i : Fin 7, Lib.indexByte escL (UInt8.ofNat n.val) = (i.val : Int) ∧ qB (UInt8.ofNat n.val) = 92 :: (escT.drop i.val).take (i.val + 1 - i.val)) := by decide +kernel
theorem esc_at (c : UInt8) : (Lib.indexByte escL c = -1 ∧ (c.toNat < 32 → qB c = [92, 117, 48, 48, hexD (c.toNat / 16), hexD (c.toNat % 16)]) ∧ c.toNat ≠ 34 ∧ c.toNat ≠ 92) ∨
    (∃ i : Nat, i < 7 ∧ Lib.indexByte escL c = (i : Int) ∧ qB c = 92 :: (escT.drop i).take (i + 1 - i)) := by
  have h := esc_ix ⟨c.toNat, c.toNat_lt⟩
  simp only [UInt8.ofNat_toNat] at h
  rcases h with h | ⟨i, h1, h2⟩
  · exact .inl h
  · exact .inr ⟨i.val, i.isLt, h1, h2⟩
theorem qB_plain {c : UInt8} (h1 : ¬ c.toNat < 32) (h2 : c.toNat ≠ 34) (h3 : c.toNat ≠ 92) : qB c = [c] := by
  unfold qB
  rw [if_neg (by omega), if_neg (by omega), if_neg (by omega), if_neg (by omega), if_neg (by omega), if_neg (by omega), if_neg (by omega)]
end Sg
namespace Go.Proofs.YtnimcchalinihaaDoor
open Sg Go.IntWalk
set_option maxRecDepth 100000
set_option maxHeartbeats 4000000
section
variable {F : World} {M : List Nat} {H : List Res} {b : Nat} {p v : Value}
theorem indexByte_spec {s : List UInt8} {ch : UInt8} : Meets Tryd.prog 84 [sV s, .int .u8 (ch.toNat : Nat)] F M H (fun e H' => e = .returned (.int .i64 (Lib.indexByte s ch)) ∧ H' = H) := by
  refine Meets.enter Tryd.func84 rfl rfl ?_
  repeat' (first | (apply T.mv; apply rfl; apply rfl) | (apply T.asn; apply rfl; apply rfl) | with_reducible refine Sr.nil ?_ | with_reducible refine S.seq ?_ | with_reducible refine S.reg ?_ | fail)
  refine T.call rfl rfl (Meets.enter (post := fun e H' => e = .returned (.int .i64 (Lib.indexByte s ch)) ∧ H' = H) Tryd.func104 rfl rfl ?_) ?_
  · repeat' (first | (apply T.mv; apply rfl; apply rfl) | (apply T.asn; apply rfl; apply rfl) | with_reducible refine Sr.nil ?_ | with_reducible refine S.seq ?_ | with_reducible refine S.reg ?_ | fail)
    refine T.callX (vs := [sV s, .int .u8 (ch.toNat : Nat)]) (K := fun v H' => v = .int .i64 (Lib.indexByte s ch) ∧ H' = _) rfl rfl (fun w hw => ⟨.int .i64 (Lib.indexByte s ch), w, _, by
      have h := Lib.run_indexByteString (P := Tryd.prog) (ByteArray.mk s.toArray) (ch.toNat : Nat) w
      rw [run_callFunc_extern Tryd.func122 (by kernel_rfl) (by kernel_rfl) (by kernel_rfl) (e := Extern.BytealgIndexByte.indexByte) (by kernel_rfl)]
      refine (congrArg (fun r => Result.andThen r fun v w' => Result.ok (Next.value v) w') h).trans ?_
      rw [Int.toNat_natCast]
      have h2 : ch.toNat.toUInt8 = ch := by simp
      rw [h2]
      rfl, hw, rfl, rfl⟩) ?_
    rintro _ _ ⟨rfl, rfl⟩
    repeat' (first | (apply T.asn; apply rfl; apply rfl) | with_reducible refine Sr.nil ?_ | (apply T.retW; apply rfl) | fail)
    exact ⟨_, PSub.refl _, rfl, rfl⟩
  rintro _ _ ⟨rfl, rfl⟩
  repeat' (first | (apply T.asn; apply rfl; apply rfl) | with_reducible refine Sr.nil ?_ | (apply T.retW; apply rfl) | (with_reducible apply T.ofRet) | fail)
  exact ⟨_, PSub.refl _, rfl, rfl⟩
theorem take_next1 {s : List UInt8} {f i : Nat} (h : i < s.length) (hf : f ≤ i) : (s.drop f).take (i + 1 - f) = (s.drop f).take (i - f) ++ [s.getD i 0] := by
  rw [show i + 1 - f = (i - f) + 1 by omega, List.take_succ_eq_append_getElem (by rw [List.length_drop]; omega), List.getElem_drop]
  simp [List.getD, show f + (i - f) = i by omega, h]
theorem flat_next {s : List UInt8} {i : Nat} (h : i < s.length) : (s.take (i + 1)).flatMap qB = (s.take i).flatMap qB ++ qB (s.getD i 0) := by
  rw [List.take_succ_eq_append_getElem h, List.flatMap_append]
  simp [List.getD, h]
theorem quote_spec {na : Option Addr} {cp : Nat} {xs s : List UInt8} (hp : BdOk b p) (hl : xs.length + 6 * s.length + 2 ≤ 100000000) :
    Meets Tryd.prog 54 [.pointer (some ⟨b, 0, none⟩), sV s] F M (bdB b p na xs.length cp :: byR na cp xs :: H)
      (fun e H' => ∃ na' cp', e = .returned (.tuple ⟨[]⟩) ∧ H' = bdB b (.pointer (some ⟨b, 0, none⟩)) na' (xs ++ quoS s).length cp' :: byR na' cp' (xs ++ quoS s) :: H) := by
  refine Meets.enter Tryd.func54 rfl rfl ?_
  repeat' (first | (apply T.mv; apply rfl; apply rfl) | with_reducible refine S.seq ?_ | with_reducible refine S.reg ?_ | fail)
  refine T.call rfl rfl (writeByte_spec (x := 34) hp (by omega)) ?_
  rintro _ _ ⟨na1, cp1, rfl, rfl⟩
  repeat' (first | (apply T.slen; apply rfl; apply rfl) | (apply T.mv; apply rfl; apply rfl) | (apply T.asn; apply rfl; apply rfl) | with_reducible refine Sr.nil ?_ | with_reducible refine S.seq ?_ | with_reducible refine S.block ?_ | with_reducible refine S.reg ?_ | (with_reducible apply T.ofRet) | fail)
  refine S.loopE 2 [0, 1, 11] (fun R b' μ H' e => ∃ (i f : Nat) (na : Option Addr) (cp : Nat) (ys A : List UInt8), H' = bdB b (.pointer (some ⟨b, 0, none⟩)) na ys.length cp :: byR na cp ys :: R ∧ e = (4, .int .i64 f) :: (12, .int .i64 i) :: b' ∧
    (i ≤ s.length ∧ f ≤ i ∧ ys = xs ++ 34 :: A ∧ A ++ (s.drop f).take (i - f) = (s.take i).flatMap qB) ∧ μ = s.length - i) rfl rfl ?_ _ _ ⟨0, 0, na1, cp1, xs ++ [34], [], rfl, rfl, ⟨Nat.zero_le _, Nat.le_refl _, rfl, rfl⟩, rfl⟩ (by repeat' first | exact trivial | refine And.intro rfl ?_)
  rintro _ _ _ ⟨i, f, na, cp, ys, A, rfl, rfl, ⟨h1, h2, h3, h4⟩, rfl⟩ ih
  have hA : A.length ≤ 6 * i := by
    have h5 := flatMap_len qB_len (s.take i)
    have h6 := congrArg List.length h4
    rw [List.length_take] at h5
    rw [List.length_append] at h6
    omega
  have hy : ys.length = xs.length + A.length + 1 := by rw [h3, List.length_append, List.length_cons]; omega
  by_cases h7 : i < s.length
  · have hn := take_next1 h7 h2
    have hq := flat_next h7
    generalize hc : s.getD i 0 = ch at *
    have h8 := ch.toNat_lt
    by_cases hpl : ¬ ch.toNat < 32 ∧ ch.toNat ≠ 34 ∧ ch.toNat ≠ 92
    · obtain ⟨p1, p2, p3⟩ := hpl
      rw [qB_plain p1 p2 p3, ← h4, List.append_assoc, ← hn] at hq
      repeat' (first | (apply T.sidx; apply rfl; apply rfl; omega; apply rfl; rw [hc]) | (apply T.mv; apply rfl; apply rfl) | (apply T.asn; apply rfl; apply rfl) | (apply T.lss; apply rfl; apply rfl; apply rfl) | (apply T.geq; apply rfl; apply rfl; apply rfl) | (apply T.neq; apply rfl; apply rfl; apply rfl) | (apply T.addI; apply rfl; apply rfl; omega; apply rfl) | (apply T.pickT; apply rfl; apply rfl; apply rfl) | with_reducible refine Sr.nil ?_ | with_reducible refine S.seq ?_ | with_reducible refine S.block ?_ | with_reducible refine S.reg ?_ | with_reducible refine S.skip ?_ | (apply S.exit; apply rfl) | (apply T.ungV; apply rfl; (first | with_reducible rfl | decide)) | (apply S.condQ; apply rfl; all_goals (intro _; try (exfalso; first | omega | with_reducible contradiction))) | (apply T.gcase; apply rfl; apply rfl; all_goals (intro _; try (exfalso; first | omega | with_reducible contradiction))) | fail)
      exact ih _ _ _ _ ⟨i + 1, f, _, _, ys, A, rfl, rfl, ⟨h7, by omega, h3, hq.symm⟩, rfl⟩ (by omega) (by repeat' first | exact trivial | refine And.intro rfl ?_)
    · have hT : ((s.drop f).take (i - f)).length ≤ i := by rw [List.length_take]; omega
      have h5 : A.length + ((s.drop f).take (i - f)).length ≤ 6 * i := by
        have g1 := flatMap_len qB_len (s.take i)
        have g2 := congrArg List.length h4
        have g3 : (s.take i).length ≤ i := List.length_take_le ..
        rw [List.length_append] at g2
        omega
      rw [← h4] at hq
      generalize hTd : (s.drop f).take (i - f) = tl at *
      have hyl : (ys ++ tl).length = ys.length + tl.length := List.length_append
      repeat' (first | (apply T.sidx; apply rfl; apply rfl; omega; apply rfl; rw [hc]) | (apply T.sslice; apply rfl; apply rfl; apply rfl; omega; apply rfl; rw [hTd]) | (apply T.mv; apply rfl; apply rfl) | (apply T.asn; apply rfl; apply rfl) | (apply T.lss; apply rfl; apply rfl; apply rfl) | (apply T.geq; apply rfl; apply rfl; apply rfl) | (apply T.neq; apply rfl; apply rfl; apply rfl) | (apply T.pickT; apply rfl; apply rfl; apply rfl) | (apply T.pickF; apply rfl; apply rfl; apply rfl) | with_reducible refine Sr.nil ?_ | with_reducible refine S.seq ?_ | with_reducible refine S.block ?_ | with_reducible refine S.reg ?_ | with_reducible refine S.skip ?_ | (apply T.ungV; apply rfl; (first | with_reducible rfl | decide)) | (apply T.skip; apply rfl; (first | with_reducible rfl | decide); apply rfl) | (apply S.condFV; apply rfl; (first | with_reducible rfl | decide)) | (apply S.condQ; apply rfl; all_goals (intro _; try (exfalso; first | omega | with_reducible contradiction))) | (apply T.gcase; apply rfl; apply rfl; all_goals (intro _; try (exfalso; first | omega | with_reducible contradiction))) | fail)
      all_goals
        refine T.call rfl rfl (writeString_spec (BdOk.self b) (by omega)) ?_
        rintro _ _ ⟨na2, cp2, rfl, rfl⟩
        repeat' (first | (apply T.mv; apply rfl; apply rfl) | (apply T.asn; apply rfl; apply rfl) | (apply T.addI; apply rfl; apply rfl; omega; apply rfl) | with_reducible refine Sr.nil ?_ | with_reducible refine S.seq ?_ | with_reducible refine S.reg ?_ | (with_reducible apply T.ofRet) | fail)
        refine T.call rfl rfl (indexByte_spec (s := escL) (ch := ch)) ?_
        rintro _ _ ⟨rfl, rfl⟩
        rcases esc_at ch with ⟨e1, e2, e3, e4⟩ | ⟨k, e0, e1, e3⟩
        · all_goals try (exfalso; omega)
          all_goals
            have hlt : ch.toNat < 32 := by omega
            have e5 := e2 hlt
            have x1 := hexL_at (k := ch.toNat / 16) (by omega)
            have x2 := hexL_at (k := ch.toNat % 16) (by omega)
            rw [e1]
            repeat' (first | (apply T.mv; apply rfl; apply rfl) | (apply T.asn; apply rfl; apply rfl) | (apply T.geq; apply rfl; apply rfl; apply rfl) | with_reducible refine Sr.nil ?_ | with_reducible refine S.seq ?_ | with_reducible refine S.reg ?_ | (apply S.condFV; apply rfl; (first | with_reducible rfl | decide)) | (with_reducible apply T.ofRet) | fail)
            (apply S.draw; (case Hs => exact []); (case es => exact  [15]); (case n => exact  16); (case hn => rfl))
            repeat' (first | (apply T.bshr4; apply rfl; apply rfl) | (apply T.band15; apply rfl; apply rfl) | (apply T.badd1; apply rfl; omega; apply rfl) | (refine T.sslice (bs := hexL) (i := ch.toNat / 16) (j := ch.toNat / 16 + 1) rfl rfl rfl ⟨by omega, by show _ ≤ 16; omega⟩ rfl ?_; rw [x1]) | (refine T.sslice (bs := hexL) (i := ch.toNat % 16) (j := ch.toNat % 16 + 1) rfl rfl rfl ⟨by omega, by show _ ≤ 16; omega⟩ rfl ?_; rw [x2]) | (refine T.sadd (a := [92, 117, 48, 48]) (b := [hexD (ch.toNat / 16)]) rfl rfl (by show 4 + 1 ≤ _; omega) rfl ?_) | (refine T.sadd (b := [hexD (ch.toNat % 16)]) rfl rfl (by show 5 + 1 ≤ _; omega) rfl ?_) | (refine T.call rfl rfl (writeString_spec (BdOk.self b) (by rw [hyl]; show _ + 6 ≤ _; omega)) ?_; rintro _ _ ⟨na3, cp3, rfl, rfl⟩) | (apply T.mv; apply rfl; apply rfl) | (apply T.addI; apply rfl; apply rfl; omega; apply rfl) | with_reducible refine Sr.nil ?_ | with_reducible refine S.reg ?_ | with_reducible refine S.inBlock ?_ | (with_reducible apply T.ofRet) | (apply SA.qn; apply rfl; apply rfl; apply rfl; apply rfl; kernel_rfl) | (apply SA.en; apply rfl; apply rfl; kernel_rfl) | (apply SA.done; apply rfl; kernel_rfl) | (apply SK.intro; (first | exact fun _ h => h | exact fun _ h => St.psub h (by ((repeat (first | dsimp only [List.set_cons_zero] | dsimp only [List.set_cons_succ])); repeat' first | exact PSub.refl _ | exact PSub.nil | (apply PSub.take; (repeat' first | (with_reducible exact pick_hd) | (with_reducible apply pick_tl))) | (with_reducible apply PSub.drop) | ((apply PSub.take); (repeat' first | exact pick_hd | (apply pick_tl))))))) | fail)
            skip
            exact ih _ _ _ _ ⟨i + 1, i + 1, _, _, (ys ++ tl) ++ (([92, 117, 48, 48] ++ [hexD (ch.toNat / 16)]) ++ [hexD (ch.toNat % 16)]), A ++ tl ++ qB ch, rfl, rfl, ⟨h7, Nat.le_refl _, by rw [h3, e5]; simp, by rw [Nat.sub_self, List.take_zero, List.append_nil, hq]⟩, rfl⟩ (by omega) (by repeat' first | exact trivial | refine And.intro rfl ?_)
        · have hk1 : ((escT.drop k).take (k + 1 - k)).length ≤ 1 := by rw [List.length_take]; omega
          rw [e1]
          repeat' (first | (refine T.sslice (bs := escT) (i := k) (j := k + 1) rfl rfl rfl ⟨by omega, by show _ ≤ 7; omega⟩ rfl ?_) | (refine T.sadd (a := [92]) rfl rfl (by show 1 + _ ≤ _; omega) rfl ?_) | (apply T.mv; apply rfl; apply rfl) | (apply T.asn; apply rfl; apply rfl) | (apply T.geq; apply rfl; apply rfl; apply rfl) | (apply T.addI; apply rfl; apply rfl; omega; apply rfl) | with_reducible refine Sr.nil ?_ | with_reducible refine S.seq ?_ | with_reducible refine S.reg ?_ | (apply S.condQ; apply rfl; all_goals (intro _; try (exfalso; first | omega | with_reducible contradiction))) | (with_reducible apply T.ofRet) | fail)
          refine T.call rfl rfl (writeString_spec (BdOk.self b) (by rw [hyl, List.length_append]; show _ + (1 + _) ≤ _; omega)) ?_
          rintro _ _ ⟨na3, cp3, rfl, rfl⟩
          repeat' (first | (apply T.mv; apply rfl; apply rfl) | (apply T.addI; apply rfl; apply rfl; omega; apply rfl) | with_reducible refine Sr.nil ?_ | with_reducible refine S.reg ?_ | with_reducible refine S.inBlock ?_ | (with_reducible apply T.ofRet) | fail)
          exact ih _ _ _ _ ⟨i + 1, i + 1, _, _, (ys ++ tl) ++ ([92] ++ (escT.drop k).take (k + 1 - k)), A ++ tl ++ qB ch, rfl, rfl, ⟨h7, Nat.le_refl _, by rw [h3, e3]; simp, by rw [Nat.sub_self, List.take_zero, List.append_nil, hq]⟩, rfl⟩ (by omega) (by repeat' first | exact trivial | refine And.intro rfl ?_)
  · obtain rfl : i = s.length := by omega
    have h9 : (s.drop f).length = s.length - f := List.length_drop
    have h8 : (s.drop f).take (s.length - f) = s.drop f := by rw [← h9, List.take_length]
    rw [h8, List.take_length] at h4
    have h10 := congrArg List.length h4
    have h11 := flatMap_len qB_len s
    rw [List.length_append] at h10
    repeat' (first | (refine T.ssliceL (i := f) rfl rfl (by omega) rfl ?_) | (refine T.sadd rfl rfl (by show _ + 1 ≤ _; omega) rfl ?_) | (apply T.mv; apply rfl; apply rfl) | (apply T.lss; apply rfl; apply rfl; apply rfl) | with_reducible refine Sr.nil ?_ | with_reducible refine S.seq ?_ | with_reducible refine S.reg ?_ | (apply S.exit; apply rfl) | (apply S.condQ; apply rfl; all_goals (intro _; try (exfalso; first | omega | with_reducible contradiction))) | fail)
    refine T.call rfl rfl (writeString_spec (BdOk.self b) (by rw [List.length_append]; show _ + (_ + 1) ≤ _; omega)) ?_
    rintro _ _ ⟨na3, cp3, rfl, rfl⟩
    have h12 : ys ++ (s.drop f ++ [34]) = xs ++ quoS s := by rw [h3, quoS, ← h4]; simp
    repeat' (first | with_reducible refine Sr.nil ?_ | (apply T.doneW; apply rfl) | (with_reducible apply T.ofRet) | fail)
    exact ⟨_, PSub.refl _, _, _, rfl, by rw [← h12]⟩
end
end Go.Proofs.YtnimcchalinihaaDoor
/- The library's contract of utf8.ValidString, laid at this program (printed by the kit's tools). -/
namespace Go.Proofs
open Go.Shelf
def Tryd.lays196_ren : Go.Shelf.Ren := ⟨fun | 196 => 16 | 259 => 34 | n => n, fun | 9 => 9 | 4 => 4 | 3 => 3 | 5 => 5 | 12 => 12 | 119 => 75 | 0 => 0 | 46 => 79 | 139 => 78 | 138 => 77 | 53 => 101 | n => n, fun | 3 => 0 | 4 => 1 | n => n⟩
theorem Tryd.lays196 : Go.Proofs.Lays.n196 Tryd.prog Tryd.lays196_ren := {
  mixed := by kernel_rfl
  f196 := Tryd.func16.trans (congrArg some (by kernel_rfl))
  f259 := Tryd.func34.trans (congrArg some (by kernel_rfl))
  t0 := Tryd.underlying0
  a0 := Tryd.isAgg0
  z0 := Tryd.sizeOf0
  v0 := Tryd.zeroValue0
  t3 := Tryd.underlying3
  a3 := Tryd.isAgg3
  z3 := Tryd.sizeOf3
  v3 := Tryd.zeroValue3
  t4 := Tryd.underlying4
  a4 := Tryd.isAgg4
  z4 := Tryd.sizeOf4
  v4 := Tryd.zeroValue4
  t5 := Tryd.underlying5
  a5 := Tryd.isAgg5
  z5 := Tryd.sizeOf5
  v5 := Tryd.zeroValue5
  t9 := Tryd.underlying9
  a9 := Tryd.isAgg9
  z9 := Tryd.sizeOf9
  v9 := Tryd.zeroValue9
  t12 := Tryd.underlying12
  a12 := Tryd.isAgg12
  z12 := Tryd.sizeOf12
  v12 := Tryd.zeroValue12
  t46 := Tryd.underlying79
  a46 := Tryd.isAgg79
  z46 := Tryd.sizeOf79
  v46 := Tryd.zeroValue79
  t53 := Tryd.underlying101
  a53 := Tryd.isAgg101
  z53 := Tryd.sizeOf101
  v53 := Tryd.zeroValue101
  t119 := Tryd.underlying75
  a119 := Tryd.isAgg75
  z119 := Tryd.sizeOf75
  t138 := Tryd.underlying77
  a138 := Tryd.isAgg77
  z138 := Tryd.sizeOf77
  v138 := Tryd.zeroValue77
  t139 := Tryd.underlying78
  a139 := Tryd.isAgg78
  z139 := Tryd.sizeOf78
  v139 := Tryd.zeroValue78
  g3 := by kernel_rfl
  g4 := by kernel_rfl }
open Go.RowKit in
theorem Tryd.utf8_ValidString (s : ByteArray) (w : World) (hs : s.size ≤ 9223372036854775807) (hT : Lib.Utf8Tabs 0 1 w) :
    Calls Tryd.prog 16 #[.string s] w fun e w' => e = .returned (.bool (Lib.validD s.data.toList)) ∧ Below w.heap.size w w' := Any.utf8_ValidString Tryd.lays196 s w hs hT
end Go.Proofs
/- The walks of the program's looks at values: may a node stand there. -/
namespace Go.Proofs.YtnimcchalinihaaDoor
open Sg Go.IntWalk
set_option maxRecDepth 100000
set_option maxHeartbeats 4000000
section
variable {F : World} {M : List Nat} {H : List Res}
theorem validString_spec (hT : Tabs F M) {s : List UInt8} (hl : s.length ≤ 9223372036854775807) : Meets Tryd.prog 16 [sV s] F M H (fun e H' => e = .returned (.bool (Lib.validD s)) ∧ H' = H) := fun w hw =>
  (Tryd.utf8_ValidString (ByteArray.mk s.toArray) w (by simpa [ByteArray.size] using hl) (hT.met hw)).mono fun _ _ ⟨h1, h2⟩ => ⟨H, ⟨h1, rfl⟩, hw.below h2⟩
theorem plain_spec (hT : Tabs F M) {n : Nd} (hl : n.kind = 4 → n.text.length ≤ 1100000) (hl2 : n.text.length ≤ 9223372036854775807) : Meets Tryd.prog 52 [.agg ⟨ndV n⟩] F M H (fun e H' => e = .returned (.bool (plainX Lib.validD n)) ∧ H' = H) := by
  refine Meets.enter Tryd.func52 rfl rfl ?_
  unfold plainX
  by_cases h1 : n.kind < 1 ∨ 7 < n.kind ∨ n.kids < 0 ∨ (0 < n.kids ∧ n.kind ≠ 6 ∧ n.kind ≠ 7)
  · rw [if_pos h1]
    by_cases a1 : n.kind < 1
    · repeat' (first | (apply T.mv; apply rfl; apply rfl) | (apply T.asn; apply rfl; apply rfl) | (apply T.fieldAddrZ; apply rfl; apply rfl) | (apply T.load; apply rfl; apply rfl; infer_instance; apply rfl; apply rfl) | (apply T.lss; apply rfl; apply rfl; apply rfl) | (apply T.pickT; apply rfl; apply rfl; apply rfl) | (apply T.box; apply rfl; apply rfl; intro nb) | with_reducible refine Sr.nil ?_ | with_reducible refine S.seq ?_ | with_reducible refine S.block ?_ | with_reducible refine S.reg ?_ | (apply T.skip; apply rfl; (first | with_reducible rfl | decide); apply rfl) | (apply T.skipU; apply rfl; apply rfl) | (apply S.condTV; apply rfl; (first | with_reducible rfl | decide)) | (apply T.gcase; apply rfl; apply rfl; all_goals (intro _; try (exfalso; first | omega | with_reducible contradiction))) | (apply T.retW; apply rfl) | fail)
      exact ⟨_, PSub.drop (PSub.refl _), rfl, rfl⟩
    by_cases a2 : 7 < n.kind
    · repeat' (first | (apply T.mv; apply rfl; apply rfl) | (apply T.asn; apply rfl; apply rfl) | (apply T.fieldAddrZ; apply rfl; apply rfl) | (apply T.load; apply rfl; apply rfl; infer_instance; apply rfl; apply rfl) | (apply T.lss; apply rfl; apply rfl; apply rfl) | (apply T.gtr; apply rfl; apply rfl; apply rfl) | (apply T.pickT; apply rfl; apply rfl; apply rfl) | (apply T.pickF; apply rfl; apply rfl; apply rfl) | (apply T.box; apply rfl; apply rfl; intro nb) | with_reducible refine Sr.nil ?_ | with_reducible refine S.seq ?_ | with_reducible refine S.block ?_ | with_reducible refine S.reg ?_ | (apply T.ungV; apply rfl; (first | with_reducible rfl | decide)) | (apply T.skip; apply rfl; (first | with_reducible rfl | decide); apply rfl) | (apply T.skipU; apply rfl; apply rfl) | (apply S.condTV; apply rfl; (first | with_reducible rfl | decide)) | (apply T.gcase; apply rfl; apply rfl; all_goals (intro _; try (exfalso; first | omega | with_reducible contradiction))) | (apply T.retW; apply rfl) | fail)
      exact ⟨_, PSub.drop (PSub.refl _), rfl, rfl⟩
    by_cases a3 : n.kids < 0
    · repeat' (first | (apply T.mv; apply rfl; apply rfl) | (apply T.asn; apply rfl; apply rfl) | (apply T.fieldAddrZ; apply rfl; apply rfl) | (apply T.load; apply rfl; apply rfl; infer_instance; apply rfl; apply rfl) | (apply T.lss; apply rfl; apply rfl; apply rfl) | (apply T.gtr; apply rfl; apply rfl; apply rfl) | (apply T.pickT; apply rfl; apply rfl; apply rfl) | (apply T.pickF; apply rfl; apply rfl; apply rfl) | (apply T.box; apply rfl; apply rfl; intro nb) | with_reducible refine Sr.nil ?_ | with_reducible refine S.seq ?_ | with_reducible refine S.block ?_ | with_reducible refine S.reg ?_ | (apply T.ungV; apply rfl; (first | with_reducible rfl | decide)) | (apply T.skip; apply rfl; (first | with_reducible rfl | decide); apply rfl) | (apply T.skipU; apply rfl; apply rfl) | (apply S.condTV; apply rfl; (first | with_reducible rfl | decide)) | (apply T.gcase; apply rfl; apply rfl; all_goals (intro _; try (exfalso; first | omega | with_reducible contradiction))) | (apply T.retW; apply rfl) | fail)
      exact ⟨_, PSub.drop (PSub.refl _), rfl, rfl⟩
    have a4 : 0 < n.kids := by omega
    have a5 : ¬ n.kind = 6 := by omega
    have a6 : ¬ n.kind = 7 := by omega
    repeat' (first | (apply T.mv; apply rfl; apply rfl) | (apply T.asn; apply rfl; apply rfl) | (apply T.fieldAddrZ; apply rfl; apply rfl) | (apply T.load; apply rfl; apply rfl; infer_instance; apply rfl; apply rfl) | (apply T.lss; apply rfl; apply rfl; apply rfl) | (apply T.gtr; apply rfl; apply rfl; apply rfl) | (apply T.neq; apply rfl; apply rfl; apply rfl) | (apply T.pickT; apply rfl; apply rfl; apply rfl) | (apply T.pickF; apply rfl; apply rfl; apply rfl) | (apply T.box; apply rfl; apply rfl; intro nb) | with_reducible refine Sr.nil ?_ | with_reducible refine S.seq ?_ | with_reducible refine S.block ?_ | with_reducible refine S.reg ?_ | (apply T.ungV; apply rfl; (first | with_reducible rfl | decide)) | (apply S.condQ; apply rfl; all_goals (intro _; try (exfalso; first | omega | with_reducible contradiction))) | (apply T.gcase; apply rfl; apply rfl; all_goals (intro _; try (exfalso; first | omega | with_reducible contradiction))) | (apply T.retW; apply rfl) | fail)
    exact ⟨_, PSub.drop (PSub.refl _), rfl, rfl⟩
  rw [if_neg h1]
  have b1 : ¬ n.kind < 1 := fun h => h1 (.inl h)
  have b2 : ¬ 7 < n.kind := fun h => h1 (.inr (.inl h))
  have b3 : ¬ n.kids < 0 := fun h => h1 (.inr (.inr (.inl h)))
  have b4 : ¬ 0 < n.kids ∨ n.kind = 6 ∨ n.kind = 7 := by omega
  by_cases c1 : n.kind = 4
  · rw [if_pos c1]
    have c6 : ¬ n.kind = 6 := by omega
    have c7 : ¬ n.kind = 7 := by omega
    have c0 : ¬ 0 < n.kids := by omega
    repeat' (first | (apply T.mv; apply rfl; apply rfl) | (apply T.asn; apply rfl; apply rfl) | (apply T.fieldAddrZ; apply rfl; apply rfl) | (apply T.load; apply rfl; apply rfl; infer_instance; apply rfl; apply rfl) | (apply T.lss; apply rfl; apply rfl; apply rfl) | (apply T.gtr; apply rfl; apply rfl; apply rfl) | (apply T.eql; apply rfl; apply rfl; apply rfl) | (apply T.pickF; apply rfl; apply rfl; apply rfl) | (apply T.box; apply rfl; apply rfl; intro nb) | with_reducible refine Sr.nil ?_ | with_reducible refine S.seq ?_ | with_reducible refine S.block ?_ | with_reducible refine S.reg ?_ | (apply T.ungV; apply rfl; (first | with_reducible rfl | decide)) | (apply T.skip; apply rfl; (first | with_reducible rfl | decide); apply rfl) | (apply S.condFV; apply rfl; (first | with_reducible rfl | decide)) | (apply S.condQ; apply rfl; all_goals (intro _; try (exfalso; first | omega | with_reducible contradiction))) | (apply T.gcase; apply rfl; apply rfl; all_goals (intro _; try (exfalso; first | omega | with_reducible contradiction))) | fail)
    refine T.call rfl rfl (whole_spec (hl c1)) ?_
    rintro _ _ ⟨rfl, rfl⟩
    repeat' (first | (apply T.mv; apply rfl; apply rfl) | (apply T.asn; apply rfl; apply rfl) | (apply T.fieldAddrZ; apply rfl; apply rfl) | (apply T.load; apply rfl; apply rfl; infer_instance; apply rfl; apply rfl) | (apply T.extract; apply rfl; apply rfl; apply rfl) | with_reducible refine Sr.nil ?_ | with_reducible refine S.seq ?_ | with_reducible refine S.reg ?_ | (with_reducible apply T.ofRet) | fail)
    refine T.call rfl rfl (valid_spec (hl c1)) ?_
    rintro _ _ ⟨rfl, rfl⟩
    cases d1 : (numP n.text).isSome with
    | false =>
      repeat' (first | (apply T.mv; apply rfl; apply rfl) | (apply T.asn; apply rfl; apply rfl) | (apply T.pickF; apply rfl; apply rfl; apply rfl) | with_reducible refine Sr.nil ?_ | (apply T.skip; apply rfl; (first | with_reducible rfl | decide); apply rfl) | (apply T.retW; apply rfl) | (with_reducible apply T.ofRet) | fail)
      exact ⟨_, PSub.drop (PSub.refl _), rfl, rfl⟩
    | true =>
      repeat' (first | (apply T.mv; apply rfl; apply rfl) | (apply T.fieldAddrZ; apply rfl; apply rfl) | (apply T.load; apply rfl; apply rfl; infer_instance; apply rfl; apply rfl) | (apply T.ungV; apply rfl; (first | with_reducible rfl | decide)) | (with_reducible apply T.ofRet) | fail)
      cases w1 : n.whole <;> cases w2 : (wholeX n.text).2
      all_goals
        by_cases w3 : n.int = (wholeX n.text).1
        · repeat' (first | (apply T.eqlB; apply rfl; apply rfl; apply rfl; first | rw [show (true == true) = true from rfl] | rw [show (false == false) = true from rfl] | rw [show (true == false) = false from rfl] | rw [show (false == true) = false from rfl]) | (apply T.mv; apply rfl; apply rfl) | (apply T.asn; apply rfl; apply rfl) | (apply T.fieldAddrZ; apply rfl; apply rfl) | (apply T.load; apply rfl; apply rfl; infer_instance; apply rfl; apply rfl) | (apply T.eql; apply rfl; apply rfl; apply rfl) | (apply T.pickT; apply rfl; apply rfl; apply rfl) | (apply T.pickF; apply rfl; apply rfl; apply rfl) | with_reducible refine Sr.nil ?_ | (apply T.ungV; apply rfl; (first | with_reducible rfl | decide)) | (apply T.skip; apply rfl; (first | with_reducible rfl | decide); apply rfl) | (apply T.retW; apply rfl) | fail)
          all_goals
            refine ⟨_, PSub.drop (PSub.refl _), ?_, rfl⟩
            first | (simp [w3]; done) | simp
        · repeat' (first | (apply T.eqlB; apply rfl; apply rfl; apply rfl; first | rw [show (true == true) = true from rfl] | rw [show (false == false) = true from rfl] | rw [show (true == false) = false from rfl] | rw [show (false == true) = false from rfl]) | (apply T.mv; apply rfl; apply rfl) | (apply T.asn; apply rfl; apply rfl) | (apply T.fieldAddrZ; apply rfl; apply rfl) | (apply T.load; apply rfl; apply rfl; infer_instance; apply rfl; apply rfl) | (apply T.eql; apply rfl; apply rfl; apply rfl) | (apply T.pickT; apply rfl; apply rfl; apply rfl) | (apply T.pickF; apply rfl; apply rfl; apply rfl) | with_reducible refine Sr.nil ?_ | (apply T.ungV; apply rfl; (first | with_reducible rfl | decide)) | (apply T.skip; apply rfl; (first | with_reducible rfl | decide); apply rfl) | (apply T.retW; apply rfl) | fail)
          all_goals
            refine ⟨_, PSub.drop (PSub.refl _), ?_, rfl⟩
            first | (simp [w3]; done) | simp
  · rw [if_neg c1]
    by_cases c2 : n.whole = true
    · rw [if_pos (.inl c2)]
      by_cases c6 : n.kind = 6
      · repeat' (first | (apply T.mv; apply rfl; apply rfl) | (apply T.asn; apply rfl; apply rfl) | (apply T.fieldAddrZ; apply rfl; apply rfl) | (apply T.load; apply rfl; apply rfl; infer_instance; apply rfl; apply rfl) | (apply T.lss; apply rfl; apply rfl; apply rfl) | (apply T.gtr; apply rfl; apply rfl; apply rfl) | (apply T.eql; apply rfl; apply rfl; apply rfl) | (apply T.neq; apply rfl; apply rfl; apply rfl) | (apply T.pickT; apply rfl; apply rfl; apply rfl) | (apply T.pickF; apply rfl; apply rfl; apply rfl) | (apply T.box; apply rfl; apply rfl; intro nb) | with_reducible refine Sr.nil ?_ | with_reducible refine S.seq ?_ | with_reducible refine S.block ?_ | with_reducible refine S.reg ?_ | (apply T.ungV; apply rfl; (first | with_reducible rfl | decide)) | (apply T.skip; apply rfl; (first | with_reducible rfl | decide); apply rfl) | (apply S.condFV; apply rfl; (first | with_reducible rfl | decide)) | (apply S.condQ; apply rfl; all_goals (intro _; try (exfalso; first | omega | with_reducible contradiction))) | (apply T.gcase; apply rfl; apply rfl; all_goals (intro _; try (exfalso; first | omega | with_reducible contradiction))) | fail)
        all_goals
          rw [c2]
          repeat' (first | (apply T.asn; apply rfl; apply rfl) | (apply T.pickT; apply rfl; apply rfl; apply rfl) | with_reducible refine Sr.nil ?_ | with_reducible refine S.seq ?_ | with_reducible refine S.reg ?_ | (apply T.skip; apply rfl; (first | with_reducible rfl | decide); apply rfl) | (apply S.condTV; apply rfl; (first | with_reducible rfl | decide)) | (apply T.retW; apply rfl) | fail)
          exact ⟨_, PSub.drop (PSub.refl _), rfl, rfl⟩
      by_cases c7 : n.kind = 7
      · repeat' (first | (apply T.mv; apply rfl; apply rfl) | (apply T.asn; apply rfl; apply rfl) | (apply T.fieldAddrZ; apply rfl; apply rfl) | (apply T.load; apply rfl; apply rfl; infer_instance; apply rfl; apply rfl) | (apply T.lss; apply rfl; apply rfl; apply rfl) | (apply T.gtr; apply rfl; apply rfl; apply rfl) | (apply T.eql; apply rfl; apply rfl; apply rfl) | (apply T.neq; apply rfl; apply rfl; apply rfl) | (apply T.pickT; apply rfl; apply rfl; apply rfl) | (apply T.pickF; apply rfl; apply rfl; apply rfl) | (apply T.box; apply rfl; apply rfl; intro nb) | with_reducible refine Sr.nil ?_ | with_reducible refine S.seq ?_ | with_reducible refine S.block ?_ | with_reducible refine S.reg ?_ | (apply T.ungV; apply rfl; (first | with_reducible rfl | decide)) | (apply T.skip; apply rfl; (first | with_reducible rfl | decide); apply rfl) | (apply S.condFV; apply rfl; (first | with_reducible rfl | decide)) | (apply S.condQ; apply rfl; all_goals (intro _; try (exfalso; first | omega | with_reducible contradiction))) | (apply T.gcase; apply rfl; apply rfl; all_goals (intro _; try (exfalso; first | omega | with_reducible contradiction))) | fail)
        all_goals
          rw [c2]
          repeat' (first | (apply T.asn; apply rfl; apply rfl) | (apply T.pickT; apply rfl; apply rfl; apply rfl) | with_reducible refine Sr.nil ?_ | with_reducible refine S.seq ?_ | with_reducible refine S.reg ?_ | (apply T.skip; apply rfl; (first | with_reducible rfl | decide); apply rfl) | (apply S.condTV; apply rfl; (first | with_reducible rfl | decide)) | (apply T.retW; apply rfl) | fail)
          exact ⟨_, PSub.drop (PSub.refl _), rfl, rfl⟩
      have c0 : ¬ 0 < n.kids := by omega
      repeat' (first | (apply T.mv; apply rfl; apply rfl) | (apply T.asn; apply rfl; apply rfl) | (apply T.fieldAddrZ; apply rfl; apply rfl) | (apply T.load; apply rfl; apply rfl; infer_instance; apply rfl; apply rfl) | (apply T.lss; apply rfl; apply rfl; apply rfl) | (apply T.gtr; apply rfl; apply rfl; apply rfl) | (apply T.eql; apply rfl; apply rfl; apply rfl) | (apply T.pickF; apply rfl; apply rfl; apply rfl) | (apply T.box; apply rfl; apply rfl; intro nb) | with_reducible refine Sr.nil ?_ | with_reducible refine S.seq ?_ | with_reducible refine S.block ?_ | with_reducible refine S.reg ?_ | (apply T.ungV; apply rfl; (first | with_reducible rfl | decide)) | (apply T.skip; apply rfl; (first | with_reducible rfl | decide); apply rfl) | (apply S.condFV; apply rfl; (first | with_reducible rfl | decide)) | (apply S.condQ; apply rfl; all_goals (intro _; try (exfalso; first | omega | with_reducible contradiction))) | (apply T.gcase; apply rfl; apply rfl; all_goals (intro _; try (exfalso; first | omega | with_reducible contradiction))) | fail)
      all_goals
        rw [c2]
        repeat' (first | (apply T.asn; apply rfl; apply rfl) | (apply T.pickT; apply rfl; apply rfl; apply rfl) | with_reducible refine Sr.nil ?_ | with_reducible refine S.seq ?_ | with_reducible refine S.reg ?_ | (apply T.skip; apply rfl; (first | with_reducible rfl | decide); apply rfl) | (apply S.condTV; apply rfl; (first | with_reducible rfl | decide)) | (apply T.retW; apply rfl) | fail)
        exact ⟨_, PSub.drop (PSub.refl _), rfl, rfl⟩
    have c2' : n.whole = false := by simpa using c2
    by_cases c3 : n.int = 0
    · rw [if_neg (fun h => h.elim c2 (fun h => h c3))]
      by_cases c5 : n.kind = 5
      · rw [if_pos c5]
        have c6 : ¬ n.kind = 6 := by omega
        have c7 : ¬ n.kind = 7 := by omega
        have c0 : ¬ 0 < n.kids := by omega
        repeat' (first | (apply T.mv; apply rfl; apply rfl) | (apply T.asn; apply rfl; apply rfl) | (apply T.fieldAddrZ; apply rfl; apply rfl) | (apply T.load; apply rfl; apply rfl; infer_instance; apply rfl; apply rfl) | (apply T.lss; apply rfl; apply rfl; apply rfl) | (apply T.gtr; apply rfl; apply rfl; apply rfl) | (apply T.eql; apply rfl; apply rfl; apply rfl) | (apply T.pickF; apply rfl; apply rfl; apply rfl) | (apply T.box; apply rfl; apply rfl; intro nb) | with_reducible refine Sr.nil ?_ | with_reducible refine S.seq ?_ | with_reducible refine S.block ?_ | with_reducible refine S.reg ?_ | (apply T.ungV; apply rfl; (first | with_reducible rfl | decide)) | (apply T.skip; apply rfl; (first | with_reducible rfl | decide); apply rfl) | (apply S.condFV; apply rfl; (first | with_reducible rfl | decide)) | (apply S.condQ; apply rfl; all_goals (intro _; try (exfalso; first | omega | with_reducible contradiction))) | (apply T.gcase; apply rfl; apply rfl; all_goals (intro _; try (exfalso; first | omega | with_reducible contradiction))) | fail)
        rw [c2']
        repeat' (first | (apply T.asn; apply rfl; apply rfl) | (apply T.fieldAddrZ; apply rfl; apply rfl) | (apply T.load; apply rfl; apply rfl; infer_instance; apply rfl; apply rfl) | (apply T.eql; apply rfl; apply rfl; apply rfl) | (apply T.neq; apply rfl; apply rfl; apply rfl) | (apply T.pickF; apply rfl; apply rfl; apply rfl) | with_reducible refine Sr.nil ?_ | with_reducible refine S.seq ?_ | with_reducible refine S.reg ?_ | (apply T.ungV; apply rfl; (first | with_reducible rfl | decide)) | (apply S.condQ; apply rfl; all_goals (intro _; try (exfalso; first | omega | with_reducible contradiction))) | fail)
        refine T.call rfl rfl (validString_spec hT (by omega)) ?_
        rintro _ _ ⟨rfl, rfl⟩
        repeat' (first | (apply T.asn; apply rfl; apply rfl) | with_reducible refine Sr.nil ?_ | (apply T.retW; apply rfl) | (with_reducible apply T.ofRet) | fail)
        exact ⟨_, PSub.drop (PSub.refl _), rfl, rfl⟩
      rw [if_neg c5]
      by_cases c6 : n.kind = 6
      · repeat' (first | (apply T.mv; apply rfl; apply rfl) | (apply T.asn; apply rfl; apply rfl) | (apply T.fieldAddrZ; apply rfl; apply rfl) | (apply T.load; apply rfl; apply rfl; infer_instance; apply rfl; apply rfl) | (apply T.lss; apply rfl; apply rfl; apply rfl) | (apply T.gtr; apply rfl; apply rfl; apply rfl) | (apply T.eql; apply rfl; apply rfl; apply rfl) | (apply T.neq; apply rfl; apply rfl; apply rfl) | (apply T.pickT; apply rfl; apply rfl; apply rfl) | (apply T.pickF; apply rfl; apply rfl; apply rfl) | (apply T.box; apply rfl; apply rfl; intro nb) | with_reducible refine Sr.nil ?_ | with_reducible refine S.seq ?_ | with_reducible refine S.block ?_ | with_reducible refine S.reg ?_ | (apply T.ungV; apply rfl; (first | with_reducible rfl | decide)) | (apply T.skip; apply rfl; (first | with_reducible rfl | decide); apply rfl) | (apply S.condFV; apply rfl; (first | with_reducible rfl | decide)) | (apply S.condQ; apply rfl; all_goals (intro _; try (exfalso; first | omega | with_reducible contradiction))) | (apply T.gcase; apply rfl; apply rfl; all_goals (intro _; try (exfalso; first | omega | with_reducible contradiction))) | fail)
        all_goals
          rw [c2']
          repeat' (first | (apply T.seql; apply rfl; apply rfl; apply rfl) | (apply T.asn; apply rfl; apply rfl) | (apply T.fieldAddrZ; apply rfl; apply rfl) | (apply T.load; apply rfl; apply rfl; infer_instance; apply rfl; apply rfl) | (apply T.eql; apply rfl; apply rfl; apply rfl) | (apply T.neq; apply rfl; apply rfl; apply rfl) | (apply T.pickF; apply rfl; apply rfl; apply rfl) | with_reducible refine Sr.nil ?_ | with_reducible refine S.seq ?_ | with_reducible refine S.reg ?_ | with_reducible refine S.skip ?_ | with_reducible refine S.inBlock ?_ | (apply T.ungV; apply rfl; (first | with_reducible rfl | decide)) | (apply S.condQ; apply rfl; all_goals (intro _; try (exfalso; first | omega | with_reducible contradiction))) | (apply T.retW; apply rfl) | fail)
          exact ⟨_, PSub.drop (PSub.refl _), rfl, rfl⟩
      by_cases c7 : n.kind = 7
      · repeat' (first | (apply T.mv; apply rfl; apply rfl) | (apply T.asn; apply rfl; apply rfl) | (apply T.fieldAddrZ; apply rfl; apply rfl) | (apply T.load; apply rfl; apply rfl; infer_instance; apply rfl; apply rfl) | (apply T.lss; apply rfl; apply rfl; apply rfl) | (apply T.gtr; apply rfl; apply rfl; apply rfl) | (apply T.eql; apply rfl; apply rfl; apply rfl) | (apply T.neq; apply rfl; apply rfl; apply rfl) | (apply T.pickT; apply rfl; apply rfl; apply rfl) | (apply T.pickF; apply rfl; apply rfl; apply rfl) | (apply T.box; apply rfl; apply rfl; intro nb) | with_reducible refine Sr.nil ?_ | with_reducible refine S.seq ?_ | with_reducible refine S.block ?_ | with_reducible refine S.reg ?_ | (apply T.ungV; apply rfl; (first | with_reducible rfl | decide)) | (apply T.skip; apply rfl; (first | with_reducible rfl | decide); apply rfl) | (apply S.condFV; apply rfl; (first | with_reducible rfl | decide)) | (apply S.condQ; apply rfl; all_goals (intro _; try (exfalso; first | omega | with_reducible contradiction))) | (apply T.gcase; apply rfl; apply rfl; all_goals (intro _; try (exfalso; first | omega | with_reducible contradiction))) | fail)
        all_goals
          rw [c2']
          repeat' (first | (apply T.seql; apply rfl; apply rfl; apply rfl) | (apply T.asn; apply rfl; apply rfl) | (apply T.fieldAddrZ; apply rfl; apply rfl) | (apply T.load; apply rfl; apply rfl; infer_instance; apply rfl; apply rfl) | (apply T.eql; apply rfl; apply rfl; apply rfl) | (apply T.neq; apply rfl; apply rfl; apply rfl) | (apply T.pickF; apply rfl; apply rfl; apply rfl) | with_reducible refine Sr.nil ?_ | with_reducible refine S.seq ?_ | with_reducible refine S.reg ?_ | with_reducible refine S.skip ?_ | with_reducible refine S.inBlock ?_ | (apply T.ungV; apply rfl; (first | with_reducible rfl | decide)) | (apply S.condQ; apply rfl; all_goals (intro _; try (exfalso; first | omega | with_reducible contradiction))) | (apply T.retW; apply rfl) | fail)
          exact ⟨_, PSub.drop (PSub.refl _), rfl, rfl⟩
      have c0 : ¬ 0 < n.kids := by omega
      repeat' (first | (apply T.mv; apply rfl; apply rfl) | (apply T.asn; apply rfl; apply rfl) | (apply T.fieldAddrZ; apply rfl; apply rfl) | (apply T.load; apply rfl; apply rfl; infer_instance; apply rfl; apply rfl) | (apply T.lss; apply rfl; apply rfl; apply rfl) | (apply T.gtr; apply rfl; apply rfl; apply rfl) | (apply T.eql; apply rfl; apply rfl; apply rfl) | (apply T.pickF; apply rfl; apply rfl; apply rfl) | (apply T.box; apply rfl; apply rfl; intro nb) | with_reducible refine Sr.nil ?_ | with_reducible refine S.seq ?_ | with_reducible refine S.block ?_ | with_reducible refine S.reg ?_ | (apply T.ungV; apply rfl; (first | with_reducible rfl | decide)) | (apply T.skip; apply rfl; (first | with_reducible rfl | decide); apply rfl) | (apply S.condFV; apply rfl; (first | with_reducible rfl | decide)) | (apply S.condQ; apply rfl; all_goals (intro _; try (exfalso; first | omega | with_reducible contradiction))) | (apply T.gcase; apply rfl; apply rfl; all_goals (intro _; try (exfalso; first | omega | with_reducible contradiction))) | fail)
      all_goals
        rw [c2']
        repeat' (first | (apply T.seql; apply rfl; apply rfl; apply rfl) | (apply T.asn; apply rfl; apply rfl) | (apply T.fieldAddrZ; apply rfl; apply rfl) | (apply T.load; apply rfl; apply rfl; infer_instance; apply rfl; apply rfl) | (apply T.eql; apply rfl; apply rfl; apply rfl) | (apply T.neq; apply rfl; apply rfl; apply rfl) | (apply T.pickF; apply rfl; apply rfl; apply rfl) | with_reducible refine Sr.nil ?_ | with_reducible refine S.seq ?_ | with_reducible refine S.reg ?_ | with_reducible refine S.skip ?_ | with_reducible refine S.inBlock ?_ | (apply T.ungV; apply rfl; (first | with_reducible rfl | decide)) | (apply S.condQ; apply rfl; all_goals (intro _; try (exfalso; first | omega | with_reducible contradiction))) | (apply T.retW; apply rfl) | fail)
        exact ⟨_, PSub.drop (PSub.refl _), rfl, rfl⟩
    · rw [if_pos (.inr c3)]
      by_cases c6 : n.kind = 6
      · repeat' (first | (apply T.mv; apply rfl; apply rfl) | (apply T.asn; apply rfl; apply rfl) | (apply T.fieldAddrZ; apply rfl; apply rfl) | (apply T.load; apply rfl; apply rfl; infer_instance; apply rfl; apply rfl) | (apply T.lss; apply rfl; apply rfl; apply rfl) | (apply T.gtr; apply rfl; apply rfl; apply rfl) | (apply T.eql; apply rfl; apply rfl; apply rfl) | (apply T.neq; apply rfl; apply rfl; apply rfl) | (apply T.pickT; apply rfl; apply rfl; apply rfl) | (apply T.pickF; apply rfl; apply rfl; apply rfl) | (apply T.box; apply rfl; apply rfl; intro nb) | with_reducible refine Sr.nil ?_ | with_reducible refine S.seq ?_ | with_reducible refine S.block ?_ | with_reducible refine S.reg ?_ | (apply T.ungV; apply rfl; (first | with_reducible rfl | decide)) | (apply T.skip; apply rfl; (first | with_reducible rfl | decide); apply rfl) | (apply S.condFV; apply rfl; (first | with_reducible rfl | decide)) | (apply S.condQ; apply rfl; all_goals (intro _; try (exfalso; first | omega | with_reducible contradiction))) | (apply T.gcase; apply rfl; apply rfl; all_goals (intro _; try (exfalso; first | omega | with_reducible contradiction))) | fail)
        all_goals
          rw [c2']
          repeat' (first | (apply T.asn; apply rfl; apply rfl) | (apply T.fieldAddrZ; apply rfl; apply rfl) | (apply T.load; apply rfl; apply rfl; infer_instance; apply rfl; apply rfl) | (apply T.neq; apply rfl; apply rfl; apply rfl) | (apply T.pickF; apply rfl; apply rfl; apply rfl) | with_reducible refine Sr.nil ?_ | with_reducible refine S.seq ?_ | with_reducible refine S.reg ?_ | (apply T.ungV; apply rfl; (first | with_reducible rfl | decide)) | (apply S.condQ; apply rfl; all_goals (intro _; try (exfalso; first | omega | with_reducible contradiction))) | (apply T.retW; apply rfl) | fail)
          exact ⟨_, PSub.drop (PSub.refl _), rfl, rfl⟩
      by_cases c7 : n.kind = 7
      · repeat' (first | (apply T.mv; apply rfl; apply rfl) | (apply T.asn; apply rfl; apply rfl) | (apply T.fieldAddrZ; apply rfl; apply rfl) | (apply T.load; apply rfl; apply rfl; infer_instance; apply rfl; apply rfl) | (apply T.lss; apply rfl; apply rfl; apply rfl) | (apply T.gtr; apply rfl; apply rfl; apply rfl) | (apply T.eql; apply rfl; apply rfl; apply rfl) | (apply T.neq; apply rfl; apply rfl; apply rfl) | (apply T.pickT; apply rfl; apply rfl; apply rfl) | (apply T.pickF; apply rfl; apply rfl; apply rfl) | (apply T.box; apply rfl; apply rfl; intro nb) | with_reducible refine Sr.nil ?_ | with_reducible refine S.seq ?_ | with_reducible refine S.block ?_ | with_reducible refine S.reg ?_ | (apply T.ungV; apply rfl; (first | with_reducible rfl | decide)) | (apply T.skip; apply rfl; (first | with_reducible rfl | decide); apply rfl) | (apply S.condFV; apply rfl; (first | with_reducible rfl | decide)) | (apply S.condQ; apply rfl; all_goals (intro _; try (exfalso; first | omega | with_reducible contradiction))) | (apply T.gcase; apply rfl; apply rfl; all_goals (intro _; try (exfalso; first | omega | with_reducible contradiction))) | fail)
        all_goals
          rw [c2']
          repeat' (first | (apply T.asn; apply rfl; apply rfl) | (apply T.fieldAddrZ; apply rfl; apply rfl) | (apply T.load; apply rfl; apply rfl; infer_instance; apply rfl; apply rfl) | (apply T.neq; apply rfl; apply rfl; apply rfl) | (apply T.pickF; apply rfl; apply rfl; apply rfl) | with_reducible refine Sr.nil ?_ | with_reducible refine S.seq ?_ | with_reducible refine S.reg ?_ | (apply T.ungV; apply rfl; (first | with_reducible rfl | decide)) | (apply S.condQ; apply rfl; all_goals (intro _; try (exfalso; first | omega | with_reducible contradiction))) | (apply T.retW; apply rfl) | fail)
          exact ⟨_, PSub.drop (PSub.refl _), rfl, rfl⟩
      have c0 : ¬ 0 < n.kids := by omega
      repeat' (first | (apply T.mv; apply rfl; apply rfl) | (apply T.asn; apply rfl; apply rfl) | (apply T.fieldAddrZ; apply rfl; apply rfl) | (apply T.load; apply rfl; apply rfl; infer_instance; apply rfl; apply rfl) | (apply T.lss; apply rfl; apply rfl; apply rfl) | (apply T.gtr; apply rfl; apply rfl; apply rfl) | (apply T.eql; apply rfl; apply rfl; apply rfl) | (apply T.pickF; apply rfl; apply rfl; apply rfl) | (apply T.box; apply rfl; apply rfl; intro nb) | with_reducible refine Sr.nil ?_ | with_reducible refine S.seq ?_ | with_reducible refine S.block ?_ | with_reducible refine S.reg ?_ | (apply T.ungV; apply rfl; (first | with_reducible rfl | decide)) | (apply T.skip; apply rfl; (first | with_reducible rfl | decide); apply rfl) | (apply S.condFV; apply rfl; (first | with_reducible rfl | decide)) | (apply S.condQ; apply rfl; all_goals (intro _; try (exfalso; first | omega | with_reducible contradiction))) | (apply T.gcase; apply rfl; apply rfl; all_goals (intro _; try (exfalso; first | omega | with_reducible contradiction))) | fail)
      all_goals
        rw [c2']
        repeat' (first | (apply T.asn; apply rfl; apply rfl) | (apply T.fieldAddrZ; apply rfl; apply rfl) | (apply T.load; apply rfl; apply rfl; infer_instance; apply rfl; apply rfl) | (apply T.neq; apply rfl; apply rfl; apply rfl) | (apply T.pickF; apply rfl; apply rfl; apply rfl) | with_reducible refine Sr.nil ?_ | with_reducible refine S.seq ?_ | with_reducible refine S.reg ?_ | (apply T.ungV; apply rfl; (first | with_reducible rfl | decide)) | (apply S.condQ; apply rfl; all_goals (intro _; try (exfalso; first | omega | with_reducible contradiction))) | (apply T.retW; apply rfl) | fail)
        exact ⟨_, PSub.drop (PSub.refl _), rfl, rfl⟩
end
end Go.Proofs.YtnimcchalinihaaDoor
/- The stack of levels that the program's look at a value keeps: its row, its maps. -/
namespace Sg
open Go Go.RowKit
theorem shrinkN_owns {w : World} {E : TypeId} {n cp sz : Nat} {a : Option Addr} {xs vs : List Value} (hz : vs.length = sz) (h : w.ownsRow 0 E sz (.slice a (n + 1) cp) (n + 1) (xs ++ vs)) : w.ownsRow 0 E sz (.slice a n cp) n xs := by
  obtain ⟨h1, h2⟩ := h
  have h3 : xs.length = n * sz := by
    rw [List.length_append, hz, Nat.add_mul, Nat.one_mul] at h1
    omega
  refine ⟨h3, ?_⟩
  rcases h2 with ⟨_, h0⟩ | ⟨g, cap, cur, hv, hg, hh, hn, hm, hs, ht⟩
  · omega
  · simp only [Value.slice.injEq] at hv
    obtain ⟨rfl, _, rfl⟩ := hv
    refine .inr ⟨g, cp, cur, rfl, hg, hh, by omega, hm, hs, ?_⟩
    have := congrArg (List.take (n * sz)) ht
    rw [List.take_take, Nat.min_eq_left (Nat.mul_le_mul_right _ (Nat.le_succ n))] at this
    rw [this, List.take_append_of_le_length (by omega), List.take_of_length_le (by omega)]
theorem St.shrinkN {F : World} {M : List Nat} {w : World} {H : List Res} {a : Option Addr} {cp n sz : Nat} {E : TypeId} {xs vs : List Value} (hz : vs.length = sz) (h : St F M w (.row a cp E sz (n + 1) (xs ++ vs) :: H)) : St F M w (.row a cp E sz n xs :: H) :=
  h.turn rfl rfl rfl (Nat.le_refl _) (fun _ _ _ => rfl) (shrinkN_owns hz (h.res _ (List.mem_cons_self ..))) (fun b hb => .inl hb) (by cases a <;> simp [Res.foot])
section
variable {c : Ctx} {ds : List Deferred} {H : List Res} {ops : Array Oper} {l : List Oper} {κ : List Res → Env → Prop} {q : Mode} {e : Env} {ty : TypeId} {pos : String} {aft : Array Edge}
/-- Ahead of a `refine` among alternatives: it looks whether the goal is a row of operations at all. -/
theorem Sr.same (h : Sr q c ds H ops l κ e) : Sr q c ds H ops l κ e := h
theorem T.nilCheckS {x : Operand} {d : Tmp} {g : Addr} {i sz f : Nat} (hx : ev e x = some (.pointer (faddr (some g) i sz f))) (hlt : Nat.blt d c.fn.ntmps = true) (hk : Sr q c ds H ops l κ ((d, .pointer (faddr (some g) i sz f)) :: e)) : Sr q c ds H ops (⟨some d, .nilCheck x, ty, pos, aft, none⟩ :: l) κ e :=
  Sr.p (Pu.nilCheck (show ev e x = some (.pointer (some _)) from hx)) rfl hlt rfl hk
theorem T.fieldAddrS {x : Operand} {d : Tmp} {b o i sz f fi fo : Nat} {t : TypeId} [HFd c.P t fi fo] (hx : ev e x = some (.pointer (faddr (some ⟨b, o, none⟩) i sz f))) (hlt : Nat.blt d c.fn.ntmps = true) (hk : Sr q c ds H ops l κ ((d, .pointer (faddr (some ⟨b, o, none⟩) i sz (f + fo))) :: e)) :
    Sr q c ds H ops (⟨some d, .fieldAddr t x fi, ty, pos, aft, none⟩ :: l) κ e := by
  have h0 : ∀ k, faddr (some ⟨b, o, none⟩) i sz k = some ⟨b, o + (i * sz + k), none⟩ := fun k => by simp [faddr, eaddr, addr_add]
  rw [h0] at hx hk
  have h : Pu c H e ⟨some d, .fieldAddr t x fi, ty, pos, aft, none⟩ (.pointer (some ⟨b, o + (i * sz + f) + fo, none⟩)) := Pu.fieldAddr hx
  rw [show (⟨b, o + (i * sz + f) + fo, none⟩ : Addr) = ⟨b, o + (i * sz + (f + fo)), none⟩ by rw [Nat.add_assoc, Nat.add_assoc]] at h
  exact Sr.p h rfl hlt rfl hk
end
/-- A row with something in it has an address. -/
theorem S.rowSome {c : Ctx} {ds : List Deferred} {H : List Res} {k : List Item} {e : Env} {a : Option Addr} {cp n sz : Nat} {E : TypeId} {xs : List Value} (hn : n ≠ 0) (h : ∀ g, a = some ⟨g, 0, none⟩ → S c ds (.row a cp E sz n xs :: H) k e) : S c ds (.row a cp E sz n xs :: H) k e := by
  unfold S at h ⊢
  intro w ac hw ha hd
  obtain ⟨_, h2⟩ : w.ownsRow 0 E sz (.slice a n cp) n xs := hw.res _ (List.mem_cons_self ..)
  rcases h2 with ⟨_, h0⟩ | ⟨g, cap, cur, hv, _⟩
  · exact absurd h0 hn
  · simp only [Value.slice.injEq] at hv
    exact h g hv.1 w ac hw ha hd
/-- The names so far are the map's keys. -/
def KN (m : Ents) (ns : List (List UInt8)) : Prop := ∀ k, (eget m k).getD 0 = if k ∈ ns then 1 else 0
theorem KN.nil : KN [] [] := fun k => by simp [eget]
theorem KN.put {m : Ents} {ns : List (List UInt8)} (h : KN m ns) (k : List UInt8) : KN (eput m k 1) (k :: ns) := fun n => by
  rw [eget_put]
  by_cases e : k = n
  · subst e; simp
  · rw [if_neg e, h n]
    have : n ≠ k := fun h => e h.symm
    simp [this]
end Sg
namespace Go.Proofs.YtnimcchalinihaaDoor
open Sg
def lvV (x : Nat × Option (Nat × Ents)) : List Value := [.int .i64 (x.1 : Int), mpV x]
abbrev lvR (a : Option Addr) (cp : Nat) (st : Stk) : Res := .row a cp 103 2 st.length (st.reverse.flatMap lvV)
theorem lv_push (a : Option Addr) (cp : Nat) (x : Nat × Option (Nat × Ents)) (st : Stk) : lvR a cp (x :: st) = .row a cp 103 2 (st.length + 1) (st.reverse.flatMap lvV ++ lvV x) := by
  simp only [lvR, List.reverse_cons, List.flatMap_append, List.length_cons, List.flatMap_cons, List.flatMap_nil, List.append_nil]
theorem pop_lv {F : World} {M : List Nat} {H : List Res} {w : World} {a : Option Addr} {cp : Nat} {x : Nat × Option (Nat × Ents)} {r : Stk} (h : St F M w (lvR a cp (x :: r) :: mapsR (x :: r) H)) : St F M w (lvR a cp r :: mapsR r H) := by
  rw [lv_push] at h
  have h1 : St F M w (lvR a cp r :: mapsR (x :: r) H) := h.shrinkN rfl
  obtain ⟨i, x2⟩ := x
  cases x2 with
  | none => exact h1
  | some y => exact St.midDrop (A := [lvR a cp r]) (q := mpR y.1 y.2) h1
/-- What a stack says, the maps' blocks apart. -/
inductive LvOf : Stk → List Lv → Prop
  | nil : LvOf [] []
  | list {k : Nat} {st : Stk} {l : List Lv} (h : LvOf st l) : LvOf ((k, none) :: st) ((k, none) :: l)
  | obj {k b : Nat} {m : Ents} {ns : List (List UInt8)} {st : Stk} {l : List Lv} (hk : KN m ns) (h : LvOf st l) : LvOf ((k, some (b, m)) :: st) ((k, some ns) :: l)
theorem LvOf.inv {y : Nat × Option (Nat × Ents)} {s : Stk} {l : List Lv} (h : LvOf (y :: s) l) : ∃ nm l', l = (y.1, nm) :: l' ∧ LvOf s l' ∧ ((y.2 = none ∧ nm = none) ∨ ∃ b m ns, y.2 = some (b, m) ∧ nm = some ns ∧ KN m ns) := by
  cases h with
  | list h => exact ⟨none, _, rfl, h, .inl ⟨rfl, rfl⟩⟩
  | obj hk h => exact ⟨_, _, rfl, h, .inr ⟨_, _, _, rfl, rfl, hk⟩⟩
theorem LvOf.len {st : Stk} {l : List Lv} (h : LvOf st l) : st.length = l.length := by induction h <;> simp_all
end Go.Proofs.YtnimcchalinihaaDoor
/- Rules for a map that is nil: a look into it; maps held against nil. -/
namespace Sg
open Go Go.RowKit
section
variable {c : Ctx} {ds : List Deferred} {H : List Res} {ops : Array Oper} {l : List Oper} {κ : List Res → Env → Prop} {q : Mode} {e : Env} {ty : TypeId} {pos : String} {aft : Array Edge}
theorem T.mapLook0 {x y : Operand} {d : Tmp} {kk : List UInt8} {t k E : TypeId} [HU c.P t (.map k E)] [HU c.P k .string] {sz by_ : Nat} [HI c.P E (.int .i64 0) sz by_] (hx : ev e x = some (.map none)) (hy : ev e y = some (sV kk)) (hl : kk.length ≤ maxLen) (hlt : Nat.blt d c.fn.ntmps = true)
    (hk : Sr q c ds H ops l κ ((d, .int .i64 0) :: e)) : Sr q c ds H ops (⟨some d, .lookup t x y false, ty, pos, aft, none⟩ :: l) κ e :=
  Sr.p (fun w a _ ha => by
    have h := Maps.look_nil (P := c.P) (w := w) (t := t) (e := E) false (Maps.string_keyed (HU.h (P := c.P) (t := k))) (HU.h (P := c.P) (t := t)) (run_zero w) (sV_key (P := c.P) (k := k) HU.h hl)
    simp [execOp, ha.ev hx, ha.ev hy, h]) rfl hlt rfl hk
theorem T.eqlM {x : Operand} {d : Tmp} {t u k E : TypeId} {b : Nat} [HU c.P t (.map k E)] (hx : ev e x = some (.map (some b))) (hlt : Nat.blt d c.fn.ntmps = true) (hk : Sr q c ds H ops l κ ((d, .bool false) :: e)) : Sr q c ds H ops (⟨some d, .binOp .eql t x (.const (.map none)) u, ty, pos, aft, none⟩ :: l) κ e :=
  Sr.p (fun w ac _ ha => by
    have h := run_equalIn_map_nil (P := c.P) w 9999 t k E (some b) HU.h
    have h2 : ac.eval (.const (.map none)) = .map none := rfl
    simp only [execOp, ha.ev hx, h2, eqGuard, binOp, Op.equal, Op.maxDepth]
    simp [h]) rfl hlt rfl hk
theorem T.eqlM0 {x : Operand} {d : Tmp} {t u k E : TypeId} [HU c.P t (.map k E)] (hx : ev e x = some (.map none)) (hlt : Nat.blt d c.fn.ntmps = true) (hk : Sr q c ds H ops l κ ((d, .bool true) :: e)) : Sr q c ds H ops (⟨some d, .binOp .eql t x (.const (.map none)) u, ty, pos, aft, none⟩ :: l) κ e :=
  Sr.p (fun w ac _ ha => by
    have h := run_equalIn_map_nil (P := c.P) w 9999 t k E none HU.h
    have h2 : ac.eval (.const (.map none)) = .map none := rfl
    simp only [execOp, ha.ev hx, h2, eqGuard, binOp, Op.equal, Op.maxDepth]
    simp [h]) rfl hlt rfl hk
theorem T.neqM {x : Operand} {d : Tmp} {t u k E : TypeId} {b : Nat} [HU c.P t (.map k E)] (hx : ev e x = some (.map (some b))) (hlt : Nat.blt d c.fn.ntmps = true) (hk : Sr q c ds H ops l κ ((d, .bool true) :: e)) : Sr q c ds H ops (⟨some d, .binOp .neq t x (.const (.map none)) u, ty, pos, aft, none⟩ :: l) κ e :=
  Sr.p (fun w ac _ ha => by
    have h := run_equalIn_map_nil (P := c.P) w 9999 t k E (some b) HU.h
    have h2 : ac.eval (.const (.map none)) = .map none := rfl
    simp only [execOp, ha.ev hx, h2, eqGuard, binOp, Op.equal, Op.maxDepth]
    simp [h]) rfl hlt rfl hk
theorem T.neqM0 {x : Operand} {d : Tmp} {t u k E : TypeId} [HU c.P t (.map k E)] (hx : ev e x = some (.map none)) (hlt : Nat.blt d c.fn.ntmps = true) (hk : Sr q c ds H ops l κ ((d, .bool false) :: e)) : Sr q c ds H ops (⟨some d, .binOp .neq t x (.const (.map none)) u, ty, pos, aft, none⟩ :: l) κ e :=
  Sr.p (fun w ac _ ha => by
    have h := run_equalIn_map_nil (P := c.P) w 9999 t k E none HU.h
    have h2 : ac.eval (.const (.map none)) = .map none := rfl
    simp only [execOp, ha.ev hx, h2, eqGuard, binOp, Op.equal, Op.maxDepth]
    simp [h]) rfl hlt rfl hk
end
end Sg
/- Drawn regions: guarded operations that no effect turns come ahead of the effects, too. -/
namespace Sg
open Go Go.RowKit
section
variable {c : Ctx} {ds : List Deferred} {Hs H : List Res} {es lt : List Nat} {ops : Array Oper} {fuel : Nat} {listed : Array Bool} {κ : List Res → Env → Prop} {e : Env} {op : Op} {d j : Nat} {b b' : Bool} {ty : TypeId} {pos : String} {aft : Array Edge}
/-- A guarded operation that is carried out comes first. -/
theorem SA.pg (i : Nat) {v : Value} (ho : ops[i]? = some ⟨some d, op, ty, pos, aft, some (j, b)⟩) (hgl : glook ops e j = some b) (hB : (Region.noSelect ops && Region.free .any ops listed i && (Region.ready .any ops listed).contains i) = true) (h : Pu c H e ⟨some d, op, ty, pos, aft, none⟩ v)
    (hs : es.all (fun k => listed.getD k true || dep ops i 6 k) = true ∨ lt.all (fun k => listed.getD k true || dep ops i 6 k) = true ∧ Pu c Hs e ⟨some d, op, ty, pos, aft, none⟩ v ∨ Pu c [] e ⟨some d, op, ty, pos, aft, none⟩ v)
    (hlt : Nat.blt d c.fn.ntmps = true) (hk : SA c ds Hs es lt H ops fuel (listed.setIfInBounds i true) κ ((d, v) :: e)) : SA c ds Hs es lt H ops (fuel + 1) listed κ e := by
  unfold SA at hk ⊢
  intro hc w a hw ha hds
  simp only [Bool.and_eq_true] at hB
  have hr : i ∈ Region.ready .any ops listed := by simpa using hB.2
  have h2 : Ok c.fn.ntmps ((d, v) :: e) (a.put (some d) v) := ha.put (d := some d) hlt v
  have hwt : Region.wanted (⟨some d, op, ty, pos, aft, some (j, b)⟩ : Oper) (yielded ops a.tmps) = true := by simp [Region.wanted, glook_ok ha hgl]
  refine AW.first (v := v) ho (Region.noSelect_spec hB.1.1) (fun _ _ _ => Kq.back) fuel listed a w hc (Region.free_spec ho hB.1.2) hr (.inl ⟨hwt, .inl (h w a hw ha)⟩) ?_ (hk (hc.set hr) w _ hw h2 ((put_defers _ _ _).trans hds))
  intro k hj hun
  have hdep : (listed.getD k true || dep ops i 6 k) = true → dep ops i 6 k = true := fun h => by rw [hun, Bool.false_or] at h; exact h
  rcases hs with hs | ⟨hs0, hs⟩ | hs
  · exact .inl (hdep (List.all_eq_true.1 hs k (by simpa using hj)))
  · by_cases hlj : lt.contains k = true
    · exact .inl (hdep (List.all_eq_true.1 hs0 k (by simpa using hlj)))
    · exact .inr fun w' hw' => .inl ⟨hwt, .inl (hs w' a (hw'.resolve_left fun h => hlj h.1) ha)⟩
  · exact .inr fun w' hw' => .inl ⟨hwt, .inl (hs w' a (hw'.elim (fun h => h.2) (fun h => h.bare)) ha)⟩
theorem nth_get {l : Array Oper} {i : Nat} {o : Oper} (h : nthO l.toList i = some o) : l[i]? = some o := by rw [← h, nthO_get]; simp
theorem SA.gz {i : Nat} (_hi : nextI listed es false ops.size 0 = some i) (ho : nthO ops.toList i = some ⟨some d, op, ty, pos, aft, some (j, b)⟩) (_hr : rdy listed ⟨some d, op, ty, pos, aft, some (j, b)⟩ = true) (hgl : glook ops e j = some b') (hb : b' = b) (_hp : pureOp op = true)
    (hB : (Region.noSelect ops && Region.free .any ops listed i && (Region.ready .any ops listed).contains i) = true) (h : Sr .uni c ds [] ops [⟨some d, op, ty, pos, aft, none⟩] (fun _ e' => SA c ds Hs es lt H ops fuel (listed.setIfInBounds i true) κ e') e) : SA c ds Hs es lt H ops (fuel + 1) listed κ e := by
  subst hb
  unfold Sr at h
  obtain ⟨v, d', h1, h2, h3, h4, h5⟩ := h
  cases h2
  exact SA.pg i (nth_get ho) hgl hB (fun w a hw ha => h1 w a hw.bare ha) (.inr (.inr h1)) h3 h5
theorem SA.gn {i : Nat} (_hi : nextI listed es false ops.size 0 = some i) (ho : nthO ops.toList i = some ⟨some d, op, ty, pos, aft, some (j, b)⟩) (_hr : rdy listed ⟨some d, op, ty, pos, aft, some (j, b)⟩ = true) (hgl : glook ops e j = some b') (hb : b' = b) (hd : es.all (fun k => listed.getD k true || dep ops i 6 k) = true)
    (hB : (Region.noSelect ops && Region.free .any ops listed i && (Region.ready .any ops listed).contains i) = true) (h : Sr .uni c ds H ops [⟨some d, op, ty, pos, aft, none⟩] (fun _ e' => SA c ds Hs es lt H ops fuel (listed.setIfInBounds i true) κ e') e) : SA c ds Hs es lt H ops (fuel + 1) listed κ e := by
  subst hb
  unfold Sr at h
  obtain ⟨v, d', h1, h2, h3, h4, h5⟩ := h
  cases h2
  exact SA.pg i (nth_get ho) hgl hB h1 (.inl hd) h3 h5
/-- A guarded operation that is not carried out. -/
theorem SA.gx {i : Nat} (_hi : nextI listed es false ops.size 0 = some i) (ho : nthO ops.toList i = some ⟨some d, op, ty, pos, aft, some (j, b)⟩) (_hr : rdy listed ⟨some d, op, ty, pos, aft, some (j, b)⟩ = true) (hno : gundef ops e j = true ∨ ∃ b', glook ops e j = some b' ∧ (b' == b) = false)
    (hB : (Region.noSelect ops && Region.free .any ops listed i && (Region.ready .any ops listed).contains i) = true) (hlt : Nat.blt d c.fn.ntmps = true) (hk : SA c ds Hs es lt H ops fuel (listed.setIfInBounds i true) κ ((d, undef) :: e)) : SA c ds Hs es lt H ops (fuel + 1) listed κ e := by
  unfold SA at hk ⊢
  intro hc w a hw ha hds
  simp only [Bool.and_eq_true] at hB
  have hr : i ∈ Region.ready .any ops listed := by simpa using hB.2
  have h2 : Ok c.fn.ntmps ((d, undef) :: e) (a.put (some d) undef) := ha.put (d := some d) hlt undef
  have hwt : Region.wanted (⟨some d, op, ty, pos, aft, some (j, b)⟩ : Oper) (yielded ops a.tmps) = false := by
    rcases hno with h | ⟨b', h, hne⟩
    · have := gundef_ok ha h
      simp [Region.wanted, this]
    · have := glook_ok ha h
      simpa [Region.wanted, this] using hne
  refine AW.first (v := undef) (nth_get ho) (Region.noSelect_spec hB.1.1) (fun _ _ _ => Kq.back) fuel listed a w hc (Region.free_spec (nth_get ho) hB.1.2) hr (.inr ⟨hwt, rfl⟩) ?_ (hk (hc.set hr) w _ hw h2 ((put_defers _ _ _).trans hds))
  intro k hj hun
  exact .inr fun w' hw' => .inr ⟨hwt, rfl⟩
theorem SA.gxu {i : Nat} (hi : nextI listed es false ops.size 0 = some i) (ho : nthO ops.toList i = some ⟨some d, op, ty, pos, aft, some (j, b)⟩) (hr : rdy listed ⟨some d, op, ty, pos, aft, some (j, b)⟩ = true) (hno : gundef ops e j = true)
    (hB : (Region.noSelect ops && Region.free .any ops listed i && (Region.ready .any ops listed).contains i) = true) (hlt : Nat.blt d c.fn.ntmps = true) (hk : SA c ds Hs es lt H ops fuel (listed.setIfInBounds i true) κ ((d, undef) :: e)) : SA c ds Hs es lt H ops (fuel + 1) listed κ e := SA.gx hi ho hr (.inl hno) hB hlt hk
theorem SA.gxv {i : Nat} (hi : nextI listed es false ops.size 0 = some i) (ho : nthO ops.toList i = some ⟨some d, op, ty, pos, aft, some (j, b)⟩) (hr : rdy listed ⟨some d, op, ty, pos, aft, some (j, b)⟩ = true) (hgl : glook ops e j = some b') (hne : (b' == b) = false)
    (hB : (Region.noSelect ops && Region.free .any ops listed i && (Region.ready .any ops listed).contains i) = true) (hlt : Nat.blt d c.fn.ntmps = true) (hk : SA c ds Hs es lt H ops fuel (listed.setIfInBounds i true) κ ((d, undef) :: e)) : SA c ds Hs es lt H ops (fuel + 1) listed κ e := SA.gx hi ho hr (.inr ⟨b', hgl, hne⟩) hB hlt hk
end
end Sg
