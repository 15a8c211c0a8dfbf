/- The walks of the program's reader: numbers and symbols. -/
import Derived.Test.YtjhpbljkpbdnnaaDoorInfB
import Derived.Test.YtjhpbljkpbdnnaaDoorInfP
namespace Go.Proofs.YtjhpbljkpbdnnaaDoor
open Sg Go.IntWalk Infl
set_option maxRecDepth 100000
abbrev rc (b : Option Addr) (n c a : Nat) (bits : Nat) (m : Nat) (most : Int) (oa : Option Addr) (on oc : Nat) : List Value := [.slice b n c, .int .i64 a, .int .u32 bits, .int .i64 m, .int .i64 most, .slice oa on oc]
/-- The reader at a place in the bits. -/
abbrev rd (b : Option Addr) (bs : List UInt8) (c pos : Nat) (most : Int) (oa : Option Addr) (on oc : Nat) : List Value := rc b bs.length c ((pos + 7) / 8) (num bs pos (8 * ((pos + 7) / 8) - pos)) (8 * ((pos + 7) / 8) - pos) most oa on oc

theorem number_spec {F : World} {M : List Nat} {H : List Res} {p c oc on : Nat} {b oa : Option Addr} {most : Int} {bs : List UInt8} [Rd F M H b (bs.map bV)] {pos k : Nat} (hk : k ≤ 16) (hp : pos ≤ 8 * bs.length) (hb : bs.length ≤ 1000000000000000) :
    Meets Tryd.prog 49 [.pointer (some ⟨p, 0, none⟩), .int .i64 k] F M (.blk p (rd b bs c pos most oa on oc) 59 :: H) (fun e H' => match rdN bs k pos with
      | some (v, pos') => e = .returned (.int .i64 v) ∧ H' = .blk p (rd b bs c pos' most oa on oc) 59 :: H
      | none => e = gave 240 ∧ ∃ vs, H' = .blk p vs 59 :: H) := by
  refine Meets.enter Tryd.func49 rfl rfl ?_
  repeat' (first | ((with_reducible apply T.asn); apply rfl; apply rfl) | with_reducible refine Sr.nil ?_ | with_reducible refine S.seq ?_ | with_reducible refine S.block ?_ | with_reducible refine S.reg ?_ | fail)
  refine S.loop (fun μ H' e => ∃ a m : Nat, H' = .blk p (rc b bs.length c a (num bs pos m) m most oa on oc) 59 :: H ∧ e = [(0, .pointer (some ⟨p, 0, none⟩)), (1, .int .i64 k)] ∧ (8 * a = pos + m ∧ m ≤ 23 ∧ a ≤ bs.length ∧ (m < k + 8 ∨ m < 8)) ∧ μ = 24 - m) ?_ _ _ ⟨_, _, rfl, rfl, ⟨?_, ?_, ?_, ?_⟩, rfl⟩ ⟨rfl, rfl, trivial⟩
  · rintro _ _ _ ⟨a, m, rfl, rfl, ⟨h1, h2, h3, h4⟩, rfl⟩ ih
    have hb8 : (bs.getD a 0).toNat < 256 := UInt8.toNat_lt _
    have hbits : num bs pos m < 4294967296 := Nat.lt_of_lt_of_le (num_lt bs pos m) (Nat.pow_le_pow_right (n := 2) (by omega) (show m ≤ 32 by omega))
    have hk16 : 2 ^ k ≤ 65536 := Nat.pow_le_pow_right (n := 2) (by omega) hk
    have hk0 : 0 < 2 ^ k := Nat.two_pow_pos k
    repeat' (first | ((with_reducible apply T.mv); apply rfl; apply rfl) | ((with_reducible apply T.len); apply rfl; apply rfl) | ((with_reducible apply T.nilCheck); apply rfl; apply rfl) | ((with_reducible apply T.fieldAddrZ); apply rfl; apply rfl) | ((with_reducible apply T.load); apply rfl; apply rfl; infer_instance; apply rfl; apply rfl) | ((with_reducible apply T.lss); apply rfl; apply rfl; apply rfl) | ((with_reducible apply T.eql); apply rfl; apply rfl; apply rfl) | with_reducible refine Sr.nil ?_ | with_reducible refine S.seq ?_ | with_reducible refine S.block ?_ | with_reducible refine S.reg ?_ | with_reducible refine S.skip ?_ | ((with_reducible apply S.exit); apply rfl) | ((with_reducible apply S.quiet); apply rfl; kernel_rfl) | ((with_reducible apply S.condQ); apply rfl; all_goals (intro _; try (exfalso; omega))) | fail)
    · refine T.call rfl rfl (give_spec 240) ?_
      rintro _ _ ⟨rfl, rfl⟩
      repeat' (first | (with_reducible apply T.diesW) | (with_reducible apply T.ofPan) | fail)
      have : ¬ pos + k ≤ 8 * bs.length := by omega
      refine ⟨_, .refl _, ?_⟩
      simp [rdN, this]
    · have h5 : (bs.getD a 0).toNat * 2 ^ m < 4294967296 := by
        have : (bs.getD a 0).toNat * 2 ^ m ≤ 255 * 2 ^ 16 := Nat.mul_le_mul (by omega) (Nat.pow_le_pow_right (by omega) (by omega))
        omega
      ((with_reducible apply S.draw); (case Hs => exact H); (case es => exact  [23]); (case n => exact  24); (case hn => rfl))
      repeat' (first | ((with_reducible apply T.shlU32); apply rfl; apply rfl; exact h5; omega; apply rfl) | ((with_reducible apply T.orU32); apply rfl; apply rfl; omega; omega; apply rfl) | ((with_reducible apply T.mv); apply rfl; apply rfl) | ((with_reducible apply T.nilCheck); apply rfl; apply rfl) | ((with_reducible apply T.fieldAddrZ); apply rfl; apply rfl) | ((with_reducible apply T.load); apply rfl; apply rfl; infer_instance; apply rfl; apply rfl) | ((with_reducible apply T.addI); apply rfl; apply rfl; omega; apply rfl) | ((with_reducible apply T.ixN); apply rfl; apply rfl; infer_instance; omega; (first | omega | (simp; omega)); apply rfl) | ((with_reducible apply T.loadB); apply rfl; infer_instance; omega; apply rfl) | ((with_reducible apply T.convU32); apply rfl; omega; apply rfl) | ((with_reducible apply T.store); apply rfl; apply rfl; infer_instance; (first | decide | (simp; omega) | simp); apply rfl) | with_reducible refine Sr.nil ?_ | with_reducible refine S.seq ?_ | with_reducible refine S.reg ?_ | with_reducible refine S.inBlock ?_ | ((with_reducible apply SA.qn); apply rfl; apply rfl; apply rfl; apply rfl; kernel_rfl) | ((with_reducible apply SA.en); apply rfl; apply rfl; kernel_rfl) | ((with_reducible apply SA.done); apply rfl; kernel_rfl) | ((with_reducible apply SK.intro); (first | exact fun _ h => h | exact fun _ h => St.psub h (by ((repeat (first | dsimp only [List.set_cons_zero] | dsimp only [List.set_cons_succ])); repeat' first | exact PSub.refl _ | exact PSub.nil | ((with_reducible apply PSub.take); (repeat' first | (with_reducible exact pick_hd) | (with_reducible apply pick_tl))) | (with_reducible apply PSub.drop) | ((apply PSub.take); (repeat' first | exact pick_hd | (apply pick_tl))))))) | fail)
      have e1 : num bs pos m ||| (bs.getD a 0).toNat * 2 ^ m = num bs pos (m + 8) := by
        rw [Nat.or_comm, Nat.mul_comm, ← Nat.two_pow_add_eq_or_of_lt (num_lt bs pos m), num_add, show pos + m = 8 * a by omega, num_byte, Nat.add_comm]
      refine ih _ _ _ _ ⟨a + 1, m + 8, ?_, rfl, ⟨by omega, by omega, by omega, by omega⟩, rfl⟩ (by omega) ⟨rfl, rfl, trivial⟩
      rw [← e1]
      rfl
    · have hk1 : (1 : Nat) ≤ 2 ^ k := hk0
      have hkm : k ≤ m := by omega
      have hand : num bs pos m &&& (1 * 2 ^ k - 1) = num bs pos k := by rw [Nat.one_mul, Nat.and_two_pow_sub_one_eq_mod, num_mod bs pos hkm]
      have hlt := num_lt bs pos k
      repeat' (first | ((with_reducible apply T.convI64); (rw [hand]; apply rfl); omega; apply rfl) | ((with_reducible apply T.shlU32 (m := 1)); apply rfl; apply rfl; omega; omega; apply rfl) | ((with_reducible apply T.subU32N (n := 1)); apply rfl; apply rfl; omega; apply rfl) | ((with_reducible apply T.andU32); apply rfl; apply rfl; omega; omega; apply rfl) | ((with_reducible apply T.shrU32); apply rfl; apply rfl; omega; apply rfl) | ((with_reducible apply T.mv); apply rfl; apply rfl) | ((with_reducible apply T.asn); apply rfl; apply rfl) | ((with_reducible apply T.nilCheck); apply rfl; apply rfl) | ((with_reducible apply T.fieldAddrZ); apply rfl; apply rfl) | ((with_reducible apply T.load); apply rfl; apply rfl; infer_instance; apply rfl; apply rfl) | ((with_reducible apply T.subI); apply rfl; apply rfl; omega; apply rfl) | ((with_reducible apply T.store); apply rfl; apply rfl; infer_instance; (first | decide | (simp; omega) | simp); apply rfl) | with_reducible refine Sr.nil ?_ | with_reducible refine S.seq ?_ | with_reducible refine S.reg ?_ | ((with_reducible apply T.retW); apply rfl) | fail)
      have hpk : pos + k ≤ 8 * bs.length := by omega
      have e2 : (pos + k + 7) / 8 = a := by omega
      have e3 : 8 * a - (pos + k) = m - k := by omega
      have e4 : ((m - k : Nat) : Int) = (m : Int) - k := by omega
      simp only [rd, rc, rdN, hpk, if_true, e2, e3, num_div bs pos hkm, e4]
      exact ⟨_, .refl _, trivial, rfl⟩
  all_goals omega
end Go.Proofs.YtjhpbljkpbdnnaaDoor
