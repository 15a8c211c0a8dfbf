/- The walks of the document's reader: bits, numbers, bytes. -/
import Derived.Test.YtjhpbljkpbdnnaaDoorInfG
namespace Go.Proofs.YtjhpbljkpbdnnaaDoor
open Sg Go.IntWalk Infl
set_option maxRecDepth 100000
/-- Cells of the document's reader. -/
abbrev rr (b : Option Addr) (n c a m : Nat) (oa : Option Addr) (on oc E : Nat) : List Value := [.slice b n c, .int .i64 a, .int .i64 m, .slice oa on oc, .int .i64 E]
def stopE (E code : Nat) : Nat := if E = 0 then code else E
def rbit (bs : List UInt8) (a E : Nat) : Nat × Nat × Nat := if E = 0 then if a + 1 ≤ 8 * bs.length then (bit bs a, a + 1, 0) else (0, a, 240) else (0, a, E)
theorem stop_spec {F : World} {M : List Nat} {H : List Res} {p n c a m on oc E : Nat} {b oa : Option Addr} (code : Nat) (hc : 0 < code) :
    Meets Tryd.prog 41 [.pointer (some ⟨p, 0, none⟩), .int .i64 code] F M (.blk p (rr b n c a m oa on oc E) 62 :: H) (fun e H' => e = .returned (.tuple #[]) ∧ H' = .blk p (rr b n c a m oa on oc (stopE E code)) 62 :: H) := by
  refine Meets.enter Tryd.func41 rfl rfl ?_
  repeat' (first | ((with_reducible apply T.mv); apply rfl; apply rfl) | ((with_reducible apply T.nilCheck); apply rfl; apply rfl) | ((with_reducible apply T.fieldAddrZ); apply rfl; apply rfl) | ((with_reducible apply T.load); apply rfl; apply rfl; infer_instance; apply rfl; apply rfl) | ((with_reducible apply T.eql); apply rfl; apply rfl; apply rfl) | ((with_reducible apply T.store); apply rfl; apply rfl; infer_instance; (first | decide | (simp; omega) | simp); apply rfl) | with_reducible refine Sr.nil ?_ | with_reducible refine S.seq ?_ | with_reducible refine S.reg ?_ | with_reducible refine S.skip ?_ | ((with_reducible apply T.doneW); apply rfl) | ((with_reducible apply S.condQ); apply rfl; all_goals (intro _; try (exfalso; omega))) | fail)
  · rename_i h
    have h0 : E = 0 := by omega
    refine ⟨_, .refl _, rfl, ?_⟩
    simp [stopE, h0]
  · rename_i h
    have h0 : ¬ E = 0 := by omega
    refine ⟨_, .refl _, rfl, ?_⟩
    simp [stopE, h0]
theorem bit_spec {F : World} {M : List Nat} {H : List Res} {p c a m on oc E : Nat} {b oa : Option Addr} {bs : List UInt8} [Rd F M H b (bs.map bV)] (hb : bs.length ≤ 1000000000000000) (ha : a ≤ 8 * bs.length) :
    Meets Tryd.prog 34 [.pointer (some ⟨p, 0, none⟩)] F M (.blk p (rr b bs.length c a m oa on oc E) 62 :: H)
      (fun e H' => e = .returned (.int .i64 (rbit bs a E).1) ∧ H' = .blk p (rr b bs.length c (rbit bs a E).2.1 m oa on oc (rbit bs a E).2.2) 62 :: H) := by
  refine Meets.enter Tryd.func34 rfl rfl ?_
  have hq : (a : Int).tdiv 8 = ((a / 8 : Nat) : Int) := by rw [Int.tdiv_eq_ediv_of_nonneg (by omega)]; omega
  have hr : (a : Int).tmod 8 = ((a % 8 : Nat) : Int) := by rw [Int.tmod_eq_emod_of_nonneg (by omega)]; omega
  have h8 := (bs.getD (a / 8) 0).toNat_lt
  have hdiv : (bs.getD (a / 8) 0).toNat / 2 ^ (a % 8) < 256 := Nat.lt_of_le_of_lt (Nat.div_le_self _ _) h8
  have hand : (bs.getD (a / 8) 0).toNat / 2 ^ (a % 8) &&& 1 = bit bs a := Nat.and_one_is_mod _
  have hs : ∀ E, stopE E 240 ≠ 0 := fun E => by unfold stopE; split <;> omega
  have hs' := hs E
  repeat' (first | ((with_reducible apply T.quo (r := ((a / 8 : Nat) : Int))); apply rfl; apply rfl; omega; (rw [hq]; exact i64_in _ (by omega)); apply rfl) | ((with_reducible apply T.rem (r := ((a % 8 : Nat) : Int))); apply rfl; apply rfl; omega; exact hr; apply rfl) | ((with_reducible apply T.shrI64); apply rfl; apply rfl; omega; apply rfl) | ((with_reducible apply T.andI64 (n := 1)); apply rfl; apply rfl; omega; omega; apply rfl; rw [hand]) | (refine T.call rfl rfl (stop_spec 240 (by omega)) ?_; rintro _ _ ⟨rfl, rfl⟩) | ((with_reducible apply T.mv); apply rfl; apply rfl) | ((with_reducible apply T.asn); apply rfl; apply rfl) | ((with_reducible apply T.len); apply rfl; apply rfl) | ((with_reducible apply T.nilCheck); apply rfl; apply rfl) | ((with_reducible apply T.fieldAddrZ); apply rfl; apply rfl) | ((with_reducible apply T.load); apply rfl; apply rfl; infer_instance; apply rfl; apply rfl) | ((with_reducible apply T.geq); apply rfl; apply rfl; apply rfl) | ((with_reducible apply T.neq); apply rfl; apply rfl; apply rfl) | ((with_reducible apply T.addI); apply rfl; apply rfl; omega; apply rfl) | ((with_reducible apply T.ixN); apply rfl; apply rfl; infer_instance; omega; (first | omega | (simp; omega)); apply rfl) | ((with_reducible apply T.loadB); apply rfl; infer_instance; omega; apply rfl) | ((with_reducible apply T.convI64); apply rfl; omega; apply rfl) | ((with_reducible apply T.convU64); apply rfl; omega; apply rfl) | ((with_reducible apply T.store); apply rfl; apply rfl; infer_instance; (first | decide | (simp; omega) | simp); apply rfl) | with_reducible refine Sr.nil ?_ | with_reducible refine S.seq ?_ | with_reducible refine S.reg ?_ | with_reducible refine S.skip ?_ | ((with_reducible apply S.quiet); apply rfl; kernel_rfl) | ((with_reducible apply T.retW); apply rfl) | (with_reducible apply T.ofRet) | ((with_reducible apply S.condQ); apply rfl; all_goals (intro _; try (exfalso; omega))) | fail)
  · refine ⟨_, .refl _, ?_⟩
    have : ¬ a + 1 ≤ 8 * bs.length := by omega
    by_cases hE : E = 0 <;> simp [rbit, stopE, hE, this]
  · refine ⟨_, .refl _, ?_⟩
    have hE : ¬ E = 0 := by omega
    simp [rbit, hE]
  · refine ⟨_, .refl _, ?_⟩
    have hE : E = 0 := by omega
    subst hE
    have : a + 1 ≤ 8 * bs.length := by omega
    simp [rbit, this]
/-- What a number of the document's reader is. -/
def NumP (bs : List UInt8) (k a E v a' E' : Nat) : Prop := v < 2 ^ k ∧ a' ≤ 8 * bs.length ∧ (E = 0 → match rdN bs k a with
  | some (v', p') => v = v' ∧ a' = p' ∧ E' = 0
  | none => E' = 240) ∧ (E ≠ 0 → E' = E)
theorem numR_spec {F : World} {M : List Nat} {H : List Res} {p c a m on oc E k : Nat} {b oa : Option Addr} {bs : List UInt8} [Rd F M H b (bs.map bV)] (hb : bs.length ≤ 1000000000000000) (ha : a ≤ 8 * bs.length) (hk : k ≤ 16) :
    Meets Tryd.prog 35 [.pointer (some ⟨p, 0, none⟩), .int .i64 k] F M (.blk p (rr b bs.length c a m oa on oc E) 62 :: H)
      (fun e H' => ∃ v a' E' : Nat, e = .returned (.int .i64 v) ∧ H' = .blk p (rr b bs.length c a' m oa on oc E') 62 :: H ∧ NumP bs k a E v a' E') := by
  refine Meets.enter Tryd.func35 rfl rfl ?_
  repeat' (first | ((with_reducible apply T.asn); apply rfl; apply rfl) | with_reducible refine Sr.nil ?_ | with_reducible refine S.seq ?_ | with_reducible refine S.block ?_ | with_reducible refine S.reg ?_ | fail)
  refine S.loopE 1 [0, 1] (fun R b' μ H' e => ∃ i v a' E' : Nat, H' = .blk p (rr b bs.length c a' m oa on oc E') 62 :: R ∧ e = (5, .int .i64 v) :: (6, .int .i64 (2 ^ i : Nat)) :: (7, .int .i64 i) :: b' ∧
    (i ≤ k ∧ v < 2 ^ i ∧ a' ≤ 8 * bs.length ∧ (E = 0 → (a + i ≤ 8 * bs.length ∧ E' = 0 ∧ v = num bs a i ∧ a' = a + i) ∨ (¬ a + i ≤ 8 * bs.length ∧ E' = 240)) ∧ (E ≠ 0 → E' = E)) ∧ μ = k - i) rfl rfl ?_ _ _ ⟨0, 0, a, E, rfl, rfl, ⟨by omega, by omega, ha, fun h => .inl ⟨by omega, h, rfl, rfl⟩, fun _ => rfl⟩, rfl⟩ (by repeat' first | exact trivial | refine And.intro rfl ?_)
  rintro _ _ _ ⟨i, v, a', E', rfl, rfl, ⟨h1, h2, h3, h4, h5⟩, rfl⟩ ih
  have hpw : (2 : Nat) ^ i ≤ 65536 := Nat.pow_le_pow_right (n := 2) (by omega) (show i ≤ 16 by omega)
  have hbt : (rbit bs a' E').1 < 2 := by unfold rbit; split <;> (try split) <;> first | exact bit_lt _ _ | simp
  have hm : ((2 ^ i : Nat) : Int) * ((rbit bs a' E').1 : Int) = ((2 ^ i * (rbit bs a' E').1 : Nat) : Int) := by push_cast; rfl
  have hml : 2 ^ i * (rbit bs a' E').1 ≤ 2 ^ i * 1 := Nat.mul_le_mul_left _ (by omega)
  have hd : (2 : Int) * ((2 ^ i : Nat) : Int) = ((2 ^ (i + 1) : Nat) : Int) := by rw [Nat.pow_succ, Nat.mul_comm]; push_cast; rfl
  generalize hpi : 2 ^ i = pi at *
  repeat' (first | (refine T.call rfl rfl (bit_spec hb h3) ?_; rintro _ _ ⟨rfl, rfl⟩) | ((with_reducible apply T.mulI); apply rfl; apply rfl; (first | (rw [hm]; omega) | omega); apply rfl; (first | rw [hm] | rw [hd])) | ((with_reducible apply T.mv); apply rfl; apply rfl) | ((with_reducible apply T.asn); apply rfl; apply rfl) | ((with_reducible apply T.lss); apply rfl; apply rfl; apply rfl) | ((with_reducible apply T.addI); apply rfl; apply rfl; omega; apply rfl) | with_reducible refine Sr.nil ?_ | with_reducible refine S.seq ?_ | with_reducible refine S.block ?_ | with_reducible refine S.reg ?_ | with_reducible refine S.skip ?_ | with_reducible refine S.inBlock ?_ | ((with_reducible apply S.exit); apply rfl) | ((with_reducible apply T.retW); apply rfl) | (with_reducible apply T.ofRet) | ((with_reducible apply S.condQ); apply rfl; all_goals (intro _; try (exfalso; omega))) | fail)
  · refine ih _ _ _ _ ⟨i + 1, v + pi * (rbit bs a' E').1, _, _, rfl, rfl, ⟨by omega, ?_, ?_, ?_, ?_⟩, rfl⟩ (by omega) (by repeat' first | exact trivial | refine And.intro rfl ?_)
    · rw [Nat.pow_succ]; omega
    · unfold rbit; split <;> (try split) <;> simp only <;> omega
    · intro hE
      rcases h4 hE with ⟨g1, rfl, g3, rfl⟩ | ⟨g1, rfl⟩
      · by_cases g : a + i + 1 ≤ 8 * bs.length
        · left
          simp only [rbit, if_true, g]
          refine ⟨by omega, trivial, ?_, by omega⟩
          rw [num, ← g3, hpi]
        · right
          simp only [rbit, if_true, g, if_false]
          exact ⟨by omega, trivial⟩
      · right
        exact ⟨by omega, by simp [rbit]⟩
    · intro hE
      have := h5 hE
      subst this
      simp [rbit, hE]
  · have hik : i = k := by omega
    subst hik
    refine ⟨_, .refl _, v, a', E', rfl, rfl, by rw [hpi]; exact h2, h3, fun hE => ?_, h5⟩
    rcases h4 hE with ⟨g1, g2, g3, g4⟩ | ⟨g1, g2⟩
    · simp only [rdN, g1, if_true]
      exact ⟨g3, g4, g2⟩
    · simp only [rdN, g1, if_false]
      exact g2
def rput (most : Nat) (out : List UInt8) (ch : UInt8) (E : Nat) : List UInt8 × Nat := if E = 0 then if out.length = most then (out, 10) else (out ++ [ch], 0) else (out, E)
theorem putR_spec {F : World} {M : List Nat} {H : List Res} {p n c a m oc E : Nat} {b oa : Option Addr} {out : List UInt8} (ch : UInt8) (hm : out.length ≤ m) (hmx : m ≤ 1048576) :
    Meets Tryd.prog 55 [.pointer (some ⟨p, 0, none⟩), .int .u8 ch.toNat] F M (.blk p (rr b n c a m oa out.length oc E) 62 :: rw_ oa oc out :: H)
      (fun e H' => ∃ oa oc, e = .returned (.tuple #[]) ∧ H' = .blk p (rr b n c a m oa (rput m out ch E).1.length oc (rput m out ch E).2) 62 :: rw_ oa oc (rput m out ch E).1 :: H) := by
  refine Meets.enter Tryd.func55 rfl rfl ?_
  have hs : stopE 0 10 = 10 := rfl
  by_cases hE : E = 0
  · subst hE
    by_cases hl : out.length = m
    · repeat' (first | (refine T.call rfl rfl (stop_spec 10 (by omega)) ?_; rintro _ _ ⟨rfl, rfl⟩) | ((with_reducible apply T.mv); apply rfl; apply rfl) | ((with_reducible apply T.len); apply rfl; apply rfl) | ((with_reducible apply T.nilCheck); apply rfl; apply rfl) | ((with_reducible apply T.fieldAddrZ); apply rfl; apply rfl) | ((with_reducible apply T.load); apply rfl; apply rfl; infer_instance; apply rfl; apply rfl) | ((with_reducible apply T.geq); apply rfl; apply rfl; apply rfl) | ((with_reducible apply T.eql); apply rfl; apply rfl; apply rfl) | ((with_reducible apply T.pickT); apply rfl; apply rfl; apply rfl) | with_reducible refine Sr.nil ?_ | with_reducible refine S.seq ?_ | with_reducible refine S.reg ?_ | with_reducible refine S.skip ?_ | ((with_reducible apply S.quiet); apply rfl; kernel_rfl) | ((with_reducible apply T.ung); apply rfl) | ((with_reducible apply S.condF); apply rfl) | ((with_reducible apply T.doneW); apply rfl) | (with_reducible apply T.ofRet) | ((with_reducible apply S.condQ); apply rfl; all_goals (intro _; try (exfalso; omega))) | fail)
      exact ⟨_, .refl _, oa, oc, rfl, by simp [rput, hl, hs]⟩
    · repeat' (first | ((with_reducible apply T.mv); apply rfl; apply rfl) | ((with_reducible apply T.len); apply rfl; apply rfl) | ((with_reducible apply T.nilCheck); apply rfl; apply rfl) | ((with_reducible apply T.fieldAddrZ); apply rfl; apply rfl) | ((with_reducible apply T.load); apply rfl; apply rfl; infer_instance; apply rfl; apply rfl) | ((with_reducible apply T.geq); apply rfl; apply rfl; apply rfl) | ((with_reducible apply T.eql); apply rfl; apply rfl; apply rfl) | ((with_reducible apply T.pickT); apply rfl; apply rfl; apply rfl) | ((with_reducible apply T.store); apply rfl; apply rfl; infer_instance; (first | decide | (simp; omega) | simp); apply rfl) | ((with_reducible apply T.bs); apply rfl; apply rfl; apply rfl; apply rfl; apply rfl; apply rfl; intro nb) | ((with_reducible apply T.appendB); apply rfl; apply rfl; infer_instance; apply rfl; (constructor <;> omega); apply rfl; intro na nc) | with_reducible refine Sr.nil ?_ | with_reducible refine S.seq ?_ | with_reducible refine S.reg ?_ | with_reducible refine S.skip ?_ | ((with_reducible apply S.quiet); apply rfl; kernel_rfl) | ((with_reducible apply T.ung); apply rfl) | ((with_reducible apply S.condT); apply rfl) | ((with_reducible apply T.doneW); apply rfl) | ((with_reducible apply S.condQ); apply rfl; all_goals (intro _; try (exfalso; omega))) | fail)
      refine ⟨_, .refl _, na, nc, rfl, by simp [rput, hl]⟩
  · repeat' (first | ((with_reducible apply T.mv); apply rfl; apply rfl) | ((with_reducible apply T.nilCheck); apply rfl; apply rfl) | ((with_reducible apply T.fieldAddrZ); apply rfl; apply rfl) | ((with_reducible apply T.load); apply rfl; apply rfl; infer_instance; apply rfl; apply rfl) | ((with_reducible apply T.eql); apply rfl; apply rfl; apply rfl) | ((with_reducible apply T.pickF); apply rfl; apply rfl; apply rfl) | with_reducible refine Sr.nil ?_ | with_reducible refine S.seq ?_ | with_reducible refine S.reg ?_ | with_reducible refine S.skip ?_ | ((with_reducible apply S.quiet); apply rfl; kernel_rfl) | ((with_reducible apply T.skip); apply rfl; apply rfl; apply rfl) | ((with_reducible apply S.condF); apply rfl) | ((with_reducible apply T.doneW); apply rfl) | ((with_reducible apply S.condQ); apply rfl; all_goals (intro _; try (exfalso; omega))) | ((with_reducible apply T.gcase); apply rfl; apply rfl; all_goals (intro _; try (exfalso; omega))) | fail)
    exact ⟨_, .refl _, oa, oc, rfl, by simp [rput, hE]⟩
end Go.Proofs.YtjhpbljkpbdnnaaDoor
