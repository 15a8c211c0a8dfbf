/- The walk of the document's stored blocks. -/
import Derived.Test.YtjhpbljkpbdnnaaDoorInfN
import Derived.Test.YtjhpbljkpbdnnaaDoorInfR
namespace Go.Proofs.YtjhpbljkpbdnnaaDoor
open Sg Go.IntWalk Infl
set_option maxRecDepth 100000
/-- What a part of the document's reader leaves: the answer r, or the fault. -/
def LeftR (p : Nat) (b : Option Addr) (bs : List UInt8) (c most : Nat) (H : List Res) (r : Except Nat (Nat × List UInt8)) (e : Ending) (H' : List Res) : Prop := ∃ (pos' : Nat) (out' : List UInt8) (E : Nat) (oa : Option Addr) (oc : Nat),
  e = .returned (.tuple #[]) ∧ H' = .blk p (rr b bs.length c pos' most oa out'.length oc E) 62 :: rw_ oa oc out' :: H ∧ pos' ≤ 8 * bs.length ∧ out'.length ≤ most ∧ r = if E = 0 then .ok (pos', out') else .error E
theorem rdN_byte {bs : List UInt8} {a : Nat} : rdN bs 8 (8 * a) = if a < bs.length then some ((bs.getD a 0).toNat, 8 * (a + 1)) else none := by
  unfold rdN
  by_cases h : a < bs.length
  · rw [if_pos (by omega), if_pos h, num_byte, Nat.mul_succ]
  · rw [if_neg (by omega), if_neg h]
theorem storedR_spec {F : World} {M : List Nat} {H : List Res} {p c oc : Nat} {b oa : Option Addr} {most : Nat} {bs out : List UInt8} [Rd F M H b (bs.map bV)] {pos : Nat} (hp : pos ≤ 8 * bs.length) (hb : bs.length ≤ 1000000000000000) (hm : out.length ≤ most) (hmx : most ≤ 1048576) :
    Meets Tryd.prog 36 [.pointer (some ⟨p, 0, none⟩)] F M (.blk p (rr b bs.length c pos most oa out.length oc 0) 62 :: rw_ oa oc out :: H) (LeftR p b bs c most H (raw bs most pos out)) := by
  refine Meets.enter Tryd.func36 rfl rfl ?_
  generalize hA : (pos + 7) / 8 = A
  repeat' (first | with_reducible refine S.seq ?_ | with_reducible refine S.block ?_ | fail)
  refine S.loopE 1 [0] (fun R b' μ H' e => ∃ a' : Nat, H' = .blk p (rr b bs.length c a' most oa out.length oc 0) 62 :: R ∧ e = b' ∧ (pos ≤ a' ∧ a' ≤ 8 * A) ∧ μ = 8 * A - a') rfl rfl ?_ _ _ ⟨pos, rfl, rfl, ⟨by omega, by omega⟩, rfl⟩ (by repeat' first | exact trivial | refine And.intro rfl ?_)
  rintro _ _ _ ⟨a', rfl, rfl, ⟨h1, h2⟩, rfl⟩ ih
  have hr : (a' : Int).tmod 8 = ((a' % 8 : Nat) : Int) := by rw [Int.tmod_eq_emod_of_nonneg (by omega)]; omega
  repeat' (first | ((with_reducible apply T.rem (r := ((a' % 8 : Nat) : Int))); apply rfl; apply rfl; omega; exact hr; apply rfl) | ((with_reducible apply T.mv); apply rfl; apply rfl) | ((with_reducible apply T.nilCheck); apply rfl; apply rfl) | ((with_reducible apply T.fieldAddrZ); apply rfl; apply rfl) | ((with_reducible apply T.load); apply rfl; apply rfl; infer_instance; apply rfl; apply rfl) | ((with_reducible apply T.neq); apply rfl; apply rfl; apply rfl) | ((with_reducible apply T.addI); apply rfl; apply rfl; omega; apply rfl) | ((with_reducible apply T.store); apply rfl; apply rfl; infer_instance; (first | decide | (simp; omega) | simp); apply rfl) | with_reducible refine Sr.nil ?_ | with_reducible refine S.seq ?_ | with_reducible refine S.block ?_ | with_reducible refine S.reg ?_ | with_reducible refine S.skip ?_ | with_reducible refine S.inBlock ?_ | ((with_reducible apply S.exit); apply rfl) | ((with_reducible apply S.condQ); apply rfl; all_goals (intro _; try (exfalso; omega))) | fail)
  · exact ih _ _ _ _ ⟨a' + 1, rfl, rfl, ⟨by omega, by omega⟩, rfl⟩ (by omega) (by repeat' first | exact trivial | refine And.intro rfl ?_)
  rename_i h8
  have ha8 : a' = 8 * A := by omega
  subst ha8
  clear ih h8 hr h1 h2
  refine T.call rfl rfl (numR_spec hb (by omega) (k := 16) (by omega)) ?_
  rintro _ _ ⟨n, a1, E1, rfl, rfl, q1, q2, q3, -⟩
  replace q3 := q3 rfl
  repeat' (first | ((with_reducible apply T.mv); apply rfl; apply rfl) | ((with_reducible apply T.asn); apply rfl; apply rfl) | with_reducible refine Sr.nil ?_ | with_reducible refine S.seq ?_ | with_reducible refine S.reg ?_ | (with_reducible apply T.ofRet) | fail)
  refine T.call rfl rfl (numR_spec hb q2 (k := 16) (by omega)) ?_
  rintro _ _ ⟨m', a2, E2, rfl, rfl, r1, r2, r3, r4⟩
  repeat' (first | ((with_reducible apply T.mv); apply rfl; apply rfl) | ((with_reducible apply T.asn); apply rfl; apply rfl) | ((with_reducible apply T.neq); apply rfl; apply rfl; apply rfl) | ((with_reducible apply T.addI); apply rfl; apply rfl; omega; apply rfl) | with_reducible refine Sr.nil ?_ | with_reducible refine S.seq ?_ | with_reducible refine S.reg ?_ | (with_reducible apply T.ofRet) | fail)
  refine S.cut (fun H' e' => ∃ E3, E3 = (if n + m' = 65535 then E2 else stopE E2 240) ∧ H' = .blk p (rr b bs.length c a2 most oa out.length oc E3) 62 :: rw_ oa oc out :: H ∧ e' = [(0, .pointer (some ⟨p, 0, none⟩)), (2, .int .i64 n)]) ?_ ?_
  · intro k' hrest
    repeat' (first | (refine T.call rfl rfl (stop_spec 240 (by omega)) ?_; rintro _ _ ⟨rfl, rfl⟩) | ((with_reducible apply T.mv); apply rfl; apply rfl) | with_reducible refine Sr.nil ?_ | with_reducible refine S.reg ?_ | with_reducible refine S.skip ?_ | (with_reducible apply T.ofRet) | ((with_reducible apply S.condQ); apply rfl; all_goals (intro _; try (exfalso; omega))) | fail)
    · exact hrest _ _ _ ⟨_, by rw [if_neg (by omega)], rfl, rfl⟩ (by repeat' first | exact trivial | refine And.intro rfl ?_)
    · exact hrest _ _ _ ⟨_, by rw [if_pos (by omega)], rfl, rfl⟩ (by repeat' first | exact trivial | refine And.intro rfl ?_)
  rintro _ _ ⟨E3, hE3, rfl, rfl⟩
  have hraw : (E3 = 0 → raw bs most pos out = rawL bs most n (A + 4) out ∧ a2 = 8 * (A + 4) ∧ A + 4 ≤ bs.length) ∧ (E3 ≠ 0 → raw bs most pos out = .error E3) := by
    unfold raw
    rw [hA]
    cases g1 : rdN bs 16 (8 * A) with
    | none =>
      rw [g1] at q3
      simp only at q3
      have := r4 (by omega)
      have h3 : E3 = 240 := by rw [hE3]; split <;> simp [stopE, this, q3]
      exact ⟨fun h => by omega, fun _ => by rw [h3]⟩
    | some r =>
      obtain ⟨v, p1⟩ := r
      rw [g1] at q3
      simp only at q3
      obtain ⟨rfl, rfl, rfl⟩ := q3
      replace r3 := r3 rfl
      have gl := rdN_le g1
      cases g2 : rdN bs 16 a1 with
      | none =>
        rw [g2] at r3
        simp only at r3
        have h3 : E3 = 240 := by rw [hE3]; split <;> simp [stopE, r3]
        exact ⟨fun h => by omega, fun _ => by simp only [g2]; rw [h3]⟩
      | some r =>
        obtain ⟨v, p2⟩ := r
        rw [g2] at r3
        simp only at r3
        obtain ⟨rfl, rfl, rfl⟩ := r3
        have gl2 := rdN_le g2
        by_cases hs : n + m' = 65535
        · rw [if_pos hs] at hE3
          have e4 : a2 / 8 = A + 4 := by omega
          simp only [g2]
          rw [if_pos (by omega), e4]
          exact ⟨fun _ => ⟨rfl, by omega, by omega⟩, fun h => absurd hE3 h⟩
        · rw [if_neg hs] at hE3
          have h3 : E3 = 240 := hE3
          simp only [g2]
          rw [if_neg (by omega), h3]
          exact ⟨fun h => by omega, fun _ => rfl⟩
  clear q3 r3 r4 hE3 r1 m' E2 E1 q2 a1
  generalize raw bs most pos out = X at hraw ⊢
  repeat' (first | ((with_reducible apply T.asn); apply rfl; apply rfl) | with_reducible refine Sr.nil ?_ | with_reducible refine S.seq ?_ | with_reducible refine S.block ?_ | with_reducible refine S.reg ?_ | fail)
  refine S.loopE 2 [0, 2] (fun R b' μ H' e => ∃ (i pos' : Nat) (out' : List UInt8) (oa : Option Addr) (oc E' : Nat), H' = .blk p (rr b bs.length c pos' most oa out'.length oc E') 62 :: rw_ oa oc out' :: R ∧ e = (4, .int .i64 i) :: b' ∧
    (i ≤ n ∧ pos' ≤ 8 * bs.length ∧ out'.length ≤ most ∧ (E' = 0 → ∃ at', pos' = 8 * at' ∧ at' ≤ bs.length ∧ X = rawL bs most (n - i) at' out') ∧ (E' ≠ 0 → X = .error E')) ∧ μ = n - i) rfl rfl ?_ _ _ ⟨0, a2, out, oa, oc, E3, rfl, rfl, ⟨by omega, r2, hm, fun h => ⟨A + 4, (hraw.1 h).2.1, (hraw.1 h).2.2, (hraw.1 h).1⟩, hraw.2⟩, rfl⟩ (by repeat' first | exact trivial | refine And.intro rfl ?_)
  rintro _ _ _ ⟨i, pos', out', oa, oc, E', rfl, rfl, ⟨h1, h2, h3, h4, h5⟩, rfl⟩ ih
  repeat' (first | ((with_reducible apply T.mv); apply rfl; apply rfl) | ((with_reducible apply T.nilCheck); apply rfl; apply rfl) | ((with_reducible apply T.fieldAddrZ); apply rfl; apply rfl) | ((with_reducible apply T.load); apply rfl; apply rfl; infer_instance; apply rfl; apply rfl) | ((with_reducible apply T.lss); apply rfl; apply rfl; apply rfl) | ((with_reducible apply T.eql); apply rfl; apply rfl; apply rfl) | ((with_reducible apply T.pickT); apply rfl; apply rfl; apply rfl) | ((with_reducible apply T.pickF); apply rfl; apply rfl; apply rfl) | with_reducible refine Sr.nil ?_ | with_reducible refine S.seq ?_ | with_reducible refine S.block ?_ | with_reducible refine S.reg ?_ | with_reducible refine S.skip ?_ | ((with_reducible apply S.exit); apply rfl) | ((with_reducible apply T.ung); apply rfl) | ((with_reducible apply T.skip); apply rfl; apply rfl; apply rfl) | ((with_reducible apply S.condF); apply rfl) | ((with_reducible apply T.doneW); apply rfl) | ((with_reducible apply S.condQ); apply rfl; all_goals (intro _; try (exfalso; omega))) | ((with_reducible apply T.gcase); apply rfl; apply rfl; all_goals (intro _; try (exfalso; omega))) | fail)
  · rename_i hi hE
    have hE' : E' = 0 := by omega
    subst hE'
    obtain ⟨at', rfl, hat, hX⟩ := h4 rfl
    refine T.call rfl rfl (numR_spec hb h2 (k := 8) (by omega)) ?_
    rintro _ _ ⟨v, a1, E1, rfl, rfl, q1, q2, q3, -⟩
    replace q3 := q3 rfl
    have e1 : (v : Int) = ((UInt8.ofNat v).toNat : Int) := by simp; omega
    repeat' (first | ((with_reducible apply T.convU8); apply rfl; omega; apply rfl; rw [e1]) | ((with_reducible apply T.mv); apply rfl; apply rfl) | ((with_reducible apply T.asn); apply rfl; apply rfl) | with_reducible refine Sr.nil ?_ | with_reducible refine S.reg ?_ | (with_reducible apply T.ofRet) | fail)
    refine T.call rfl rfl (putR_spec (UInt8.ofNat v) h3 hmx) ?_
    rintro _ _ ⟨oa, oc, rfl, rfl⟩
    have hni : n - i = (n - (i + 1)) + 1 := by omega
    rw [hni, rawL] at hX
    rw [rdN_byte] at q3
    repeat' (first | ((with_reducible apply T.mv); apply rfl; apply rfl) | ((with_reducible apply T.asn); apply rfl; apply rfl) | ((with_reducible apply T.addI); apply rfl; apply rfl; omega; apply rfl) | with_reducible refine Sr.nil ?_ | with_reducible refine S.reg ?_ | with_reducible refine S.inBlock ?_ | (with_reducible apply T.ofRet) | fail)
    refine ih _ _ _ _ ⟨i + 1, a1, _, oa, oc, _, rfl, rfl, ⟨by omega, q2, ?_, ?_, ?_⟩, rfl⟩ (by omega) (by repeat' first | exact trivial | refine And.intro rfl ?_)
    · unfold rput
      repeat' split
      all_goals simp
      all_goals omega
    · intro h0
      by_cases hlt : at' < bs.length
      · rw [if_pos hlt] at q3
        obtain ⟨hv, rfl, rfl⟩ := q3
        rw [if_neg (by omega), ← (UInt8.toNat_inj.1 (by rw [← hv]; simp; omega) : UInt8.ofNat v = bs.getD at' 0)] at hX
        unfold put at hX
        unfold rput at h0 ⊢
        by_cases hl : out'.length = most
        · simp [hl] at h0
        · simp only [hl, if_false, if_true] at hX ⊢
          exact ⟨at' + 1, rfl, by omega, hX⟩
      · rw [if_neg hlt] at q3
        subst q3
        simp [rput] at h0
    · intro h0
      by_cases hlt : at' < bs.length
      · rw [if_pos hlt] at q3
        obtain ⟨hv, rfl, rfl⟩ := q3
        rw [if_neg (by omega), ← (UInt8.toNat_inj.1 (by rw [← hv]; simp; omega) : UInt8.ofNat v = bs.getD at' 0)] at hX
        unfold put at hX
        unfold rput at h0 ⊢
        by_cases hl : out'.length = most
        · simp only [hl, if_true] at hX ⊢
          exact hX
        · simp [hl] at h0
      · rw [if_neg hlt] at q3
        subst q3
        rw [if_pos (by omega)] at hX
        rw [hX]
        simp [rput]
  all_goals
    refine ⟨_, .refl _, pos', out', E', oa, oc, rfl, rfl, h2, h3, ?_⟩
    by_cases hE : E' = 0
    · obtain ⟨at', rfl, hat, hX⟩ := h4 hE
      rw [if_pos hE, hX, show n - i = 0 by omega, rawL]
    · rw [if_neg hE]
      exact h5 hE
end Go.Proofs.YtjhpbljkpbdnnaaDoor
