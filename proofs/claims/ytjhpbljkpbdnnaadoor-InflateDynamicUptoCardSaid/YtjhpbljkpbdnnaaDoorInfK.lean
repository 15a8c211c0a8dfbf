/- The walks of the program's blocks, all of them, and of the sum. -/
import Derived.Test.YtjhpbljkpbdnnaaDoorInfJ
namespace Go.Proofs.YtjhpbljkpbdnnaaDoor
open Sg Go.IntWalk Infl
set_option maxRecDepth 100000
theorem blocks_spec {F : World} {M : List Nat} {H : List Res} {p c oc : Nat} {b oa : Option Addr} {most : Nat} {bs out : List UInt8} [Rd F M H b (bs.map bV)] [hg : ∀ H, Rd F M H (some ⟨0, 0, none⟩) (ordL.map nV)] {pos : Nat} (hp : pos ≤ 8 * bs.length) (hb : bs.length ≤ 1000000000000000) (hm : out.length ≤ most) (hmx : most ≤ 1048576) :
    Meets Tryd.prog 33 [.pointer (some ⟨p, 0, none⟩)] F M (.blk p (rd b bs c pos most oa out.length oc) 59 :: rw_ oa oc out :: H) (Left p b bs c most H (.tuple #[]) (blocksL bs most (8 * bs.length + 1) pos out)) := by
  refine Meets.enter Tryd.func33 rfl rfl ?_
  repeat' (first | ((with_reducible apply T.asn); apply rfl; apply rfl) | with_reducible refine Sr.nil ?_ | with_reducible refine S.seq ?_ | with_reducible refine S.block ?_ | with_reducible refine S.reg ?_ | fail)
  refine S.loopE 2 [0] (fun R b' μ H' e => ∃ (f last pos' : Nat) (out' : List UInt8) (oa : Option Addr) (oc : Nat), H' = .blk p (rd b bs c pos' most oa out'.length oc) 59 :: rw_ oa oc out' :: R ∧ e = (2, .int .i64 last) :: b' ∧
    (pos' ≤ 8 * bs.length ∧ out'.length ≤ most ∧ 8 * bs.length < f + pos' ∧ (if last = 0 then blocksL bs most f pos' out' else .ok (pos', out')) = blocksL bs most (8 * bs.length + 1) pos out) ∧ μ = f) rfl rfl ?_ _ _ ⟨8 * bs.length + 1, 0, pos, out, oa, oc, rfl, rfl, ⟨hp, hm, by omega, rfl⟩, rfl⟩ (by repeat' first | exact trivial | refine And.intro rfl ?_)
  rintro f _ _ ⟨_, last, pos', out', oa, oc, rfl, rfl, ⟨h1, h2, h3, h4⟩, rfl⟩ ih
  repeat' (first | ((with_reducible apply T.mv); apply rfl; apply rfl) | ((with_reducible apply T.eql); apply rfl; apply rfl; apply rfl) | with_reducible refine Sr.nil ?_ | with_reducible refine S.seq ?_ | with_reducible refine S.reg ?_ | fail)
  refine S.condQ rfl (fun hl => ?_) fun hl => ?_
  · rw [if_pos (by omega)] at h4
    cases f with
    | zero => exfalso; omega
    | succ f =>
    rw [blocksL] at h4
    repeat' (first | ((with_reducible apply T.mv); apply rfl; apply rfl) | with_reducible refine S.seq ?_ | with_reducible refine S.block ?_ | with_reducible refine S.reg ?_ | with_reducible refine S.skip ?_ | fail)
    refine T.call rfl rfl (number_spec (k := 1) (by omega) h1 hb) ?_
    cases r1 : rdN bs 1 pos' with
    | none =>
      rw [r1] at h4
      rintro _ _ ⟨rfl, vs, rfl⟩
      repeat' (first | (with_reducible apply T.diesW) | (with_reducible apply T.ofPan) | fail)
      rw [← h4]
      exact ⟨H, by ((repeat (first | dsimp only [List.set_cons_zero] | dsimp only [List.set_cons_succ])); repeat' first | exact PSub.refl _ | exact PSub.nil | ((with_reducible apply PSub.take); (repeat' first | (with_reducible exact pick_hd) | (with_reducible apply pick_tl))) | (with_reducible apply PSub.drop) | ((apply PSub.take); (repeat' first | exact pick_hd | (apply pick_tl)))), rfl, rfl⟩
    | some r =>
    obtain ⟨last', p1⟩ := r
    rw [r1] at h4
    obtain ⟨-, hp1, hq1⟩ := rdN_le r1
    dsimp only at h4
    rintro _ _ ⟨rfl, rfl⟩
    repeat' (first | ((with_reducible apply T.mv); apply rfl; apply rfl) | ((with_reducible apply T.asn); apply rfl; apply rfl) | with_reducible refine Sr.nil ?_ | with_reducible refine S.seq ?_ | with_reducible refine S.reg ?_ | (with_reducible apply T.ofRet) | fail)
    refine T.call rfl rfl (number_spec (k := 2) (by omega) hp1 hb) ?_
    cases r2 : rdN bs 2 p1 with
    | none =>
      rw [r2] at h4
      rintro _ _ ⟨rfl, vs, rfl⟩
      repeat' (first | (with_reducible apply T.diesW) | (with_reducible apply T.ofPan) | fail)
      rw [← h4]
      exact ⟨H, by ((repeat (first | dsimp only [List.set_cons_zero] | dsimp only [List.set_cons_succ])); repeat' first | exact PSub.refl _ | exact PSub.nil | ((with_reducible apply PSub.take); (repeat' first | (with_reducible exact pick_hd) | (with_reducible apply pick_tl))) | (with_reducible apply PSub.drop) | ((apply PSub.take); (repeat' first | exact pick_hd | (apply pick_tl)))), rfl, rfl⟩
    | some r =>
    obtain ⟨k, p2⟩ := r
    rw [r2] at h4
    obtain ⟨-, hp2, hq2⟩ := rdN_le r2
    dsimp only at h4
    rintro _ _ ⟨rfl, rfl⟩
    have hle : ∀ {r : Nat × List UInt8}, kindB bs most k p2 out' = .ok r → p2 ≤ r.1 := kindB_le
    repeat' (first | ((with_reducible apply T.asn); apply rfl; apply rfl) | ((with_reducible apply T.eql); apply rfl; apply rfl; apply rfl) | with_reducible refine Sr.nil ?_ | with_reducible refine S.seq ?_ | with_reducible refine S.block ?_ | with_reducible refine S.reg ?_ | (with_reducible apply T.ofRet) | fail)
    refine S.condQ rfl (fun hk => ?_) fun hk => ?_
    · have hk' : k = 0 := by omega
      subst hk'
      simp only [kindB, if_true] at h4 hle
      repeat' (first | ((with_reducible apply T.mv); apply rfl; apply rfl) | with_reducible refine S.reg ?_ | fail)
      refine T.call rfl rfl (stored_spec hp2 hb h2 hmx) ?_
      cases hr : raw bs most p2 out' with
      | error e =>
        rw [hr] at h4
        rintro _ _ ⟨rfl, rfl⟩
        repeat' (first | (with_reducible apply T.diesW) | (with_reducible apply T.ofPan) | fail)
        rw [← h4]
        exact ⟨_, .refl _, rfl, rfl⟩
      | ok r =>
        obtain ⟨p3, out3⟩ := r
        have := hle hr
        rw [hr] at h4
        rintro _ _ ⟨oa, oc, rfl, rfl, g1, g2⟩
        repeat' (first | with_reducible refine Sr.nil ?_ | with_reducible refine S.inBlock ?_ | (with_reducible apply T.ofRet) | fail)
        exact ih _ _ _ _ ⟨f, last', p3, out3, oa, oc, rfl, rfl, ⟨g1, g2, by simp only at this; omega, h4⟩, rfl⟩ (by omega) (by repeat' first | exact trivial | refine And.intro rfl ?_)
    have k0 : ¬ k = 0 := by omega
    repeat' (first | ((with_reducible apply T.asn); apply rfl; apply rfl) | ((with_reducible apply T.eql); apply rfl; apply rfl; apply rfl) | with_reducible refine Sr.nil ?_ | with_reducible refine S.seq ?_ | with_reducible refine S.reg ?_ | fail)
    refine S.condQ rfl (fun hk => ?_) fun hk => ?_
    · have hk' : k = 1 := by omega
      subst hk'
      simp only [kindB, k0, if_true, if_false] at h4 hle
      repeat' (first | ((with_reducible apply T.mv); apply rfl; apply rfl) | with_reducible refine S.reg ?_ | fail)
      refine T.call rfl rfl fixed_spec ?_
      rintro _ _ ⟨sa, sc, ta, tc, rfl, rfl⟩
      repeat' (first | ((with_reducible apply T.extract); apply rfl; apply rfl; apply rfl) | (with_reducible apply T.ofRet) | fail)
      refine Sr.frontR oa ?_
      refine Sr.front p ?_
      refine T.call rfl rfl (symbols_spec hp2 hb h2 hmx (by simp [fixedL]) (by simp [fixedD])) ?_
      cases hr : syms bs fixedL fixedD most p2 out' with
      | error e =>
        rw [hr] at h4
        rintro _ _ ⟨rfl, rfl⟩
        repeat' (first | (with_reducible apply T.diesW) | (with_reducible apply T.ofPan) | fail)
        rw [← h4]
        exact ⟨H, by ((repeat (first | dsimp only [List.set_cons_zero] | dsimp only [List.set_cons_succ])); repeat' first | exact PSub.refl _ | exact PSub.nil | ((with_reducible apply PSub.take); (repeat' first | (with_reducible exact pick_hd) | (with_reducible apply pick_tl))) | (with_reducible apply PSub.drop) | ((apply PSub.take); (repeat' first | exact pick_hd | (apply pick_tl)))), rfl, rfl⟩
      | ok r =>
        obtain ⟨p3, out3⟩ := r
        have := hle hr
        rw [hr] at h4
        rintro _ _ ⟨oa, oc, rfl, rfl, g1, g2⟩
        repeat' (first | with_reducible refine Sr.nil ?_ | with_reducible refine S.inBlock ?_ | (with_reducible apply T.ofRet) | fail)
        refine S.sublist (H' := .blk p (rd b bs c p3 most oa out3.length oc) 59 :: rw_ oa oc out3 :: H) ?_ (by ((repeat (first | dsimp only [List.set_cons_zero] | dsimp only [List.set_cons_succ])); repeat' first | exact PSub.refl _ | exact PSub.nil | ((with_reducible apply PSub.take); (repeat' first | (with_reducible exact pick_hd) | (with_reducible apply pick_tl))) | (with_reducible apply PSub.drop) | ((apply PSub.take); (repeat' first | exact pick_hd | (apply pick_tl)))))
        exact ih _ _ _ _ ⟨f, last', p3, out3, oa, oc, rfl, rfl, ⟨g1, g2, by simp only at this; omega, h4⟩, rfl⟩ (by omega) (by repeat' first | exact trivial | refine And.intro rfl ?_)
    have k1 : ¬ k = 1 := by omega
    repeat' (first | ((with_reducible apply T.asn); apply rfl; apply rfl) | ((with_reducible apply T.eql); apply rfl; apply rfl; apply rfl) | with_reducible refine Sr.nil ?_ | with_reducible refine S.seq ?_ | with_reducible refine S.reg ?_ | fail)
    refine S.condQ rfl (fun hk => ?_) fun hk => ?_
    · have hk' : k = 2 := by omega
      subst hk'
      simp only [kindB, k0, k1, if_true, if_false] at h4 hle
      repeat' (first | ((with_reducible apply T.mv); apply rfl; apply rfl) | with_reducible refine S.reg ?_ | fail)
      refine T.call rfl rfl (dynamic_spec hp2 hb) ?_
      cases hd : dyn bs p2 with
      | error e =>
        rw [hd] at h4
        rintro _ _ ⟨rfl, rfl⟩
        repeat' (first | (with_reducible apply T.diesW) | (with_reducible apply T.ofPan) | fail)
        rw [← h4]
        exact ⟨H, by ((repeat (first | dsimp only [List.set_cons_zero] | dsimp only [List.set_cons_succ])); repeat' first | exact PSub.refl _ | exact PSub.nil | ((with_reducible apply PSub.take); (repeat' first | (with_reducible exact pick_hd) | (with_reducible apply pick_tl))) | (with_reducible apply PSub.drop) | ((apply PSub.take); (repeat' first | exact pick_hd | (apply pick_tl)))), rfl, rfl⟩
      | ok r =>
      obtain ⟨pd, ll, dl⟩ := r
      rw [hd] at h4 hle
      dsimp only at h4 hle
      rintro _ _ ⟨sa, sc, ta, tc, rfl, rfl, hpd, hll, hdl⟩
      repeat' (first | ((with_reducible apply T.extract); apply rfl; apply rfl; apply rfl) | (with_reducible apply T.ofRet) | fail)
      refine Sr.frontR oa ?_
      refine Sr.front p ?_
      refine T.call rfl rfl (symbols_spec hpd hb h2 hmx hll hdl) ?_
      cases hr : syms bs ll dl most pd out' with
      | error e =>
        rw [hr] at h4
        rintro _ _ ⟨rfl, rfl⟩
        repeat' (first | (with_reducible apply T.diesW) | (with_reducible apply T.ofPan) | fail)
        rw [← h4]
        exact ⟨H, by ((repeat (first | dsimp only [List.set_cons_zero] | dsimp only [List.set_cons_succ])); repeat' first | exact PSub.refl _ | exact PSub.nil | ((with_reducible apply PSub.take); (repeat' first | (with_reducible exact pick_hd) | (with_reducible apply pick_tl))) | (with_reducible apply PSub.drop) | ((apply PSub.take); (repeat' first | exact pick_hd | (apply pick_tl)))), rfl, rfl⟩
      | ok r =>
        obtain ⟨p3, out3⟩ := r
        have := hle hr
        rw [hr] at h4
        rintro _ _ ⟨oa, oc, rfl, rfl, g1, g2⟩
        repeat' (first | with_reducible refine Sr.nil ?_ | with_reducible refine S.inBlock ?_ | (with_reducible apply T.ofRet) | fail)
        refine S.sublist (H' := .blk p (rd b bs c p3 most oa out3.length oc) 59 :: rw_ oa oc out3 :: H) ?_ (by ((repeat (first | dsimp only [List.set_cons_zero] | dsimp only [List.set_cons_succ])); repeat' first | exact PSub.refl _ | exact PSub.nil | ((with_reducible apply PSub.take); (repeat' first | (with_reducible exact pick_hd) | (with_reducible apply pick_tl))) | (with_reducible apply PSub.drop) | ((apply PSub.take); (repeat' first | exact pick_hd | (apply pick_tl)))))
        exact ih _ _ _ _ ⟨f, last', p3, out3, oa, oc, rfl, rfl, ⟨g1, g2, by simp only at this; omega, h4⟩, rfl⟩ (by omega) (by repeat' first | exact trivial | refine And.intro rfl ?_)
    have k2 : ¬ k = 2 := by omega
    simp only [kindB, k0, k1, k2, if_false] at h4
    repeat' (first | with_reducible refine S.reg ?_ | fail)
    refine T.call rfl rfl (give_spec 240) ?_
    rintro _ _ ⟨rfl, rfl⟩
    repeat' (first | (with_reducible apply T.diesW) | (with_reducible apply T.ofPan) | fail)
    rw [← h4]
    exact ⟨H, by ((repeat (first | dsimp only [List.set_cons_zero] | dsimp only [List.set_cons_succ])); repeat' first | exact PSub.refl _ | exact PSub.nil | ((with_reducible apply PSub.take); (repeat' first | (with_reducible exact pick_hd) | (with_reducible apply pick_tl))) | (with_reducible apply PSub.drop) | ((apply PSub.take); (repeat' first | exact pick_hd | (apply pick_tl)))), rfl, rfl⟩
  · rw [if_neg (by omega)] at h4
    repeat' (first | ((with_reducible apply S.exit); apply rfl) | ((with_reducible apply T.doneW); apply rfl) | fail)
    rw [← h4]
    exact ⟨_, .refl _, oa, oc, rfl, rfl, h1, h2⟩
theorem adler_spec {F : World} {M : List Nat} {H : List Res} {c : Nat} {b : Option Addr} {bs : List UInt8} [hR : Rd F M H b (bs.map bV)] (hb : bs.length ≤ 1000000000000000) :
    Meets Tryd.prog 30 [.slice b bs.length c] F M H (fun e H' => e = .returned (.int .u32 (adler bs)) ∧ H' = H) := by
  refine Meets.enter Tryd.func30 rfl rfl ?_
  repeat' (first | ((with_reducible apply T.mv); apply rfl; apply rfl) | ((with_reducible apply T.asn); apply rfl; apply rfl) | ((with_reducible apply T.len); apply rfl; apply rfl) | with_reducible refine Sr.nil ?_ | with_reducible refine S.seq ?_ | with_reducible refine S.block ?_ | with_reducible refine S.reg ?_ | fail)
  refine S.loopE 0 [7, 8] (fun R b' μ H' e => ∃ i : Nat, H' = R ∧ e = (3, .int .u32 (adl (bs.take i) (1, 0)).1) :: (4, .int .u32 (adl (bs.take i) (1, 0)).2) :: (9, .int .i64 i) :: b' ∧ i ≤ bs.length ∧ μ = bs.length - i) rfl rfl ?_ _ _ ⟨0, rfl, rfl, by omega, rfl⟩ (by repeat' first | exact trivial | refine And.intro rfl ?_)
  rintro _ _ _ ⟨i, rfl, rfl, hi, rfl⟩ ih
  obtain ⟨x1, x2⟩ := adl_lt (bs.take i) (1, 0) (by decide) (by decide)
  have hnx : i < bs.length → bs.take (i + 1) = bs.take i ++ [bs.getD i 0] := fun h => by
    rw [List.take_succ_eq_append_getElem h]
    simp [List.getD, h]
  have h8 := (bs.getD i 0).toNat_lt
  generalize hs : adl (bs.take i) (1, 0) = s at x1 x2
  repeat' (first | ((with_reducible apply T.addU32N); apply rfl; apply rfl; omega; apply rfl) | ((with_reducible apply T.remU32 (n := 65521)); apply rfl; apply rfl; omega; apply rfl) | ((with_reducible apply T.shlU32 (n := 16)); apply rfl; apply rfl; omega; omega; apply rfl) | ((with_reducible apply T.orU32); apply rfl; apply rfl; omega; omega; apply rfl) | ((with_reducible apply T.mv); apply rfl; apply rfl) | ((with_reducible apply T.asn); apply rfl; apply rfl) | ((with_reducible apply T.lss); apply rfl; apply rfl; apply rfl) | ((with_reducible apply T.addI); apply rfl; apply rfl; omega; apply rfl) | ((with_reducible apply T.ixN); apply rfl; apply rfl; infer_instance; omega; (first | omega | (simp; omega)); apply rfl) | ((with_reducible apply T.loadB); apply rfl; infer_instance; omega; apply rfl) | ((with_reducible apply T.convU32); apply rfl; omega; apply rfl) | with_reducible refine Sr.nil ?_ | with_reducible refine S.seq ?_ | with_reducible refine S.block ?_ | with_reducible refine S.reg ?_ | with_reducible refine S.skip ?_ | with_reducible refine S.inBlock ?_ | ((with_reducible apply S.exit); apply rfl) | ((with_reducible apply T.retW); apply rfl) | ((with_reducible apply S.condQ); apply rfl; all_goals (intro _; try (exfalso; omega))) | fail)
  · refine ih _ _ _ _ ⟨i + 1, rfl, rfl, by omega, rfl⟩ (by omega) ?_
    rw [hnx (by omega), adl_snoc, hs]
    exact (by repeat' first | exact trivial | refine And.intro rfl ?_)
  · have : bs.take i = bs := List.take_of_length_le (by omega)
    rw [this] at hs
    refine ⟨_, .refl _, ?_, rfl⟩
    have e1 : s.2 * 2 ^ 16 ||| s.1 = adler bs := by
      rw [Nat.mul_comm, ← Nat.two_pow_add_eq_or_of_lt (by omega), adler, hs, Nat.mul_comm]
    rw [e1]
end Go.Proofs.YtjhpbljkpbdnnaaDoor
