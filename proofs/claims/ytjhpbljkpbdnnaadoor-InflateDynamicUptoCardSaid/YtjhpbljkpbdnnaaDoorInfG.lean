/- The walks of the program's blocks. -/
import Derived.Test.YtjhpbljkpbdnnaaDoorInfF
import Derived.Test.YtjhpbljkpbdnnaaDoorInfQ
namespace Go.Proofs.YtjhpbljkpbdnnaaDoor
open Sg Go.IntWalk Infl
set_option maxRecDepth 100000
abbrev rw_ (oa : Option Addr) (oc : Nat) (out : List UInt8) : Res := .row oa oc 5 1 out.length (out.map bV)
/-- What a part of the reader leaves. -/
def Left (p : Nat) (b : Option Addr) (bs : List UInt8) (c most : Nat) (H : List Res) (v : Value) (r : Except Nat (Nat × List UInt8)) (e : Ending) (H' : List Res) : Prop := match r with
  | .ok (pos, out) => ∃ oa oc, e = .returned v ∧ H' = .blk p (rd b bs c pos most oa out.length oc) 59 :: rw_ oa oc out :: H ∧ pos ≤ 8 * bs.length ∧ out.length ≤ most
  | .error k => e = gave k ∧ H' = H
theorem put_at {F : World} {M : List Nat} {H : List Res} {p c oc : Nat} {b oa : Option Addr} {n a m bits most : Nat} {out : List UInt8} (ch : UInt8) (hl : out.length ≤ most) (hm : most ≤ 1048576) :
    Meets Tryd.prog 63 [.pointer (some ⟨p, 0, none⟩), .int .u8 ch.toNat] F M (.blk p (rc b n c a bits m most oa out.length oc) 59 :: rw_ oa oc out :: H) (fun e H' => match put most out ch with
      | .ok out' => ∃ oa oc, e = .returned (.tuple #[]) ∧ H' = .blk p (rc b n c a bits m most oa out'.length oc) 59 :: rw_ oa oc out' :: H
      | .error k => e = gave k ∧ PSub H H') := by
  refine (put_spec (pos := a) (bits := bits) (m := m) (most := most) ch (by omega)).mono fun e H' h => ?_
  unfold put
  by_cases hq : out.length = most
  · rw [if_pos (by omega)] at h
    obtain ⟨rfl, rfl⟩ := h
    rw [if_pos hq]
    exact ⟨rfl, by ((repeat (first | dsimp only [List.set_cons_zero] | dsimp only [List.set_cons_succ])); repeat' first | exact PSub.refl _ | exact PSub.nil | ((with_reducible apply PSub.take); (repeat' first | (with_reducible exact pick_hd) | (with_reducible apply pick_tl))) | (with_reducible apply PSub.drop) | ((apply PSub.take); (repeat' first | exact pick_hd | (apply pick_tl))))⟩
  · rw [if_neg (by omega)] at h
    rw [if_neg hq]
    exact h
theorem extra_spec {F : World} {M : List Nat} {H : List Res} {s each first : Nat} (h0 : 0 < each) (h1 : s ≤ 100 ∧ each ≤ 10 ∧ first ≤ 10) (h2 : s / each ≤ 20) :
    Meets Tryd.prog 72 [.int .i64 s, .int .i64 each, .int .i64 first] F M H (fun e H' => e = .returned (.tuple ⟨[.int .i64 (extra s each first).1, .int .i64 (extra s each first).2]⟩) ∧ H' = H) := by
  refine Meets.enter Tryd.func72 rfl rfl ?_
  have hpw : (2 : Nat) ^ (s / each - 1) ≤ 524288 := Nat.pow_le_pow_right (n := 2) (by omega) (show s / each - 1 ≤ 19 by omega)
  have hm : s % each < each := Nat.mod_lt _ h0
  have hq : (s : Int).tdiv each = ((s / each : Nat) : Int) := by rw [Int.tdiv_eq_ediv_of_nonneg (by omega)]; simp
  have hr : (s : Int).tmod each = ((s % each : Nat) : Int) := by rw [Int.tmod_eq_emod_of_nonneg (by omega)]; simp
  have hge : ¬ s < 2 * each → 2 ≤ s / each := fun h => (Nat.le_div_iff_mul_le h0).2 (by omega)
  repeat' (first | ((with_reducible apply T.quo (r := ((s / each : Nat) : Int))); apply rfl; apply rfl; omega; (rw [hq]; exact i64_in _ (by omega)); apply rfl) | ((with_reducible apply T.rem (r := ((s % each : Nat) : Int))); apply rfl; apply rfl; omega; exact hr; apply rfl) | ((with_reducible apply T.mv); apply rfl; apply rfl) | ((with_reducible apply T.asn); apply rfl; apply rfl) | ((with_reducible apply T.lss); apply rfl; apply rfl; apply rfl) | ((with_reducible apply T.addI); apply rfl; apply rfl; omega; apply rfl) | ((with_reducible apply T.subI); apply rfl; apply rfl; omega; apply rfl) | ((with_reducible apply T.mulI); apply rfl; apply rfl; omega; apply rfl) | with_reducible refine Sr.nil ?_ | with_reducible refine S.seq ?_ | with_reducible refine S.reg ?_ | with_reducible refine S.skip ?_ | ((with_reducible apply T.retW); apply rfl) | ((with_reducible apply S.condQ); apply rfl; all_goals (intro _; try (exfalso; omega))) | fail)
  · refine ⟨_, .refl _, ?_⟩
    have : s < 2 * each := by omega
    simp [extra, this]
  · have hlt : ¬ s < 2 * each := by omega
    have h3 := hge hlt
    have e1 : ((each : Int) + ((s % each : Nat) : Int)).toNat = each + s % each := by omega
    have e2 : (((s / each : Nat) : Int) - 1).toNat = s / each - 1 := by omega
    have hml : (each + s % each) * 2 ^ (s / each - 1) ≤ 20 * 524288 := Nat.mul_le_mul (by omega) hpw
    repeat' (first | ((with_reducible apply T.shlGI64); apply rfl; apply rfl; omega; (rw [e1, e2]; omega); apply rfl; rw [e1, e2]) | ((with_reducible apply T.mv); apply rfl; apply rfl) | ((with_reducible apply T.asn); apply rfl; apply rfl) | ((with_reducible apply T.addI); apply rfl; apply rfl; omega; apply rfl) | with_reducible refine Sr.nil ?_ | ((with_reducible apply T.retW); apply rfl) | fail)
    refine ⟨_, .refl _, ?_⟩
    simp only [extra, hlt, if_false]
    have e3 : (((s / each - 1 : Nat)) : Int) = ((s / each : Nat) : Int) - 1 := by omega
    rw [e3]
    simp
theorem stored_spec {F : World} {M : List Nat} {H : List Res} {p c oc : Nat} {b oa : Option Addr} {most : Nat} {bs out : List UInt8} [Rd F M H b (bs.map bV)] {pos : Nat} (hp : pos ≤ 8 * bs.length) (hb : bs.length ≤ 1000000000000000) (hm : out.length ≤ most) (hmx : most ≤ 1048576) :
    Meets Tryd.prog 50 [.pointer (some ⟨p, 0, none⟩)] F M (.blk p (rd b bs c pos most oa out.length oc) 59 :: rw_ oa oc out :: H) (Left p b bs c most H (.tuple #[]) (raw bs most pos out)) := by
  refine Meets.enter Tryd.func50 rfl rfl ?_
  repeat' (first | ((with_reducible apply T.mv); apply rfl; apply rfl) | ((with_reducible apply T.nilCheck); apply rfl; apply rfl) | ((with_reducible apply T.fieldAddrZ); apply rfl; apply rfl) | ((with_reducible apply T.store); apply rfl; apply rfl; infer_instance; (first | decide | (simp; omega) | simp); apply rfl) | with_reducible refine Sr.nil ?_ | with_reducible refine S.seq ?_ | with_reducible refine S.reg ?_ | fail)
  have e1 : (8 * ((pos + 7) / 8) + 7) / 8 = (pos + 7) / 8 := by omega
  have e0 : (((rd b bs c pos most oa out.length oc).set 2 (.int .u32 0)).set 3 (.int .i64 0)) = rd b bs c (8 * ((pos + 7) / 8)) most oa out.length oc := by
    simp only [rd, rc, e1, Nat.sub_self, num]
    rfl
  rw [e0]
  refine T.call rfl rfl (number_spec (k := 16) (by omega) (by omega) hb) ?_
  by_cases h16 : 8 * ((pos + 7) / 8) + 16 ≤ 8 * bs.length
  · simp only [rdN, h16, if_true]
    rintro _ _ ⟨rfl, rfl⟩
    have hn := num_lt bs (8 * ((pos + 7) / 8)) 16
    repeat' (first | ((with_reducible apply T.mv); apply rfl; apply rfl) | ((with_reducible apply T.asn); apply rfl; apply rfl) | with_reducible refine Sr.nil ?_ | with_reducible refine S.seq ?_ | with_reducible refine S.reg ?_ | (with_reducible apply T.ofRet) | fail)
    refine T.call rfl rfl (number_spec (k := 16) (by omega) h16 hb) ?_
    by_cases h32 : 8 * ((pos + 7) / 8) + 16 + 16 ≤ 8 * bs.length
    · simp only [rdN, h32, if_true]
      rintro _ _ ⟨rfl, rfl⟩
      have hst : raw bs most pos out = if num bs (8 * ((pos + 7) / 8) + 16) 16 + num bs (8 * ((pos + 7) / 8)) 16 = 65535 then rawL bs most (num bs (8 * ((pos + 7) / 8)) 16) ((pos + 7) / 8 + 4) out else .error 240 := by
        have e5 : (8 * ((pos + 7) / 8) + 16 + 16) / 8 = (pos + 7) / 8 + 4 := by omega
        simp only [raw, rdN, h16, h32, if_true, e5]
      repeat' (first | ((with_reducible apply T.mv); apply rfl; apply rfl) | ((with_reducible apply T.neq); apply rfl; apply rfl; apply rfl) | ((with_reducible apply T.subI); apply rfl; apply rfl; omega; apply rfl) | with_reducible refine Sr.nil ?_ | with_reducible refine S.seq ?_ | with_reducible refine S.block ?_ | with_reducible refine S.reg ?_ | with_reducible refine S.skip ?_ | (with_reducible apply T.ofRet) | ((with_reducible apply S.condQ); apply rfl; all_goals (intro _; try (exfalso; omega))) | fail)
      · have hne : ¬ num bs (8 * ((pos + 7) / 8) + 16) 16 + num bs (8 * ((pos + 7) / 8)) 16 = 65535 := by omega
        rw [if_neg hne] at hst
        rw [hst]
        refine T.call rfl rfl (give_spec 240) ?_
        rintro _ _ ⟨rfl, rfl⟩
        repeat' (first | (with_reducible apply T.diesW) | (with_reducible apply T.ofPan) | fail)
        exact ⟨H, by ((repeat (first | dsimp only [List.set_cons_zero] | dsimp only [List.set_cons_succ])); repeat' first | exact PSub.refl _ | exact PSub.nil | ((with_reducible apply PSub.take); (repeat' first | (with_reducible exact pick_hd) | (with_reducible apply pick_tl))) | (with_reducible apply PSub.drop) | ((apply PSub.take); (repeat' first | exact pick_hd | (apply pick_tl)))), rfl, rfl⟩
      · have heq : num bs (8 * ((pos + 7) / 8) + 16) 16 + num bs (8 * ((pos + 7) / 8)) 16 = 65535 := by omega
        rw [if_pos heq] at hst
        rw [hst]
        have e6 : rd b bs c (8 * ((pos + 7) / 8) + 16 + 16) most oa out.length oc = rc b bs.length c ((pos + 7) / 8 + 4) 0 0 most oa out.length oc := by
          have e7 : (8 * ((pos + 7) / 8) + 16 + 16 + 7) / 8 = (pos + 7) / 8 + 4 := by omega
          have e8 : 8 * ((pos + 7) / 8 + 4) - (8 * ((pos + 7) / 8) + 16 + 16) = 0 := by omega
          simp only [rd, rc, e7, e8, num]
        rw [e6]
        have hle : (pos + 7) / 8 + 4 ≤ bs.length := by omega
        clear e6 hst heq e0 e1
        generalize num bs (8 * ((pos + 7) / 8)) 16 = n at hn
        generalize (pos + 7) / 8 + 4 = a0 at hle
        clear h16 h32
        refine S.loop (fun μ H' e => ∃ (j a : Nat) (out' : List UInt8) (oa : Option Addr) (oc : Nat), H' = .blk p (rc b bs.length c a 0 0 most oa out'.length oc) 59 :: rw_ oa oc out' :: H ∧
          e = [(0, .pointer (some ⟨p, 0, none⟩)), (17, .int .i64 n), (18, .int .i64 j)] ∧ (j ≤ n ∧ a ≤ bs.length ∧ out'.length ≤ most ∧ rawL bs most (n - j) a out' = rawL bs most n a0 out) ∧ μ = n - j) ?_ _ _ ⟨0, a0, out, oa, oc, rfl, rfl, ⟨by omega, hle, hm, rfl⟩, rfl⟩ ⟨rfl, rfl, rfl, trivial⟩
        rintro _ _ _ ⟨j, a, out', oa, oc, rfl, rfl, ⟨h1, h2, h3, h4⟩, rfl⟩ ih
        have hbig : (bs.length : Int) ≤ 1000000000000000 := by omega
        repeat' (first | ((with_reducible apply T.mv); apply rfl; apply rfl) | ((with_reducible apply T.len); apply rfl; apply rfl) | ((with_reducible apply T.nilCheck); apply rfl; apply rfl) | ((with_reducible apply T.fieldAddrZ); apply rfl; apply rfl) | ((with_reducible apply T.load); apply rfl; apply rfl; infer_instance; apply rfl; apply rfl) | ((with_reducible apply T.lss); apply rfl; apply rfl; apply rfl) | ((with_reducible apply T.eql); apply rfl; apply rfl; apply rfl) | with_reducible refine Sr.nil ?_ | with_reducible refine S.seq ?_ | with_reducible refine S.block ?_ | with_reducible refine S.reg ?_ | with_reducible refine S.skip ?_ | ((with_reducible apply S.exit); apply rfl) | ((with_reducible apply S.quiet); apply rfl; kernel_rfl) | ((with_reducible apply T.doneW); apply rfl) | ((with_reducible apply S.condQ); apply rfl; all_goals (intro _; try (exfalso; omega))) | fail)
        · rename_i hj ha
          have e9 : n - j = (n - (j + 1)) + 1 := by omega
          rw [e9, rawL, if_pos (by omega)] at h4
          rw [← h4]
          refine T.call rfl rfl (give_spec 240) ?_
          rintro _ _ ⟨rfl, rfl⟩
          repeat' (first | (with_reducible apply T.diesW) | (with_reducible apply T.ofPan) | fail)
          exact ⟨H, by ((repeat (first | dsimp only [List.set_cons_zero] | dsimp only [List.set_cons_succ])); repeat' first | exact PSub.refl _ | exact PSub.nil | ((with_reducible apply PSub.take); (repeat' first | (with_reducible exact pick_hd) | (with_reducible apply pick_tl))) | (with_reducible apply PSub.drop) | ((apply PSub.take); (repeat' first | exact pick_hd | (apply pick_tl)))), rfl, rfl⟩
        · rename_i hj ha
          have e9 : n - j = (n - (j + 1)) + 1 := by omega
          rw [e9, rawL, if_neg (by omega)] at h4
          ((with_reducible apply S.draw); (case Hs => exact H); (case es => exact  [11]); (case n => exact  12); (case hn => rfl))
          repeat' (first | ((with_reducible apply T.mv); apply rfl; apply rfl) | ((with_reducible apply T.nilCheck); apply rfl; apply rfl) | ((with_reducible apply T.fieldAddrZ); apply rfl; apply rfl) | ((with_reducible apply T.load); apply rfl; apply rfl; infer_instance; apply rfl; apply rfl) | ((with_reducible apply T.ixN); apply rfl; apply rfl; infer_instance; omega; (first | omega | (simp; omega)); apply rfl) | ((with_reducible apply T.loadB); apply rfl; infer_instance; omega; apply rfl) | with_reducible refine Sr.nil ?_ | ((with_reducible apply SA.qn); apply rfl; apply rfl; apply rfl; apply rfl; kernel_rfl) | ((with_reducible apply SA.en); apply rfl; apply rfl; kernel_rfl) | fail)
          refine T.call rfl rfl (put_at (bs.getD a 0) h3 hmx) ?_
          cases hput : put most out' (bs.getD a 0) with
          | error k =>
            rw [hput] at h4
            rintro _ H' ⟨rfl, hs⟩
            repeat' (first | (with_reducible apply T.diesW) | (with_reducible apply T.ofPan) | fail)
            rw [← h4]
            exact ⟨H, hs, rfl, rfl⟩
          | ok out'' =>
            rw [hput] at h4
            rintro _ _ ⟨oa, oc, rfl, rfl⟩
            repeat' (first | ((with_reducible apply T.mv); apply rfl; apply rfl) | ((with_reducible apply T.nilCheck); apply rfl; apply rfl) | ((with_reducible apply T.fieldAddrZ); apply rfl; apply rfl) | ((with_reducible apply T.load); apply rfl; apply rfl; infer_instance; apply rfl; apply rfl) | ((with_reducible apply T.addI); apply rfl; apply rfl; omega; apply rfl) | ((with_reducible apply T.store); apply rfl; apply rfl; infer_instance; (first | decide | (simp; omega) | simp); apply rfl) | with_reducible refine Sr.nil ?_ | with_reducible refine S.reg ?_ | with_reducible refine S.inBlock ?_ | (with_reducible apply T.ofRet) | ((with_reducible apply SA.done); apply rfl; kernel_rfl) | ((with_reducible apply SK.intro); (first | exact fun _ h => h | exact fun _ h => St.psub h (by ((repeat (first | dsimp only [List.set_cons_zero] | dsimp only [List.set_cons_succ])); repeat' first | exact PSub.refl _ | exact PSub.nil | ((with_reducible apply PSub.take); (repeat' first | (with_reducible exact pick_hd) | (with_reducible apply pick_tl))) | (with_reducible apply PSub.drop) | ((apply PSub.take); (repeat' first | exact pick_hd | (apply pick_tl))))))) | fail)
            skip
            exact ih _ _ _ _ ⟨j + 1, a + 1, out'', oa, oc, rfl, rfl, ⟨by omega, by omega, put_len hput h3, h4⟩, rfl⟩ (by omega) ⟨rfl, rfl, rfl, trivial⟩
        · rename_i hj
          have e9 : n - j = 0 := by omega
          rw [e9, rawL] at h4
          rw [← h4]
          refine ⟨_, .refl _, oa, oc, rfl, ?_, by omega, h3⟩
          have e10 : (8 * a + 7) / 8 = a := by omega
          simp only [rd, rc, e10, Nat.sub_self, num]
    · have hst : raw bs most pos out = .error 240 := by simp only [raw, rdN, h16, h32, if_true, if_false]
      rw [hst]
      simp only [rdN, h32, if_false]
      rintro _ _ ⟨rfl, vs, rfl⟩
      repeat' (first | (with_reducible apply T.diesW) | (with_reducible apply T.ofPan) | fail)
      exact ⟨H, by ((repeat (first | dsimp only [List.set_cons_zero] | dsimp only [List.set_cons_succ])); repeat' first | exact PSub.refl _ | exact PSub.nil | ((with_reducible apply PSub.take); (repeat' first | (with_reducible exact pick_hd) | (with_reducible apply pick_tl))) | (with_reducible apply PSub.drop) | ((apply PSub.take); (repeat' first | exact pick_hd | (apply pick_tl)))), rfl, rfl⟩
  · have hst : raw bs most pos out = .error 240 := by simp only [raw, rdN, h16, if_false]
    rw [hst]
    simp only [rdN, h16, if_false]
    rintro _ _ ⟨rfl, vs, rfl⟩
    repeat' (first | (with_reducible apply T.diesW) | (with_reducible apply T.ofPan) | fail)
    exact ⟨H, by ((repeat (first | dsimp only [List.set_cons_zero] | dsimp only [List.set_cons_succ])); repeat' first | exact PSub.refl _ | exact PSub.nil | ((with_reducible apply PSub.take); (repeat' first | (with_reducible exact pick_hd) | (with_reducible apply pick_tl))) | (with_reducible apply PSub.drop) | ((apply PSub.take); (repeat' first | exact pick_hd | (apply pick_tl)))), rfl, rfl⟩
end Go.Proofs.YtjhpbljkpbdnnaaDoor
