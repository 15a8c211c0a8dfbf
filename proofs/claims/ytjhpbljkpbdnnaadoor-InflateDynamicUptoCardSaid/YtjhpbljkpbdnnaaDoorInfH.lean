/- The walks of the program's blocks of symbols. -/
import Derived.Test.YtjhpbljkpbdnnaaDoorInfG
namespace Go.Proofs.YtjhpbljkpbdnnaaDoor
open Sg Go.IntWalk Infl
set_option maxRecDepth 100000
theorem copied_spec {F : World} {M : List Nat} {H : List Res} {p q c oc tc s : Nat} {b oa ta : Option Addr} {most : Nat} {bs out : List UInt8} {dl : List Nat} [Rd F M H b (bs.map bV)] [InB H q (cd dl ta tc) 76] [Rd F M H ta ((code dl).2.map nV)] {pos : Nat} (hp : pos ≤ 8 * bs.length) (hb : bs.length ≤ 1000000000000000) (hm : out.length ≤ most) (hmx : most ≤ 1048576)
    (hs : 257 ≤ s ∧ s ≤ 100000) (hdl : 0 < dl.length ∧ dl.length ≤ 100000) :
    Meets Tryd.prog 65 [.pointer (some ⟨p, 0, none⟩), .int .i64 s, .pointer (some ⟨q, 0, none⟩)] F M (.blk p (rd b bs c pos most oa out.length oc) 59 :: rw_ oa oc out :: H) (Left p b bs c most H (.tuple #[]) (copied bs dl most s pos out)) := by
  refine Meets.enter Tryd.func65 rfl rfl ?_
  unfold copied
  by_cases h285 : 285 < s
  · rw [if_pos h285]
    repeat' (first | ((with_reducible apply T.mv); apply rfl; apply rfl) | ((with_reducible apply T.gtr); apply rfl; apply rfl; apply rfl) | with_reducible refine Sr.nil ?_ | with_reducible refine S.seq ?_ | with_reducible refine S.reg ?_ | ((with_reducible apply S.condQ); apply rfl; all_goals (intro _; try (exfalso; omega))) | fail)
    refine T.call rfl rfl (give_spec 240) ?_
    rintro _ _ ⟨rfl, rfl⟩
    repeat' (first | (with_reducible apply T.diesW) | (with_reducible apply T.ofPan) | fail)
    exact ⟨H, by ((repeat (first | dsimp only [List.set_cons_zero] | dsimp only [List.set_cons_succ])); repeat' first | exact PSub.refl _ | exact PSub.nil | ((with_reducible apply PSub.take); (repeat' first | (with_reducible exact pick_hd) | (with_reducible apply pick_tl))) | (with_reducible apply PSub.drop) | ((apply PSub.take); (repeat' first | exact pick_hd | (apply pick_tl)))), rfl, rfl⟩
  rw [if_neg h285]
  repeat' (first | ((with_reducible apply T.mv); apply rfl; apply rfl) | ((with_reducible apply T.gtr); apply rfl; apply rfl; apply rfl) | with_reducible refine Sr.nil ?_ | with_reducible refine S.seq ?_ | with_reducible refine S.reg ?_ | fail)
  refine S.condQ rfl (fun h => absurd h (by omega)) fun _ => ?_
  repeat' (first | ((with_reducible apply T.mv); apply rfl; apply rfl) | ((with_reducible apply T.asn); apply rfl; apply rfl) | ((with_reducible apply T.lss); apply rfl; apply rfl; apply rfl) | with_reducible refine Sr.nil ?_ | with_reducible refine S.seq ?_ | with_reducible refine S.reg ?_ | with_reducible refine S.skip ?_ | fail)
  refine S.cut (fun H' e' => ∃ n pos', lenAt bs s pos = some (n, pos') ∧ n ≤ 1000000 ∧ pos' ≤ 8 * bs.length ∧ H' = .blk p (rd b bs c pos' most oa out.length oc) 59 :: rw_ oa oc out :: H ∧ e' = [(0, .pointer (some ⟨p, 0, none⟩)), (2, .pointer (some ⟨q, 0, none⟩)), (6, .int .i64 n)]) ?_ ?_
  · intro k' hrest
    refine S.condQ rfl (fun hlt => ?_) fun hge => ?_
    · have hlt' : s < 285 := by omega
      have hx := extra_le (s := s - 257) (each := 4) (first := 3) (by omega) (by omega) (by omega)
      have e1 : (s : Int) - 257 = ((s - 257 : Nat) : Int) := by omega
      repeat' (first | ((with_reducible apply T.subI); apply rfl; apply rfl; omega; apply rfl; rw [e1]) | ((with_reducible apply T.mv); apply rfl; apply rfl) | with_reducible refine S.seq ?_ | with_reducible refine S.reg ?_ | fail)
      refine T.call rfl rfl (extra_spec (s := s - 257) (each := 4) (first := 3) (by omega) (by omega) (by omega)) ?_
      rintro _ _ ⟨rfl, rfl⟩
      repeat' (first | ((with_reducible apply T.mv); apply rfl; apply rfl) | ((with_reducible apply T.asn); apply rfl; apply rfl) | ((with_reducible apply T.extract); apply rfl; apply rfl; apply rfl) | with_reducible refine Sr.nil ?_ | with_reducible refine S.reg ?_ | (with_reducible apply T.ofRet) | fail)
      refine T.call rfl rfl (number_spec (by omega) hp hb) ?_
      cases hr : rdN bs (extra (s - 257) 4 3).2 pos with
      | some r =>
        obtain ⟨v, pos'⟩ := r
        have hv := rdN_le hr
        have hpow : (2 : Nat) ^ (extra (s - 257) 4 3).2 ≤ 8192 := Nat.pow_le_pow_right (n := 2) (by omega) (show (extra (s - 257) 4 3).2 ≤ 13 by omega)
        rintro _ _ ⟨rfl, rfl⟩
        repeat' (first | ((with_reducible apply T.asn); apply rfl; apply rfl) | ((with_reducible apply T.addI); apply rfl; apply rfl; omega; apply rfl) | with_reducible refine Sr.nil ?_ | (with_reducible apply T.ofRet) | fail)
        exact hrest _ _ _ ⟨_, pos', by simp only [lenAt, hlt', if_true, hr]; rfl, by omega, hv.2.1, rfl, rfl⟩ (by exact ⟨rfl, rfl, rfl, trivial⟩)
      | none =>
        rintro _ _ ⟨rfl, vs, rfl⟩
        have : lenAt bs s pos = none := by simp only [lenAt, hlt', if_true, hr]
        rw [this]
        repeat' (first | (with_reducible apply T.diesW) | (with_reducible apply T.ofPan) | fail)
        exact ⟨H, by ((repeat (first | dsimp only [List.set_cons_zero] | dsimp only [List.set_cons_succ])); repeat' first | exact PSub.refl _ | exact PSub.nil | ((with_reducible apply PSub.take); (repeat' first | (with_reducible exact pick_hd) | (with_reducible apply pick_tl))) | (with_reducible apply PSub.drop) | ((apply PSub.take); (repeat' first | exact pick_hd | (apply pick_tl)))), rfl, rfl⟩
    · have hge' : ¬ s < 285 := by omega
      repeat' (first | with_reducible refine S.skip ?_ | fail)
      exact hrest _ _ _ ⟨258, pos, by simp only [lenAt, hge', if_false], by omega, hp, rfl, rfl⟩ (by exact ⟨rfl, rfl, rfl, trivial⟩)
  rintro _ _ ⟨n, pos', hn, hn1, hp', rfl, rfl⟩
  rw [hn]
  dsimp only
  repeat' (first | ((with_reducible apply T.mv); apply rfl; apply rfl) | with_reducible refine S.seq ?_ | with_reducible refine S.reg ?_ | fail)
  refine T.call rfl rfl (symbol_spec (code_fits hdl.2) rfl hp' hb) ?_
  cases hsy : sym (code dl).1 (code dl).2 bs pos' with
  | none =>
    have : distAt bs dl pos' = none := by simp only [distAt, hsy]
    rw [this]
    rintro _ _ ⟨rfl, vs, rfl⟩
    repeat' (first | (with_reducible apply T.diesW) | (with_reducible apply T.ofPan) | fail)
    exact ⟨H, by ((repeat (first | dsimp only [List.set_cons_zero] | dsimp only [List.set_cons_succ])); repeat' first | exact PSub.refl _ | exact PSub.nil | ((with_reducible apply PSub.take); (repeat' first | (with_reducible exact pick_hd) | (with_reducible apply pick_tl))) | (with_reducible apply PSub.drop) | ((apply PSub.take); (repeat' first | exact pick_hd | (apply pick_tl)))), rfl, rfl⟩
  | some r =>
    obtain ⟨s', pos''⟩ := r
    rintro _ _ ⟨rfl, rfl, hp''⟩
    have hs' := (code_sym_lt hdl.1 hsy).1
    repeat' (first | ((with_reducible apply T.mv); apply rfl; apply rfl) | ((with_reducible apply T.asn); apply rfl; apply rfl) | ((with_reducible apply T.gtr); apply rfl; apply rfl; apply rfl) | with_reducible refine Sr.nil ?_ | with_reducible refine S.seq ?_ | with_reducible refine S.reg ?_ | (with_reducible apply T.ofRet) | fail)
    by_cases h29 : 29 < s'
    · have : distAt bs dl pos' = none := by simp only [distAt, hsy, h29, if_true]
      rw [this]
      repeat' (first | with_reducible refine S.reg ?_ | ((with_reducible apply S.condQ); apply rfl; all_goals (intro _; try (exfalso; omega))) | fail)
      refine T.call rfl rfl (give_spec 240) ?_
      rintro _ _ ⟨rfl, rfl⟩
      repeat' (first | (with_reducible apply T.diesW) | (with_reducible apply T.ofPan) | fail)
      exact ⟨H, by ((repeat (first | dsimp only [List.set_cons_zero] | dsimp only [List.set_cons_succ])); repeat' first | exact PSub.refl _ | exact PSub.nil | ((with_reducible apply PSub.take); (repeat' first | (with_reducible exact pick_hd) | (with_reducible apply pick_tl))) | (with_reducible apply PSub.drop) | ((apply PSub.take); (repeat' first | exact pick_hd | (apply pick_tl)))), rfl, rfl⟩
    refine S.condQ rfl (fun h => absurd h (by omega)) fun _ => ?_
    repeat' (first | ((with_reducible apply T.mv); apply rfl; apply rfl) | with_reducible refine S.seq ?_ | with_reducible refine S.reg ?_ | with_reducible refine S.skip ?_ | fail)
    refine T.call rfl rfl (extra_spec (s := s') (each := 2) (first := 1) (by omega) (by omega) (by omega)) ?_
    rintro _ _ ⟨rfl, rfl⟩
    have hx := extra_le (s := s') (each := 2) (first := 1) (by omega) (by omega) (by omega)
    repeat' (first | ((with_reducible apply T.mv); apply rfl; apply rfl) | ((with_reducible apply T.asn); apply rfl; apply rfl) | ((with_reducible apply T.extract); apply rfl; apply rfl; apply rfl) | with_reducible refine Sr.nil ?_ | with_reducible refine S.seq ?_ | with_reducible refine S.reg ?_ | (with_reducible apply T.ofRet) | fail)
    refine T.call rfl rfl (number_spec (by omega) hp'' hb) ?_
    cases hr : rdN bs (extra s' 2 1).2 pos'' with
    | none =>
      have : distAt bs dl pos' = none := by simp only [distAt, hsy, h29, if_false, hr]
      rw [this]
      rintro _ _ ⟨rfl, vs, rfl⟩
      repeat' (first | (with_reducible apply T.diesW) | (with_reducible apply T.ofPan) | fail)
      exact ⟨H, by ((repeat (first | dsimp only [List.set_cons_zero] | dsimp only [List.set_cons_succ])); repeat' first | exact PSub.refl _ | exact PSub.nil | ((with_reducible apply PSub.take); (repeat' first | (with_reducible exact pick_hd) | (with_reducible apply pick_tl))) | (with_reducible apply PSub.drop) | ((apply PSub.take); (repeat' first | exact pick_hd | (apply pick_tl)))), rfl, rfl⟩
    | some r =>
      obtain ⟨v, pos3⟩ := r
      have hv := rdN_le hr
      have hpow : (2 : Nat) ^ (extra s' 2 1).2 ≤ 8192 := Nat.pow_le_pow_right (n := 2) (by omega) (show (extra s' 2 1).2 ≤ 13 by omega)
      have hd : distAt bs dl pos' = some ((extra s' 2 1).1 + v, pos3) := by simp only [distAt, hsy, h29, if_false, hr]
      rw [hd]
      dsimp only
      rintro _ _ ⟨rfl, rfl⟩
      generalize hD : (extra s' 2 1).1 = D at hx
      clear hd hr
      repeat' (first | ((with_reducible apply T.mv); apply rfl; apply rfl) | ((with_reducible apply T.asn); apply rfl; apply rfl) | ((with_reducible apply T.len); apply rfl; apply rfl) | ((with_reducible apply T.nilCheck); apply rfl; apply rfl) | ((with_reducible apply T.fieldAddrZ); apply rfl; apply rfl) | ((with_reducible apply T.load); apply rfl; apply rfl; infer_instance; apply rfl; apply rfl) | ((with_reducible apply T.gtr); apply rfl; apply rfl; apply rfl) | ((with_reducible apply T.addI); apply rfl; apply rfl; omega; apply rfl) | with_reducible refine Sr.nil ?_ | with_reducible refine S.seq ?_ | with_reducible refine S.reg ?_ | (with_reducible apply T.ofRet) | fail)
      by_cases hfar : out.length < D + v
      · rw [if_pos hfar]
        repeat' (first | with_reducible refine S.reg ?_ | ((with_reducible apply S.condQ); apply rfl; all_goals (intro _; try (exfalso; omega))) | fail)
        refine T.call rfl rfl (give_spec 240) ?_
        rintro _ _ ⟨rfl, rfl⟩
        repeat' (first | (with_reducible apply T.diesW) | (with_reducible apply T.ofPan) | fail)
        exact ⟨H, by ((repeat (first | dsimp only [List.set_cons_zero] | dsimp only [List.set_cons_succ])); repeat' first | exact PSub.refl _ | exact PSub.nil | ((with_reducible apply PSub.take); (repeat' first | (with_reducible exact pick_hd) | (with_reducible apply pick_tl))) | (with_reducible apply PSub.drop) | ((apply PSub.take); (repeat' first | exact pick_hd | (apply pick_tl)))), rfl, rfl⟩
      rw [if_neg hfar]
      refine S.condQ rfl (fun h => absurd h (by omega)) fun _ => ?_
      repeat' (first | ((with_reducible apply T.mv); apply rfl; apply rfl) | with_reducible refine Sr.nil ?_ | with_reducible refine S.seq ?_ | with_reducible refine S.block ?_ | with_reducible refine S.reg ?_ | with_reducible refine S.skip ?_ | fail)
      refine S.loop (fun μ H' e => ∃ (j : Nat) (out' : List UInt8) (oa : Option Addr) (oc : Nat), H' = .blk p (rd b bs c pos3 most oa out'.length oc) 59 :: rw_ oa oc out' :: H ∧
        e = [(0, .pointer (some ⟨p, 0, none⟩)), (11, .int .i64 ((D + v : Nat) : Int)), (52, .int .i64 n), (53, .int .i64 j)] ∧ (j ≤ n ∧ D + v ≤ out'.length ∧ out'.length ≤ most ∧ copyN most (D + v) (n - j) out' = copyN most (D + v) n out) ∧ μ = n - j) ?_ _ _ ⟨0, out, oa, oc, rfl, rfl, ⟨by omega, by omega, hm, rfl⟩, rfl⟩ ⟨rfl, rfl, rfl, rfl, trivial⟩
      rintro _ _ _ ⟨j, out', oa, oc, rfl, rfl, ⟨h1, h2, h3, h4⟩, rfl⟩ ih
      repeat' (first | ((with_reducible apply T.lss); apply rfl; apply rfl; apply rfl) | with_reducible refine Sr.nil ?_ | with_reducible refine S.seq ?_ | with_reducible refine S.block ?_ | with_reducible refine S.reg ?_ | with_reducible refine S.skip ?_ | ((with_reducible apply S.exit); apply rfl) | ((with_reducible apply T.doneW); apply rfl) | ((with_reducible apply S.condQ); apply rfl; all_goals (intro _; try (exfalso; omega))) | fail)
      · rename_i hj
        have e9 : n - j = (n - (j + 1)) + 1 := by omega
        rw [e9, copyN] at h4
        have e12 : (out'.length : Int) - ((D + v : Nat) : Int) = ((out'.length - (D + v) : Nat) : Int) := by omega
        ((with_reducible apply S.draw); (case Hs => exact H); (case es => exact  [14]); (case n => exact  15); (case hn => rfl))
        repeat' (first | ((with_reducible apply T.subI); apply rfl; apply rfl; omega; apply rfl; rw [e12]) | ((with_reducible apply T.mv); apply rfl; apply rfl) | ((with_reducible apply T.len); apply rfl; apply rfl) | ((with_reducible apply T.nilCheck); apply rfl; apply rfl) | ((with_reducible apply T.fieldAddrZ); apply rfl; apply rfl) | ((with_reducible apply T.load); apply rfl; apply rfl; infer_instance; apply rfl; apply rfl) | ((with_reducible apply T.ixN); apply rfl; apply rfl; infer_instance; omega; (first | omega | (simp; omega)); apply rfl) | ((with_reducible apply T.loadB); apply rfl; infer_instance; omega; apply rfl) | with_reducible refine Sr.nil ?_ | ((with_reducible apply SA.qn); apply rfl; apply rfl; apply rfl; apply rfl; kernel_rfl) | ((with_reducible apply SA.qsn); apply rfl; apply rfl; apply rfl; kernel_rfl; (first | exact fun _ h => h | exact fun _ h => St.psub h (by ((repeat (first | dsimp only [List.set_cons_zero] | dsimp only [List.set_cons_succ])); repeat' first | exact PSub.refl _ | exact PSub.nil | ((with_reducible apply PSub.take); (repeat' first | (with_reducible exact pick_hd) | (with_reducible apply pick_tl))) | (with_reducible apply PSub.drop) | ((apply PSub.take); (repeat' first | exact pick_hd | (apply pick_tl))))))) | ((with_reducible apply SA.en); apply rfl; apply rfl; kernel_rfl) | fail)
        refine T.call rfl rfl (put_at (out'.getD (out'.length - (D + v)) 0) h3 hmx) ?_
        cases hput : put most out' (out'.getD (out'.length - (D + v)) 0) with
        | error k =>
          rw [hput] at h4
          rintro _ H' ⟨rfl, hs⟩
          repeat' (first | (with_reducible apply T.diesW) | (with_reducible apply T.ofPan) | fail)
          rw [← h4]
          exact ⟨H, hs, rfl, rfl⟩
        | ok out'' =>
          rw [hput] at h4
          rintro _ _ ⟨oa, oc, rfl, rfl⟩
          repeat' (first | ((with_reducible apply T.mv); apply rfl; apply rfl) | ((with_reducible apply T.addI); apply rfl; apply rfl; omega; apply rfl) | with_reducible refine Sr.nil ?_ | with_reducible refine S.reg ?_ | with_reducible refine S.inBlock ?_ | (with_reducible apply T.ofRet) | ((with_reducible apply SA.done); apply rfl; kernel_rfl) | ((with_reducible apply SK.intro); (first | exact fun _ h => h | exact fun _ h => St.psub h (by ((repeat (first | dsimp only [List.set_cons_zero] | dsimp only [List.set_cons_succ])); repeat' first | exact PSub.refl _ | exact PSub.nil | ((with_reducible apply PSub.take); (repeat' first | (with_reducible exact pick_hd) | (with_reducible apply pick_tl))) | (with_reducible apply PSub.drop) | ((apply PSub.take); (repeat' first | exact pick_hd | (apply pick_tl))))))) | fail)
          skip
          have hl : out''.length = out'.length + 1 := by
            unfold put at hput
            split at hput
            · cases hput
            · simp only [Except.ok.injEq] at hput
              subst hput
              simp
          exact ih _ _ _ _ ⟨j + 1, out'', oa, oc, rfl, rfl, ⟨by omega, by omega, put_len hput h3, h4⟩, rfl⟩ (by omega) ⟨rfl, rfl, rfl, rfl, trivial⟩
      · rename_i hj
        have e9 : n - j = 0 := by omega
        rw [e9, copyN] at h4
        rw [← h4]
        exact ⟨_, .refl _, oa, oc, rfl, rfl, by omega, h3⟩
end Go.Proofs.YtjhpbljkpbdnnaaDoor
