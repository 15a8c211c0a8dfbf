/- The walks of the document's copies and symbols. -/
import Derived.Test.YtjhpbljkpbdnnaaDoorInfV
namespace Go.Proofs.YtjhpbljkpbdnnaaDoor
open Sg Go.IntWalk Infl
set_option maxRecDepth 100000
theorem copiedR_spec {F : World} {M : List Nat} {H : List Res} {p c oc s wc : Nat} {b oa wa : Option Addr} {most : Nat} {bs out : List UInt8} {dl : List Nat} [Rd F M H b (bs.map bV)] [Rd F M H wa ((wordsR dl).flatMap wV)] {pos : Nat} (hp : pos ≤ 8 * bs.length) (hb : bs.length ≤ 1000000000000000) (hm : out.length ≤ most) (hmx : most ≤ 1048576)
    (hs : 257 ≤ s ∧ s ≤ 100000) (hdl : dl.length ≤ 100000) (hsym : ∀ pos, rsym (wordsR dl) bs pos = sym (code dl).1 (code dl).2 bs pos) :
    Meets Tryd.prog 58 [.pointer (some ⟨p, 0, none⟩), .int .i64 s, .slice wa dl.length wc] F M (.blk p (rr b bs.length c pos most oa out.length oc 0) 62 :: rw_ oa oc out :: H) (LeftR p b bs c most H (copied bs dl most s pos out)) := by
  refine Meets.enter Tryd.func58 rfl rfl ?_
  have hs0 : stopE 0 240 = 240 := rfl
  by_cases h285 : 285 < s
  · have hc : copied bs dl most s pos out = .error 240 := by rw [copied, if_pos h285]
    rw [hc]
    repeat' (first | (refine T.call rfl rfl (stop_spec 240 (by omega)) ?_; rintro _ _ ⟨rfl, rfl⟩) | ((with_reducible apply T.mv); apply rfl; apply rfl) | ((with_reducible apply T.gtr); apply rfl; apply rfl; apply rfl) | with_reducible refine Sr.nil ?_ | with_reducible refine S.seq ?_ | with_reducible refine S.reg ?_ | ((with_reducible apply T.retW); apply rfl) | (with_reducible apply T.ofRet) | ((with_reducible apply S.condQ); apply rfl; all_goals (intro _; try (exfalso; omega))) | fail)
    exact ⟨_, .refl _, pos, out, 240, oa, oc, rfl, rfl, hp, hm, rfl⟩
  rw [copied_eq h285, lenAt_R hs.1 (by omega) hp]
  repeat' (first | ((with_reducible apply T.mv); apply rfl; apply rfl) | ((with_reducible apply T.gtr); apply rfl; apply rfl; apply rfl) | with_reducible refine Sr.nil ?_ | with_reducible refine S.seq ?_ | with_reducible refine S.reg ?_ | fail)
  refine S.condQ rfl (fun h => absurd h (by omega)) fun _ => ?_
  repeat' (first | ((with_reducible apply T.mv); apply rfl; apply rfl) | with_reducible refine S.seq ?_ | with_reducible refine S.reg ?_ | with_reducible refine S.skip ?_ | fail)
  refine T.call rfl rfl (lengthOfR_spec hs.1 (by omega)) ?_
  rintro _ _ ⟨rfl, rfl⟩
  have hK : lenK s ≤ 6 := by unfold lenK; split; omega; exact boR_le (by omega)
  have hB : lenBs s ≤ 1000 := by unfold lenBs; split; omega; exact lenB_le _ (by omega)
  change Sr _ _ _ _ _ _ _ ((_, .tuple ⟨[.int .i64 (lenBs s : Nat), .int .i64 (lenK s : Nat)]⟩) :: _)
  generalize lenK s = K at *
  generalize lenBs s = B at *
  repeat' (first | ((with_reducible apply T.mv); apply rfl; apply rfl) | ((with_reducible apply T.asn); apply rfl; apply rfl) | ((with_reducible apply T.extract); apply rfl; apply rfl; apply rfl) | with_reducible refine Sr.nil ?_ | with_reducible refine S.seq ?_ | with_reducible refine S.reg ?_ | fail)
  refine T.call rfl rfl (numR_spec hb hp (by omega)) ?_
  rintro _ _ ⟨v, a1, E1, rfl, rfl, q1, q2, q3, -⟩
  replace q3 := q3 rfl
  have hpw : (2 : Nat) ^ K ≤ 64 := Nat.pow_le_pow_right (n := 2) (by omega) (show K ≤ 6 by omega)
  repeat' (first | ((with_reducible apply T.mv); apply rfl; apply rfl) | ((with_reducible apply T.asn); apply rfl; apply rfl) | ((with_reducible apply T.addI); apply rfl; apply rfl; omega; apply rfl) | with_reducible refine Sr.nil ?_ | with_reducible refine S.seq ?_ | with_reducible refine S.reg ?_ | (with_reducible apply T.ofRet) | fail)
  refine T.call rfl rfl (symR_spec (wordsR_len dl) hdl hb q2) ?_
  rintro _ _ ⟨t, a2, E2, rfl, rfl, s1, s2, s3, s4, -⟩
  rw [wordsR_len] at s4
  rw [hsym] at s2
  have hs2 : stopE E2 240 = if E2 = 0 then 240 else E2 := rfl
  -- what has come so far
  generalize hX : addB B (rdN bs K pos) = L
  have hL : (E1 = 0 ∧ L = some (B + v, a1)) ∨ (E1 = 240 ∧ L = none) := by
    cases g1 : rdN bs K pos with
    | none => rw [g1] at q3 hX; exact .inr ⟨q3, hX.symm⟩
    | some r =>
      obtain ⟨v', p'⟩ := r
      rw [g1] at q3 hX
      obtain ⟨rfl, rfl, rfl⟩ := q3
      exact .inl ⟨rfl, hX.symm⟩
  have hbad : E2 ≠ 0 → E2 = 240 ∧ cpA bs dl most out L = .error 240 := by
    intro hE
    rcases hL with ⟨h1, h2⟩ | ⟨h1, h2⟩
    · subst h1 h2
      replace s2 := s2 rfl
      simp only [cpA, distAt_R]
      cases g2 : sym (code dl).1 (code dl).2 bs a1 with
      | none => rw [g2] at s2; exact ⟨s2, rfl⟩
      | some r =>
        obtain ⟨v', p'⟩ := r
        rw [g2] at s2
        exact absurd s2.2.2 hE
    · rw [h2]
      exact ⟨by rw [s3 (by omega), h1], rfl⟩
  have hgood : E2 = 0 → L = some (B + v, a1) ∧ distAt bs dl a1 = if 29 < t then none else addB (disB t) (rdN bs (faR t) a2) := by
    intro hE
    rcases hL with ⟨h1, h2⟩ | ⟨h1, h2⟩
    · subst h1
      refine ⟨h2, ?_⟩
      replace s2 := s2 rfl
      rw [distAt_R]
      cases g2 : sym (code dl).1 (code dl).2 bs a1 with
      | none => rw [g2] at s2; simp only at s2; omega
      | some r =>
        obtain ⟨v', p'⟩ := r
        rw [g2] at s2
        obtain ⟨rfl, rfl, -⟩ := s2
        rfl
    · have := s3 (by omega)
      omega
  clear hX q3 s2 s3 hL
  repeat' (first | (refine T.call rfl rfl (stop_spec 240 (by omega)) ?_; rintro _ _ ⟨rfl, rfl⟩) | ((with_reducible apply T.mv); apply rfl; apply rfl) | ((with_reducible apply T.asn); apply rfl; apply rfl) | ((with_reducible apply T.nilCheck); apply rfl; apply rfl) | ((with_reducible apply T.fieldAddrZ); apply rfl; apply rfl) | ((with_reducible apply T.load); apply rfl; apply rfl; infer_instance; apply rfl; apply rfl) | ((with_reducible apply T.gtr); apply rfl; apply rfl; apply rfl) | ((with_reducible apply T.neq); apply rfl; apply rfl; apply rfl) | ((with_reducible apply T.pickT); apply rfl; apply rfl; apply rfl) | ((with_reducible apply T.pickF); apply rfl; apply rfl; apply rfl) | with_reducible refine Sr.nil ?_ | with_reducible refine S.seq ?_ | with_reducible refine S.reg ?_ | with_reducible refine S.skip ?_ | ((with_reducible apply T.ung); apply rfl) | ((with_reducible apply T.skip); apply rfl; apply rfl; apply rfl) | ((with_reducible apply S.condT); apply rfl) | ((with_reducible apply T.retW); apply rfl) | (with_reducible apply T.ofRet) | ((with_reducible apply S.condQ); apply rfl; all_goals (intro _; try (exfalso; omega))) | ((with_reducible apply T.gcase); apply rfl; apply rfl; all_goals (intro _; try (exfalso; omega))) | fail)
  · rename_i hE
    obtain ⟨h1, h2⟩ := hbad (by omega)
    rw [h2]
    exact ⟨_, .refl _, a2, out, stopE E2 240, oa, oc, rfl, rfl, s1, hm, by rw [h1]; rfl⟩
  · rename_i hE ht
    have hE0 : E2 = 0 := by omega
    subst hE0
    obtain ⟨h1, h2⟩ := hgood rfl
    rw [if_pos (by omega)] at h2
    rw [h1, cpA, h2]
    exact ⟨_, .refl _, a2, out, 240, oa, oc, rfl, rfl, s1, hm, rfl⟩
  rename_i hE ht
  have hE0 : E2 = 0 := by omega
  subst hE0
  obtain ⟨h1, h2⟩ := hgood rfl
  rw [if_neg (by omega)] at h2
  rw [h1, cpA]
  clear hgood hbad h1 hs2
  refine T.call rfl rfl (distanceOfR_spec (by omega)) ?_
  rintro _ _ ⟨rfl, rfl⟩
  have hK2 := faR_le (k := t) (by omega)
  have hB2 := disB_le t (by omega)
  have hB3 := disB_pos t (by omega)
  generalize faR t = K2 at *
  generalize disB t = B2 at *
  repeat' (first | ((with_reducible apply T.mv); apply rfl; apply rfl) | ((with_reducible apply T.asn); apply rfl; apply rfl) | ((with_reducible apply T.extract); apply rfl; apply rfl; apply rfl) | with_reducible refine Sr.nil ?_ | with_reducible refine S.seq ?_ | with_reducible refine S.reg ?_ | (with_reducible apply T.ofRet) | fail)
  refine T.call rfl rfl (numR_spec hb s1 (by omega)) ?_
  rintro _ _ ⟨v2, a3, E3, rfl, rfl, r1, r2, r3, -⟩
  replace r3 := r3 rfl
  have hpw2 : (2 : Nat) ^ K2 ≤ 16384 := Nat.pow_le_pow_right (n := 2) (by omega) (show K2 ≤ 14 by omega)
  have hd : (E3 = 0 ∧ distAt bs dl a1 = some (B2 + v2, a3)) ∨ (E3 = 240 ∧ distAt bs dl a1 = none) := by
    rw [h2]
    cases g1 : rdN bs K2 a2 with
    | none => rw [g1] at r3; exact .inr ⟨r3, rfl⟩
    | some r =>
      obtain ⟨v', p'⟩ := r
      rw [g1] at r3
      obtain ⟨rfl, rfl, rfl⟩ := r3
      exact .inl ⟨rfl, rfl⟩
  clear r3 h2
  repeat' (first | (refine T.call rfl rfl (stop_spec 240 (by omega)) ?_; rintro _ _ ⟨rfl, rfl⟩) | ((with_reducible apply T.mv); apply rfl; apply rfl) | ((with_reducible apply T.asn); apply rfl; apply rfl) | ((with_reducible apply T.len); apply rfl; apply rfl) | ((with_reducible apply T.nilCheck); apply rfl; apply rfl) | ((with_reducible apply T.fieldAddrZ); apply rfl; apply rfl) | ((with_reducible apply T.load); apply rfl; apply rfl; infer_instance; apply rfl; apply rfl) | ((with_reducible apply T.gtr); apply rfl; apply rfl; apply rfl) | ((with_reducible apply T.neq); apply rfl; apply rfl; apply rfl) | ((with_reducible apply T.addI); apply rfl; apply rfl; omega; apply rfl) | ((with_reducible apply T.pickT); apply rfl; apply rfl; apply rfl) | ((with_reducible apply T.pickF); apply rfl; apply rfl; apply rfl) | with_reducible refine Sr.nil ?_ | with_reducible refine S.seq ?_ | with_reducible refine S.block ?_ | with_reducible refine S.reg ?_ | with_reducible refine S.skip ?_ | ((with_reducible apply T.ung); apply rfl) | ((with_reducible apply T.skip); apply rfl; apply rfl; apply rfl) | ((with_reducible apply S.condT); apply rfl) | ((with_reducible apply T.retW); apply rfl) | (with_reducible apply T.ofRet) | ((with_reducible apply S.condQ); apply rfl; all_goals (intro _; try (exfalso; omega))) | ((with_reducible apply T.gcase); apply rfl; apply rfl; all_goals (intro _; try (exfalso; omega))) | fail)
  · rename_i hE
    obtain ⟨h1, h2⟩ := hd.resolve_left (fun h => by omega)
    rw [h2]
    subst h1
    exact ⟨_, .refl _, a3, out, 240, oa, oc, rfl, rfl, r2, hm, rfl⟩
  · rename_i hE hfar
    obtain ⟨h1, h2⟩ := hd.resolve_right (fun h => by omega)
    rw [h2, cpB, if_pos (by omega)]
    subst h1
    exact ⟨_, .refl _, a3, out, 240, oa, oc, rfl, rfl, r2, hm, rfl⟩
  rename_i hE hfar
  obtain ⟨h1, h2⟩ := hd.resolve_right (fun h => by omega)
  rw [h2, cpB, if_neg (by omega)]
  subst h1
  clear hd h2
  have ed : ((B2 : Int) + (v2 : Int)) = ((B2 + v2 : Nat) : Int) := by omega
  have en : ((B : Int) + (v : Int)) = ((B + v : Nat) : Int) := by omega
  rw [ed, en]
  have hnb : B + v ≤ 2000 := by omega
  have hdb : B2 + v2 ≤ out.length := by omega
  have hdp : 0 < B2 + v2 := by omega
  clear hfar
  generalize B2 + v2 = d at *
  generalize B + v = n at *
  generalize hX : copyN most d n out = X
  refine S.loopE 2 [0, 8, 10] (fun R b' μ H' e => ∃ (i : Nat) (out' : List UInt8) (oa : Option Addr) (oc E' : Nat), H' = .blk p (rr b bs.length c a3 most oa out'.length oc E') 62 :: rw_ oa oc out' :: R ∧ e = (11, .int .i64 i) :: b' ∧
    (i ≤ n ∧ out'.length ≤ most ∧ d ≤ out'.length ∧ (E' = 0 → copyN most d (n - i) out' = X) ∧ (E' ≠ 0 → X = .error E')) ∧ μ = n - i) rfl rfl ?_ _ _ ⟨0, out, oa, oc, 0, rfl, rfl, ⟨by omega, hm, hdb, fun _ => hX, fun h => absurd rfl h⟩, rfl⟩ (by repeat' first | exact trivial | refine And.intro rfl ?_)
  rintro _ _ _ ⟨i, out', oa, oc, E', rfl, rfl, ⟨g1, g2, g3, g4, g5⟩, rfl⟩ ih
  have es : ((out'.length : Int) - (d : Int)) = ((out'.length - d : Nat) : Int) := by omega
  repeat' (first | ((with_reducible apply T.mv); apply rfl; apply rfl) | ((with_reducible apply T.nilCheck); apply rfl; apply rfl) | ((with_reducible apply T.fieldAddrZ); apply rfl; apply rfl) | ((with_reducible apply T.load); apply rfl; apply rfl; infer_instance; apply rfl; apply rfl) | ((with_reducible apply T.lss); apply rfl; apply rfl; apply rfl) | ((with_reducible apply T.eql); apply rfl; apply rfl; apply rfl) | ((with_reducible apply T.pickT); apply rfl; apply rfl; apply rfl) | ((with_reducible apply T.pickF); apply rfl; apply rfl; apply rfl) | with_reducible refine Sr.nil ?_ | with_reducible refine S.seq ?_ | with_reducible refine S.block ?_ | with_reducible refine S.reg ?_ | with_reducible refine S.skip ?_ | ((with_reducible apply S.exit); apply rfl) | ((with_reducible apply T.ung); apply rfl) | ((with_reducible apply T.skip); apply rfl; apply rfl; apply rfl) | ((with_reducible apply S.condF); apply rfl) | ((with_reducible apply T.doneW); apply rfl) | ((with_reducible apply S.condQ); apply rfl; all_goals (intro _; try (exfalso; omega))) | ((with_reducible apply T.gcase); apply rfl; apply rfl; all_goals (intro _; try (exfalso; omega))) | fail)
  · rename_i hi hE0
    have hE0' : E' = 0 := by omega
    subst hE0'
    replace g4 := g4 rfl
    rw [show n - i = (n - (i + 1)) + 1 by omega, copyN] at g4
    ((with_reducible apply S.draw); (case Hs => exact H); (case es => exact  [14]); (case n => exact  15); (case hn => rfl))
    repeat' (first | ((with_reducible apply T.subI); apply rfl; apply rfl; omega; apply rfl; rw [es]) | (refine T.call rfl rfl (putR_spec (out'.getD (out'.length - d) 0) g2 hmx) ?_; rintro _ _ ⟨oa, oc, rfl, rfl⟩) | ((with_reducible apply T.mv); apply rfl; apply rfl) | ((with_reducible apply T.asn); apply rfl; apply rfl) | ((with_reducible apply T.len); apply rfl; apply rfl) | ((with_reducible apply T.nilCheck); apply rfl; apply rfl) | ((with_reducible apply T.fieldAddrZ); apply rfl; apply rfl) | ((with_reducible apply T.load); apply rfl; apply rfl; infer_instance; apply rfl; apply rfl) | ((with_reducible apply T.addI); apply rfl; apply rfl; omega; apply rfl) | ((with_reducible apply T.ixN); apply rfl; apply rfl; infer_instance; omega; (first | omega | (simp; omega)); apply rfl) | ((with_reducible apply T.loadB); apply rfl; infer_instance; omega; apply rfl) | with_reducible refine Sr.nil ?_ | with_reducible refine S.reg ?_ | with_reducible refine S.inBlock ?_ | (with_reducible apply T.ofRet) | ((with_reducible apply SA.qn); apply rfl; apply rfl; apply rfl; apply rfl; kernel_rfl) | ((with_reducible apply SA.qsn); apply rfl; apply rfl; apply rfl; kernel_rfl; (first | exact fun _ h => h | exact fun _ h => St.psub h (by ((repeat (first | dsimp only [List.set_cons_zero] | dsimp only [List.set_cons_succ])); repeat' first | exact PSub.refl _ | exact PSub.nil | ((with_reducible apply PSub.take); (repeat' first | (with_reducible exact pick_hd) | (with_reducible apply pick_tl))) | (with_reducible apply PSub.drop) | ((apply PSub.take); (repeat' first | exact pick_hd | (apply pick_tl))))))) | ((with_reducible apply SA.en); apply rfl; apply rfl; kernel_rfl) | ((with_reducible apply SA.done); apply rfl; kernel_rfl) | ((with_reducible apply SK.intro); (first | exact fun _ h => h | exact fun _ h => St.psub h (by ((repeat (first | dsimp only [List.set_cons_zero] | dsimp only [List.set_cons_succ])); repeat' first | exact PSub.refl _ | exact PSub.nil | ((with_reducible apply PSub.take); (repeat' first | (with_reducible exact pick_hd) | (with_reducible apply pick_tl))) | (with_reducible apply PSub.drop) | ((apply PSub.take); (repeat' first | exact pick_hd | (apply pick_tl))))))) | fail)
    refine ih _ _ _ _ ⟨i + 1, _, oa, oc, _, rfl, rfl, ⟨by omega, ?_, ?_, fun h0 => ?_, fun h0 => ?_⟩, rfl⟩ (by omega) (by repeat' first | exact trivial | refine And.intro rfl ?_)
    · unfold rput; repeat' split
      all_goals simp
      all_goals omega
    · unfold rput; repeat' split
      all_goals simp
      all_goals omega
    · unfold rput at h0 ⊢
      unfold put at g4
      by_cases hl : out'.length = most
      · simp [hl] at h0
      · simp only [hl, if_false, if_true] at g4 ⊢
        exact g4
    · unfold rput at h0 ⊢
      unfold put at g4
      by_cases hl : out'.length = most
      · simp only [hl, if_true] at g4 ⊢
        exact g4.symm
      · simp [hl] at h0
  all_goals
    refine ⟨_, .refl _, a3, out', E', oa, oc, rfl, rfl, r2, g2, ?_⟩
    by_cases hE : E' = 0
    · have g4 := g4 hE
      rw [show n - i = 0 by omega, copyN] at g4
      rw [if_pos hE, ← g4]
    · rw [if_neg hE, g5 hE]
end Go.Proofs.YtjhpbljkpbdnnaaDoor
