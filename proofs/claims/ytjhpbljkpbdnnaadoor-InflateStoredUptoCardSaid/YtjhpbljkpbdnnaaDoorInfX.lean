/- The walks of the document's blocks of symbols. -/
import Derived.Test.YtjhpbljkpbdnnaaDoorInfW
import Derived.Test.YtjhpbljkpbdnnaaDoorInfT
namespace Go.Proofs.YtjhpbljkpbdnnaaDoor
open Sg Go.IntWalk Infl
set_option maxRecDepth 100000
theorem symbolsR_spec {F : World} {M : List Nat} {H : List Res} {p c oc lc dc : Nat} {b oa la da : Option Addr} {most : Nat} {bs out : List UInt8} {ll dl : List Nat} [Rd F M H b (bs.map bV)] [Rd F M H la (ll.map nV)] [Rd F M H da (dl.map nV)] {pos : Nat} (hp : pos ≤ 8 * bs.length) (hb : bs.length ≤ 1000000000000000) (hm : out.length ≤ most) (hmx : most ≤ 1048576)
    (hll : ll.length ≤ 100000) (hdl : dl.length ≤ 100000) :
    Meets Tryd.prog 37 [.pointer (some ⟨p, 0, none⟩), .slice la ll.length lc, .slice da dl.length dc] F M (.blk p (rr b bs.length c pos most oa out.length oc 0) 62 :: rw_ oa oc out :: H) (LeftR p b bs c most H (syms bs ll dl most pos out)) := by
  refine Meets.enter Tryd.func37 rfl rfl ?_
  repeat' (first | ((with_reducible apply T.mv); apply rfl; apply rfl) | with_reducible refine S.seq ?_ | with_reducible refine S.reg ?_ | fail)
  refine T.call rfl rfl (wordsR_spec rfl hll) ?_
  rintro _ _ ⟨b1, rfl, rfl⟩
  repeat' (first | ((with_reducible apply T.mv); apply rfl; apply rfl) | ((with_reducible apply T.asn); apply rfl; apply rfl) | with_reducible refine Sr.nil ?_ | with_reducible refine S.seq ?_ | with_reducible refine S.reg ?_ | (with_reducible apply T.ofRet) | fail)
  refine T.call rfl rfl (wordsR_spec rfl hdl) ?_
  rintro _ _ ⟨b2, rfl, rfl⟩
  have hwl := wordsR_len ll
  repeat' (first | ((with_reducible apply T.asn); apply rfl; apply rfl) | with_reducible refine Sr.nil ?_ | with_reducible refine S.block ?_ | (with_reducible apply T.ofRet) | fail)
  refine S.frontR oa ?_
  refine S.front p ?_
  generalize hX : syms bs ll dl most pos out = X
  refine S.loopE 2 [0, 6, 7] (fun R b' μ H' e => ∃ (f pos' : Nat) (out' : List UInt8) (oa : Option Addr) (oc E' : Nat), H' = .blk p (rr b bs.length c pos' most oa out'.length oc E') 62 :: rw_ oa oc out' :: R ∧ e = b' ∧
    (pos' ≤ 8 * bs.length ∧ out'.length ≤ most ∧ (E' = 0 → 8 * bs.length < f + pos' ∧ symsL bs ll dl most f pos' out' = X) ∧ (E' ≠ 0 → X = .error E')) ∧ μ = f) rfl rfl ?_ _ _ ⟨8 * bs.length + 1, pos, out, oa, oc, 0, rfl, rfl, ⟨hp, hm, fun _ => ⟨by omega, hX⟩, fun h => absurd rfl h⟩, rfl⟩ (by repeat' first | exact trivial | refine And.intro rfl ?_)
  rintro f _ _ ⟨_, pos', out', oa, oc, E', rfl, rfl, ⟨h1, h2, h3, h4⟩, rfl⟩ ih
  have fin : ∀ {H' : List Res} {pos' : Nat} {out' : List UInt8} {oa oc E'}, pos' ≤ 8 * bs.length → out'.length ≤ most → (X = if E' = 0 then .ok (pos', out') else .error E') → PSub (.blk p (rr b bs.length c pos' most oa out'.length oc E') 62 :: rw_ oa oc out' :: H) H' →
      ∃ H'', PSub H'' H' ∧ LeftR p b bs c most H X (.returned (.tuple #[])) H'' := fun q1 q2 q3 q4 => ⟨_, q4, _, _, _, _, _, rfl, rfl, q1, q2, q3⟩
  repeat' (first | ((with_reducible apply T.mv); apply rfl; apply rfl) | ((with_reducible apply T.nilCheck); apply rfl; apply rfl) | ((with_reducible apply T.fieldAddrZ); apply rfl; apply rfl) | ((with_reducible apply T.load); apply rfl; apply rfl; infer_instance; apply rfl; apply rfl) | ((with_reducible apply T.eql); apply rfl; apply rfl; apply rfl) | with_reducible refine Sr.nil ?_ | with_reducible refine S.seq ?_ | with_reducible refine S.reg ?_ | fail)
  refine S.condQ rfl (fun hE => ?_) fun hE => ?_
  · have hE0 : E' = 0 := by omega
    subst hE0
    obtain ⟨h5, h6⟩ := h3 rfl
    cases f with
    | zero => exfalso; omega
    | succ f =>
    rw [symsL] at h6
    repeat' (first | ((with_reducible apply T.mv); apply rfl; apply rfl) | with_reducible refine S.seq ?_ | with_reducible refine S.block ?_ | with_reducible refine S.reg ?_ | with_reducible refine S.skip ?_ | fail)
    refine T.call rfl rfl (symR_spec hwl hll hb h1) ?_
    rintro _ _ ⟨s, a1, E1, rfl, rfl, s1, s2, -, s4, -⟩
    replace s2 := s2 rfl
    rw [rsym_eq] at s2
    rw [hwl] at s4
    by_cases hE1 : E1 = 0
    · subst hE1
      cases g1 : sym (code ll).1 (code ll).2 bs pos' with
      | none => rw [g1] at s2; simp only at s2; omega
      | some r =>
      obtain ⟨s', p'⟩ := r
      rw [g1] at s2 h6
      obtain ⟨rfl, rfl, -⟩ := s2
      simp only at h6
      have hle := sym_le g1
      by_cases h256 : s = 256
      · subst h256
        rw [if_neg (by omega), if_pos rfl] at h6
        repeat' (first | ((with_reducible apply T.mv); apply rfl; apply rfl) | ((with_reducible apply T.asn); apply rfl; apply rfl) | ((with_reducible apply T.nilCheck); apply rfl; apply rfl) | ((with_reducible apply T.fieldAddrZ); apply rfl; apply rfl) | ((with_reducible apply T.load); apply rfl; apply rfl; infer_instance; apply rfl; apply rfl) | ((with_reducible apply T.eql); apply rfl; apply rfl; apply rfl) | ((with_reducible apply T.neq); apply rfl; apply rfl; apply rfl) | ((with_reducible apply T.pickF); apply rfl; apply rfl; apply rfl) | with_reducible refine Sr.nil ?_ | with_reducible refine S.seq ?_ | with_reducible refine S.reg ?_ | ((with_reducible apply T.ung); apply rfl) | ((with_reducible apply S.condT); apply rfl) | ((with_reducible apply T.retW); apply rfl) | (with_reducible apply T.ofRet) | fail)
        exact fin (E' := 0) s1 h2 h6.symm (by ((repeat (first | dsimp only [List.set_cons_zero] | dsimp only [List.set_cons_succ])); repeat' first | exact PSub.refl _ | exact PSub.nil | ((with_reducible apply PSub.take); (repeat' first | (with_reducible exact pick_hd) | (with_reducible apply pick_tl))) | (with_reducible apply PSub.drop) | ((apply PSub.take); (repeat' first | exact pick_hd | (apply pick_tl)))))
      by_cases hlt : s < 256
      · rw [if_pos hlt] at h6
        have e1 : (s : Int) = ((UInt8.ofNat s).toNat : Int) := by simp; omega
        repeat' (first | ((with_reducible apply T.convU8); apply rfl; omega; apply rfl; rw [e1]) | (refine T.call rfl rfl (putR_spec (UInt8.ofNat s) h2 hmx) ?_; rintro _ _ ⟨oa, oc, rfl, rfl⟩) | ((with_reducible apply T.mv); apply rfl; apply rfl) | ((with_reducible apply T.asn); apply rfl; apply rfl) | ((with_reducible apply T.nilCheck); apply rfl; apply rfl) | ((with_reducible apply T.fieldAddrZ); apply rfl; apply rfl) | ((with_reducible apply T.load); apply rfl; apply rfl; infer_instance; apply rfl; apply rfl) | ((with_reducible apply T.lss); apply rfl; apply rfl; apply rfl) | ((with_reducible apply T.eql); apply rfl; apply rfl; apply rfl) | ((with_reducible apply T.neq); apply rfl; apply rfl; apply rfl) | ((with_reducible apply T.pickF); apply rfl; apply rfl; apply rfl) | with_reducible refine Sr.nil ?_ | with_reducible refine S.seq ?_ | with_reducible refine S.reg ?_ | with_reducible refine S.skip ?_ | with_reducible refine S.inBlock ?_ | ((with_reducible apply T.ung); apply rfl) | (with_reducible apply T.ofRet) | ((with_reducible apply S.condQ); apply rfl; all_goals (intro _; try (exfalso; omega))) | fail)
        refine ih _ _ _ _ ⟨f, a1, _, oa, oc, _, rfl, rfl, ⟨s1, ?_, fun h0 => ?_, fun h0 => ?_⟩, rfl⟩ (by omega) (by repeat' first | exact trivial | refine And.intro rfl ?_)
        · unfold rput; repeat' split
          all_goals simp
          all_goals omega
        · unfold rput at h0 ⊢
          unfold put at h6
          by_cases hl : out'.length = most
          · simp [hl] at h0
          · simp only [hl, if_false, if_true] at h6 ⊢
            exact ⟨by omega, h6⟩
        · unfold rput at h0 ⊢
          unfold put at h6
          by_cases hl : out'.length = most
          · simp only [hl, if_true] at h6 ⊢
            exact h6.symm
          · simp [hl] at h0
      · rw [if_neg hlt, if_neg h256] at h6
        have hsym : ∀ pos, rsym (wordsR dl) bs pos = sym (code dl).1 (code dl).2 bs pos := rsym_eq dl bs
        repeat' (first | (refine T.call rfl rfl (copiedR_spec s1 hb h2 hmx (by omega) hdl hsym) ?_; rintro _ _ ⟨a2, out2, E2, oa, oc, rfl, rfl, r1, r2, r3⟩) | ((with_reducible apply T.mv); apply rfl; apply rfl) | ((with_reducible apply T.asn); apply rfl; apply rfl) | ((with_reducible apply T.nilCheck); apply rfl; apply rfl) | ((with_reducible apply T.fieldAddrZ); apply rfl; apply rfl) | ((with_reducible apply T.load); apply rfl; apply rfl; infer_instance; apply rfl; apply rfl) | ((with_reducible apply T.lss); apply rfl; apply rfl; apply rfl) | ((with_reducible apply T.eql); apply rfl; apply rfl; apply rfl) | ((with_reducible apply T.neq); apply rfl; apply rfl; apply rfl) | ((with_reducible apply T.pickF); apply rfl; apply rfl; apply rfl) | with_reducible refine Sr.nil ?_ | with_reducible refine S.seq ?_ | with_reducible refine S.reg ?_ | with_reducible refine S.skip ?_ | with_reducible refine S.inBlock ?_ | ((with_reducible apply T.ung); apply rfl) | (with_reducible apply T.ofRet) | ((with_reducible apply S.condQ); apply rfl; all_goals (intro _; try (exfalso; omega))) | fail)
        refine ih _ _ _ _ ⟨f, a2, out2, oa, oc, E2, rfl, rfl, ⟨r1, r2, fun h0 => ?_, fun h0 => ?_⟩, rfl⟩ (by omega) (by repeat' first | exact trivial | refine And.intro rfl ?_)
        · subst h0
          rw [if_pos rfl] at r3
          rw [r3] at h6
          have := copied_le r3
          exact ⟨by omega, h6⟩
        · rw [if_neg h0] at r3
          rw [r3] at h6
          exact h6.symm
    · have hn : sym (code ll).1 (code ll).2 bs pos' = none ∧ E1 = 240 := by
        cases g1 : sym (code ll).1 (code ll).2 bs pos' with
        | none => rw [g1] at s2; exact ⟨rfl, s2⟩
        | some r =>
          obtain ⟨s', p'⟩ := r
          rw [g1] at s2
          exact absurd s2.2.2 hE1
      obtain ⟨hn, rfl⟩ := hn
      rw [hn] at h6
      repeat' (first | ((with_reducible apply T.mv); apply rfl; apply rfl) | ((with_reducible apply T.asn); apply rfl; apply rfl) | ((with_reducible apply T.nilCheck); apply rfl; apply rfl) | ((with_reducible apply T.fieldAddrZ); apply rfl; apply rfl) | ((with_reducible apply T.load); apply rfl; apply rfl; infer_instance; apply rfl; apply rfl) | ((with_reducible apply T.neq); apply rfl; apply rfl; apply rfl) | ((with_reducible apply T.pickT); apply rfl; apply rfl; apply rfl) | with_reducible refine Sr.nil ?_ | with_reducible refine S.seq ?_ | with_reducible refine S.reg ?_ | ((with_reducible apply T.skip); apply rfl; apply rfl; apply rfl) | ((with_reducible apply S.condT); apply rfl) | ((with_reducible apply T.retW); apply rfl) | (with_reducible apply T.ofRet) | fail)
      exact fin (E' := 240) s1 h2 h6.symm (by ((repeat (first | dsimp only [List.set_cons_zero] | dsimp only [List.set_cons_succ])); repeat' first | exact PSub.refl _ | exact PSub.nil | ((with_reducible apply PSub.take); (repeat' first | (with_reducible exact pick_hd) | (with_reducible apply pick_tl))) | (with_reducible apply PSub.drop) | ((apply PSub.take); (repeat' first | exact pick_hd | (apply pick_tl)))))
  · have hE0 : E' ≠ 0 := by omega
    repeat' (first | ((with_reducible apply S.exit); apply rfl) | ((with_reducible apply T.doneW); apply rfl) | fail)
    exact fin h1 h2 (by rw [if_neg hE0]; exact h4 hE0) (by ((repeat (first | dsimp only [List.set_cons_zero] | dsimp only [List.set_cons_succ])); repeat' first | exact PSub.refl _ | exact PSub.nil | ((with_reducible apply PSub.take); (repeat' first | (with_reducible exact pick_hd) | (with_reducible apply pick_tl))) | (with_reducible apply PSub.drop) | ((apply PSub.take); (repeat' first | exact pick_hd | (apply pick_tl)))))
end Go.Proofs.YtjhpbljkpbdnnaaDoor
