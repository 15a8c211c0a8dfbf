/- The walks of the document's whole answer and sums. -/
import Derived.Test.YtjhpbljkpbdnnaaDoorInfZ
namespace Go.Proofs.YtjhpbljkpbdnnaaDoor
open Sg Go.IntWalk Infl
set_option maxRecDepth 100000
set_option maxHeartbeats 400000
theorem rdN_one {bs : List UInt8} {pos : Nat} : rdN bs 1 pos = if pos + 1 ≤ 8 * bs.length then some (bit bs pos, pos + 1) else none := by
  unfold rdN
  rw [num_one]
theorem dynT_eq {bs : List UInt8} {mx p2 : Nat} {out : List UInt8} : dynT bs mx out (dyn bs p2) = (match dyn bs p2 with
    | .error e => .error e
    | .ok (p, ll, dl) => syms bs ll dl mx p out) := by
  cases dyn bs p2 with
  | error e => rfl
  | ok r => rfl
theorem inflateR_spec {F : World} {M : List Nat} {H : List Res} {c : Nat} {b : Option Addr} {bs : List UInt8} {most : Int} [hR : Rd F M H b (bs.map bV)] (hb : bs.length ≤ 1000000000000000) :
    Meets Tryd.prog 12 [.slice b bs.length c, .int .i64 most] F M H (fun e H' => ∃ oa oc, e = .returned (.tuple ⟨[.slice oa (infl bs (mostN most)).1.length oc, .int .i64 (infl bs (mostN most)).2.1, .int .i64 (infl bs (mostN most)).2.2]⟩) ∧ H' = rw_ oa oc (infl bs (mostN most)).1 :: H) := by
  refine Meets.enter Tryd.func12 rfl rfl ?_
  have hmx := mostN_le most
  refine S.nilrow 5 1 ?_
  refine S.nilrow 5 1 ?_
  skip
  refine S.seq ?_
  repeat' (first | ((with_reducible apply T.asn); apply rfl; apply rfl) | with_reducible refine Sr.nil ?_ | with_reducible refine S.reg ?_ | fail)
  refine S.seq ?_
  skip
  refine S.cut (fun H' e' => H' = .row none 0 5 1 0 [] :: .row none 0 5 1 0 [] :: H ∧ e' = [(0, .slice b bs.length c), (1, .int .i64 (if most < 0 then 0 else most))]) ?_ ?_
  · intro k' hrest
    repeat' (first | ((with_reducible apply T.mv); apply rfl; apply rfl) | ((with_reducible apply T.asn); apply rfl; apply rfl) | ((with_reducible apply T.lss); apply rfl; apply rfl; apply rfl) | with_reducible refine Sr.nil ?_ | with_reducible refine S.seq ?_ | with_reducible refine S.reg ?_ | with_reducible refine S.skip ?_ | ((with_reducible apply S.condQ); apply rfl; all_goals (intro _; try (exfalso; omega))) | fail)
    · exact hrest _ _ _ ⟨rfl, rfl⟩ (by rw [if_pos (by assumption)]; exact (by repeat' first | exact trivial | refine And.intro rfl ?_))
    · exact hrest _ _ _ ⟨rfl, rfl⟩ (by rw [if_neg (by assumption)]; exact (by repeat' first | exact trivial | refine And.intro rfl ?_))
  rintro _ _ ⟨rfl, rfl⟩
  skip
  refine S.seq ?_
  skip
  refine S.cut (fun H' e' => H' = .row none 0 5 1 0 [] :: .row none 0 5 1 0 [] :: H ∧ e' = [(0, .slice b bs.length c), (1, .int .i64 (mostN most : Nat))]) ?_ ?_
  · intro k' hrest
    have hmost : ∀ q : Int, q = (if (1048576 : Int) < (if most < 0 then 0 else most) then 1048576 else (if most < 0 then 0 else most)) → q = ((mostN most : Nat) : Int) := by
      rintro _ rfl
      unfold mostN
      repeat' split
      all_goals omega
    repeat' (first | ((with_reducible apply T.mv); apply rfl; apply rfl) | ((with_reducible apply T.asn); apply rfl; apply rfl) | ((with_reducible apply T.gtr); apply rfl; apply rfl; apply rfl) | with_reducible refine Sr.nil ?_ | with_reducible refine S.seq ?_ | with_reducible refine S.reg ?_ | with_reducible refine S.skip ?_ | ((with_reducible apply S.condQ); apply rfl; all_goals (intro _; try (exfalso; omega))) | fail)
    · refine hrest _ _ _ ⟨rfl, rfl⟩ ?_
      rw [← hmost 1048576 (by rw [if_pos (by assumption)])]
      exact (by repeat' first | exact trivial | refine And.intro rfl ?_)
    · refine hrest _ _ _ ⟨rfl, rfl⟩ ?_
      rw [← hmost _ (by rw [if_neg (by assumption)])]
      exact (by repeat' first | exact trivial | refine And.intro rfl ?_)
  rintro _ _ ⟨rfl, rfl⟩
  generalize mostN most = mx at *
  repeat' (first | ((with_reducible apply T.mv); apply rfl; apply rfl) | ((with_reducible apply T.asn); apply rfl; apply rfl) | ((with_reducible apply T.buildL); apply rfl; apply rfl; apply rfl) | ((with_reducible apply T.box); apply rfl; apply rfl; intro nb) | with_reducible refine Sr.nil ?_ | with_reducible refine S.seq ?_ | with_reducible refine S.block ?_ | with_reducible refine S.reg ?_ | fail)
  have hrd : [.slice b bs.length c, .int .i64 0, .int .i64 mx, .slice none 0 0, .int .i64 0] = rr b bs.length c 0 mx none ([] : List UInt8).length 0 0 := rfl
  revert nb
  intro p
  rw [hrd, infl_eq]
  generalize hX : blocksL bs mx (8 * bs.length + 1) 0 [] = X
  refine S.loopE 2 [7] (fun R b' μ H' e => ∃ (f last pos' : Nat) (out' : List UInt8) (oa : Option Addr) (oc E' : Nat), H' = .blk p (rr b bs.length c pos' mx oa out'.length oc E') 62 :: rw_ oa oc out' :: R ∧ e = (8, .int .i64 last) :: b' ∧
    (pos' ≤ 8 * bs.length ∧ out'.length ≤ mx ∧ (E' = 0 → 8 * bs.length < f + pos' ∧ (if last = 0 then blocksL bs mx f pos' out' else .ok (pos', out')) = X) ∧ (E' ≠ 0 → X = .error E')) ∧ μ = f) rfl rfl ?_ _ _
    ⟨8 * bs.length + 1, 0, 0, [], none, 0, 0, rfl, rfl, ⟨by omega, by simp, fun _ => ⟨by omega, hX⟩, fun h => absurd rfl h⟩, rfl⟩ (by repeat' first | exact trivial | refine And.intro rfl ?_)
  rintro f _ _ ⟨_, last, pos', out', oa, oc, E', rfl, rfl, ⟨h1, h2, h3, h4⟩, rfl⟩ ih
  have hq7 : ∀ a : Nat, (a : Int) + 7 = ((a + 7 : Nat) : Int) := fun a => by omega
  have hq8 : ∀ a : Nat, ((a + 7 : Nat) : Int).tdiv 8 = (((a + 7) / 8 : Nat) : Int) := fun a => by rw [Int.tdiv_eq_ediv_of_nonneg (by omega)]; omega
  have hfin : ∀ {H' : List Res} {pos' E' : Nat} {out' : List UInt8} {oa : Option Addr} {oc : Nat}, (E' ≠ 0 → X = .error E') → E' ≠ 0 → PSub (.row none 0 5 1 0 [] :: H) H' → ∃ H'', PSub H'' H' ∧ ∃ oa oc, (Ending.returned (.tuple ⟨[.slice none 0 0, .int .i64 0, .int .i64 E']⟩)) = .returned (.tuple ⟨[.slice oa (inflE X).1.length oc, .int .i64 (inflE X).2.1, .int .i64 (inflE X).2.2]⟩) ∧ H'' = rw_ oa oc (inflE X).1 :: H := by
    intro H' pos' E' out' oa oc h4 hE hs
    rw [h4 hE]
    exact ⟨_, hs, none, 0, rfl, rfl⟩
  repeat' (first | ((with_reducible apply T.addI); apply rfl; apply rfl; omega; apply rfl; rw [hq7]) | ((with_reducible apply T.quo (r := (((pos' + 7) / 8 : Nat) : Int))); apply rfl; apply rfl; omega; (rw [hq8]; exact i64_in _ (by omega)); apply rfl) | ((with_reducible apply T.mv); apply rfl; apply rfl) | ((with_reducible apply T.asn); apply rfl; apply rfl) | ((with_reducible apply T.nilCheck); apply rfl; apply rfl) | ((with_reducible apply T.fieldAddrZ); apply rfl; apply rfl) | ((with_reducible apply T.load); apply rfl; apply rfl; infer_instance; apply rfl; apply rfl) | ((with_reducible apply T.eql); apply rfl; apply rfl; apply rfl) | ((with_reducible apply T.neq); apply rfl; apply rfl; apply rfl) | ((with_reducible apply T.pickT); apply rfl; apply rfl; apply rfl) | ((with_reducible apply T.pickF); apply rfl; apply rfl; apply rfl) | with_reducible refine Sr.nil ?_ | with_reducible refine S.seq ?_ | with_reducible refine S.block ?_ | with_reducible refine S.reg ?_ | with_reducible refine S.skip ?_ | ((with_reducible apply S.exit); apply rfl) | ((with_reducible apply S.quiet); apply rfl; kernel_rfl) | ((with_reducible apply T.ung); apply rfl) | ((with_reducible apply T.skip); apply rfl; apply rfl; apply rfl) | ((with_reducible apply S.condF); apply rfl) | ((with_reducible apply T.retW); apply rfl) | ((with_reducible apply S.condQ); apply rfl; all_goals (intro _; try (exfalso; omega))) | ((with_reducible apply T.gcase); apply rfl; apply rfl; all_goals (intro _; try (exfalso; omega))) | fail)
  · rename_i hl hE
    have hl0 : last = 0 := by omega
    have hE0 : E' = 0 := by omega
    subst hl0 hE0
    obtain ⟨h5, h6⟩ := h3 rfl
    rw [if_pos rfl] at h6
    cases f with
    | zero => exfalso; omega
    | succ f =>
    rw [blocksL, rdN_one] at h6
    refine T.call rfl rfl (bit_spec hb h1) ?_
    rintro _ _ ⟨rfl, rfl⟩
    by_cases hq : pos' + 1 ≤ 8 * bs.length
    · have hrb : rbit bs pos' 0 = (bit bs pos', pos' + 1, 0) := by simp [rbit, hq]
      rw [if_pos hq] at h6
      simp only [hrb] at h6 ⊢
      generalize bit bs pos' = last' at *
      repeat' (first | ((with_reducible apply T.mv); apply rfl; apply rfl) | ((with_reducible apply T.asn); apply rfl; apply rfl) | with_reducible refine Sr.nil ?_ | with_reducible refine S.seq ?_ | with_reducible refine S.reg ?_ | (with_reducible apply T.ofRet) | fail)
      refine T.call rfl rfl (numR_spec hb hq (k := 2) (by omega)) ?_
      rintro _ _ ⟨k, p2, E2, rfl, rfl, hn⟩
      have hp2 := hn.2.1
      rcases num_ok hn with ⟨rfl, g2⟩ | ⟨rfl, g2⟩
      · rw [g2] at h6
        have hq2 := (rdN_le g2).2.2
        simp only at h6
        have hle : ∀ {r : Nat × List UInt8}, kindB bs mx k p2 out' = .ok r → p2 ≤ r.1 := kindB_le
        have next : ∀ {r : Except Nat (Nat × List UInt8)} {p3 : Nat} {out3 : List UInt8} {E3 : Nat}, kindB bs mx k p2 out' = r → p3 ≤ 8 * bs.length → out3.length ≤ mx → (r = if E3 = 0 then .ok (p3, out3) else .error E3) → (E3 = 0 → 8 * bs.length < f + p3 ∧ (if last' = 0 then blocksL bs mx f p3 out3 else .ok (p3, out3)) = X) ∧ (E3 ≠ 0 → X = .error E3) := by
          rintro r p3 out3 E3 hr w1 w2 w3
          rw [hr] at h6 hle
          refine ⟨fun h => ?_, fun h => ?_⟩
          · rw [if_pos h] at w3
            rw [w3] at h6
            have := hle w3
            exact ⟨by simp only at this; omega, h6⟩
          · rw [if_neg h] at w3
            rw [w3] at h6
            exact h6.symm
        repeat' (first | ((with_reducible apply T.mv); apply rfl; apply rfl) | ((with_reducible apply T.asn); apply rfl; apply rfl) | ((with_reducible apply T.nilCheck); apply rfl; apply rfl) | ((with_reducible apply T.fieldAddrZ); apply rfl; apply rfl) | ((with_reducible apply T.load); apply rfl; apply rfl; infer_instance; apply rfl; apply rfl) | ((with_reducible apply T.eql); apply rfl; apply rfl; apply rfl) | ((with_reducible apply T.neq); apply rfl; apply rfl; apply rfl) | with_reducible refine Sr.nil ?_ | with_reducible refine S.seq ?_ | with_reducible refine S.block ?_ | with_reducible refine S.reg ?_ | with_reducible refine S.skip ?_ | ((with_reducible apply S.condF); apply rfl) | (with_reducible apply T.ofRet) | fail)
        refine S.condQ rfl (fun hk => ?_) fun hk => ?_
        · have hk' : k = 0 := by omega
          subst hk'
          repeat' (first | (refine T.call rfl rfl (storedR_spec hp2 hb h2 hmx) ?_; rintro _ _ ⟨p3, out3, E3, oa, oc, rfl, rfl, w1, w2, w3⟩) | ((with_reducible apply T.mv); apply rfl; apply rfl) | with_reducible refine Sr.nil ?_ | with_reducible refine S.reg ?_ | with_reducible refine S.inBlock ?_ | (with_reducible apply T.ofRet) | fail)
          have nx := next (by simp only [kindB, if_true]) w1 w2 w3
          exact ih _ _ _ _ ⟨f, last', p3, out3, oa, oc, E3, rfl, rfl, ⟨w1, w2, nx.1, nx.2⟩, rfl⟩ (by omega) (by repeat' first | exact trivial | refine And.intro rfl ?_)
        have k0 : ¬ k = 0 := by omega
        repeat' (first | ((with_reducible apply T.asn); apply rfl; apply rfl) | ((with_reducible apply T.eql); apply rfl; apply rfl; apply rfl) | with_reducible refine Sr.nil ?_ | with_reducible refine S.seq ?_ | with_reducible refine S.reg ?_ | fail)
        refine S.condQ rfl (fun hk => ?_) fun hk => ?_
        · have hk' : k = 1 := by omega
          subst hk'
          repeat' (first | ((with_reducible apply T.mv); apply rfl; apply rfl) | with_reducible refine S.reg ?_ | fail)
          refine T.call rfl rfl fixedLR_spec ?_
          rintro _ _ ⟨fa, fc, rfl, rfl⟩
          repeat' (first | (with_reducible apply T.ofRet) | fail)
          refine T.call rfl rfl fixedDR_spec ?_
          rintro _ _ ⟨da, dc, rfl, rfl⟩
          repeat' (first | (with_reducible apply T.ofRet) | fail)
          refine Sr.frontR oa ?_
          refine Sr.front p ?_
          refine T.call rfl rfl (symbolsR_spec (ll := fixedL) (dl := fixedD) hp2 hb h2 hmx (by simp [fixedL]) (by simp [fixedD])) ?_
          rintro _ _ ⟨p3, out3, E3, oa, oc, rfl, rfl, w1, w2, w3⟩
          repeat' (first | with_reducible refine Sr.nil ?_ | with_reducible refine S.inBlock ?_ | (with_reducible apply T.ofRet) | fail)
          have nx := next (by simp only [kindB, k0, if_true, if_false]) w1 w2 w3
          refine S.sublist (H' := .blk p (rr b bs.length c p3 mx oa out3.length oc E3) 62 :: rw_ oa oc out3 :: .row none 0 5 1 0 [] :: H) ?_ (by ((repeat (first | dsimp only [List.set_cons_zero] | dsimp only [List.set_cons_succ])); repeat' first | exact PSub.refl _ | exact PSub.nil | ((with_reducible apply PSub.take); (repeat' first | (with_reducible exact pick_hd) | (with_reducible apply pick_tl))) | (with_reducible apply PSub.drop) | ((apply PSub.take); (repeat' first | exact pick_hd | (apply pick_tl)))))
          exact ih _ _ _ _ ⟨f, last', p3, out3, oa, oc, E3, rfl, rfl, ⟨w1, w2, nx.1, nx.2⟩, rfl⟩ (by omega) (by repeat' first | exact trivial | refine And.intro rfl ?_)
        have k1 : ¬ k = 1 := by omega
        repeat' (first | ((with_reducible apply T.asn); apply rfl; apply rfl) | ((with_reducible apply T.eql); apply rfl; apply rfl; apply rfl) | with_reducible refine Sr.nil ?_ | with_reducible refine S.seq ?_ | with_reducible refine S.reg ?_ | fail)
        refine S.condQ rfl (fun hk => ?_) fun hk => ?_
        · have hk' : k = 2 := by omega
          subst hk'
          repeat' (first | (refine T.call rfl rfl (dynamicR_spec hp2 hb h2 hmx) ?_; rintro _ _ ⟨p3, out3, E3, oa, oc, rfl, rfl, w1, w2, w3⟩) | ((with_reducible apply T.mv); apply rfl; apply rfl) | with_reducible refine Sr.nil ?_ | with_reducible refine S.reg ?_ | with_reducible refine S.inBlock ?_ | (with_reducible apply T.ofRet) | fail)
          have nx := next (by simp only [kindB, k0, k1, if_true, if_false]; cases dyn bs p2 <;> rfl) w1 w2 w3
          exact ih _ _ _ _ ⟨f, last', p3, out3, oa, oc, E3, rfl, rfl, ⟨w1, w2, nx.1, nx.2⟩, rfl⟩ (by omega) (by repeat' first | exact trivial | refine And.intro rfl ?_)
        have k2 : ¬ k = 2 := by omega
        repeat' (first | (refine T.call rfl rfl (stop_spec 240 (by omega)) ?_; rintro _ _ ⟨rfl, rfl⟩) | ((with_reducible apply T.mv); apply rfl; apply rfl) | with_reducible refine Sr.nil ?_ | with_reducible refine S.reg ?_ | with_reducible refine S.inBlock ?_ | (with_reducible apply T.ofRet) | fail)
        have nx := next (r := .error 240) (p3 := p2) (out3 := out') (E3 := stopE 0 240) (by simp only [kindB, k0, k1, k2, if_false]) hp2 h2 rfl
        exact ih _ _ _ _ ⟨f, last', p2, out', oa, oc, stopE 0 240, rfl, rfl, ⟨hp2, h2, nx.1, nx.2⟩, rfl⟩ (by omega) (by repeat' first | exact trivial | refine And.intro rfl ?_)
      · rw [g2] at h6
        repeat' (first | ((with_reducible apply T.mv); apply rfl; apply rfl) | ((with_reducible apply T.asn); apply rfl; apply rfl) | ((with_reducible apply T.nilCheck); apply rfl; apply rfl) | ((with_reducible apply T.fieldAddrZ); apply rfl; apply rfl) | ((with_reducible apply T.load); apply rfl; apply rfl; infer_instance; apply rfl; apply rfl) | ((with_reducible apply T.neq); apply rfl; apply rfl; apply rfl) | with_reducible refine Sr.nil ?_ | with_reducible refine S.seq ?_ | with_reducible refine S.reg ?_ | ((with_reducible apply S.exit); apply rfl) | ((with_reducible apply S.quiet); apply rfl; kernel_rfl) | ((with_reducible apply S.condT); apply rfl) | ((with_reducible apply T.retW); apply rfl) | (with_reducible apply T.ofRet) | fail)
        exact hfin (pos' := 0) (out' := []) (oa := none) (oc := 0) (fun _ => h6.symm) (by omega) (by ((repeat (first | dsimp only [List.set_cons_zero] | dsimp only [List.set_cons_succ])); repeat' first | exact PSub.refl _ | exact PSub.nil | ((with_reducible apply PSub.take); (repeat' first | (with_reducible exact pick_hd) | (with_reducible apply pick_tl))) | (with_reducible apply PSub.drop) | ((apply PSub.take); (repeat' first | exact pick_hd | (apply pick_tl)))))
    · have hrb : rbit bs pos' 0 = (0, pos', 240) := by simp [rbit, hq]
      rw [if_neg hq] at h6
      simp only [hrb] at h6 ⊢
      repeat' (first | ((with_reducible apply T.mv); apply rfl; apply rfl) | ((with_reducible apply T.asn); apply rfl; apply rfl) | with_reducible refine Sr.nil ?_ | with_reducible refine S.seq ?_ | with_reducible refine S.reg ?_ | (with_reducible apply T.ofRet) | fail)
      refine T.call rfl rfl (numR_spec hb h1 (k := 2) (by omega)) ?_
      rintro _ _ ⟨k, p2, E2, rfl, rfl, hn⟩
      have hE2 : E2 = 240 := hn.2.2.2 (by omega)
      subst hE2
      repeat' (first | ((with_reducible apply T.mv); apply rfl; apply rfl) | ((with_reducible apply T.asn); apply rfl; apply rfl) | ((with_reducible apply T.nilCheck); apply rfl; apply rfl) | ((with_reducible apply T.fieldAddrZ); apply rfl; apply rfl) | ((with_reducible apply T.load); apply rfl; apply rfl; infer_instance; apply rfl; apply rfl) | ((with_reducible apply T.neq); apply rfl; apply rfl; apply rfl) | with_reducible refine Sr.nil ?_ | with_reducible refine S.seq ?_ | with_reducible refine S.reg ?_ | ((with_reducible apply S.exit); apply rfl) | ((with_reducible apply S.quiet); apply rfl; kernel_rfl) | ((with_reducible apply S.condT); apply rfl) | ((with_reducible apply T.retW); apply rfl) | (with_reducible apply T.ofRet) | fail)
      exact hfin (pos' := 0) (out' := []) (oa := none) (oc := 0) (fun _ => h6.symm) (by omega) (by ((repeat (first | dsimp only [List.set_cons_zero] | dsimp only [List.set_cons_succ])); repeat' first | exact PSub.refl _ | exact PSub.nil | ((with_reducible apply PSub.take); (repeat' first | (with_reducible exact pick_hd) | (with_reducible apply pick_tl))) | (with_reducible apply PSub.drop) | ((apply PSub.take); (repeat' first | exact pick_hd | (apply pick_tl)))))
  · exact hfin (pos' := 0) (out' := []) (oa := none) (oc := 0) h4 (by omega) (by ((repeat (first | dsimp only [List.set_cons_zero] | dsimp only [List.set_cons_succ])); repeat' first | exact PSub.refl _ | exact PSub.nil | ((with_reducible apply PSub.take); (repeat' first | (with_reducible exact pick_hd) | (with_reducible apply pick_tl))) | (with_reducible apply PSub.drop) | ((apply PSub.take); (repeat' first | exact pick_hd | (apply pick_tl)))))
  · exact hfin (pos' := 0) (out' := []) (oa := none) (oc := 0) h4 (by omega) (by ((repeat (first | dsimp only [List.set_cons_zero] | dsimp only [List.set_cons_succ])); repeat' first | exact PSub.refl _ | exact PSub.nil | ((with_reducible apply PSub.take); (repeat' first | (with_reducible exact pick_hd) | (with_reducible apply pick_tl))) | (with_reducible apply PSub.drop) | ((apply PSub.take); (repeat' first | exact pick_hd | (apply pick_tl)))))
  · rename_i hl hE
    have hE0 : E' = 0 := by omega
    subst hE0
    obtain ⟨h5, h6⟩ := h3 rfl
    rw [if_neg (by omega)] at h6
    rw [← h6]
    exact ⟨rw_ oa oc out' :: H, by ((repeat (first | dsimp only [List.set_cons_zero] | dsimp only [List.set_cons_succ])); repeat' first | exact PSub.refl _ | exact PSub.nil | ((with_reducible apply PSub.take); (repeat' first | (with_reducible exact pick_hd) | (with_reducible apply pick_tl))) | (with_reducible apply PSub.drop) | ((apply PSub.take); (repeat' first | exact pick_hd | (apply pick_tl)))), oa, oc, rfl, rfl⟩
end Go.Proofs.YtjhpbljkpbdnnaaDoor
