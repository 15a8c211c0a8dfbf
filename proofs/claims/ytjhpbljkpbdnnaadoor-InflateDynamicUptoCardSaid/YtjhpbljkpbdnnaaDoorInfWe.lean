/- The walk of the statements' 'unfolded'. -/
import Derived.Test.YtjhpbljkpbdnnaaDoorInfWd
namespace Infl
/-- A token as it is given. -/
abbrev Rk := UInt8 × Int × Int
def cnt1 (out : List UInt8) (x : Rk) : Tk := if x.2.1 < 3 ∨ 258 < x.2.1 ∨ x.2.2 < 1 ∨ 32768 < x.2.2 ∨ (out.length : Int) < x.2.2 then (x.1, 0, 0) else (x.1, x.2.1.toNat, x.2.2.toNat)
def unfR : List Rk → List UInt8 → List Tk
  | [], _ => []
  | x :: r, out => if out.length < 65536 then cnt1 out x :: unfR r (tokO out (cnt1 out x)) else []
theorem cnt1_valid (out : List UInt8) (x : Rk) : Valid1 out (cnt1 out x) := by
  unfold cnt1
  split
  · exact .inl rfl
  · refine .inr ⟨?_, ?_, ?_, ?_, ?_⟩ <;> simp only <;> omega
theorem unfR_valid : ∀ (xs : List Rk) (out : List UInt8), Valid out (unfR xs out)
  | [], _ => trivial
  | x :: r, out => by
    rw [unfR]
    split
    · exact ⟨cnt1_valid out x, unfR_valid r _⟩
    · trivial
theorem tokO_len {out : List UInt8} {t : Tk} (h : Valid1 out t) : (tokO out t).length ≤ out.length + 258 := by
  unfold tokO
  split
  · simp
  · rename_i h0
    have := h.resolve_left h0
    rw [copyL_len]
    omega
theorem unfR_len : ∀ (xs : List Rk) (out : List UInt8), out.length ≤ 65793 → (unf out (unfR xs out)).length ≤ 65793 ∧ (unfR xs out).length ≤ xs.length
  | [], out, h => by simpa [unfR, unf] using h
  | x :: r, out, h => by
    rw [unfR]
    split
    · have h1 := tokO_len (cnt1_valid out x)
      have ih := unfR_len r (tokO out (cnt1 out x)) (by omega)
      exact ⟨ih.1, by rw [List.length_cons, List.length_cons]; omega⟩
    · exact ⟨h, Nat.zero_le _⟩
end Infl
namespace Go.Proofs.YtjhpbljkpbdnnaaDoor
open Sg Go.IntWalk Infl
set_option maxRecDepth 100000
set_option maxHeartbeats 2000000
abbrev rkV (x : Rk) : List Value := [.int .u8 (x.1.toNat : Int), .int .i64 x.2.1, .int .i64 x.2.2]
theorem unfolded_spec {F : World} {M : List Nat} {H : List Res} {tc : Nat} {ta : Option Addr} {xs : List Rk} [hT : Rd F M H ta (xs.flatMap rkV)] (hlen : xs.length ≤ 10000000) :
    Meets Tryd.prog 17 [.slice ta xs.length tc] F M H
      (fun e H' => ∃ oa oc aa ac, e = .returned (.tuple ⟨[.slice oa (unf [] (unfR xs [])).length oc, .slice aa (unfR xs []).length ac]⟩) ∧ H' = rw_ oa oc (unf [] (unfR xs [])) :: .row aa ac 67 3 (unfR xs []).length ((unfR xs []).flatMap tkV) :: H) := by
  refine Meets.enter Tryd.func17 rfl rfl ?_
  refine S.nilrow 67 3 ?_
  refine S.nilrow 5 1 ?_
  repeat' (first | ((with_reducible apply T.asn); apply rfl; apply rfl) | with_reducible refine Sr.nil ?_ | with_reducible refine S.seq ?_ | with_reducible refine S.block ?_ | with_reducible refine S.reg ?_ | fail)
  refine S.loopE 2 [0] (fun R b' μ H' e => ∃ (i : Nat) (out : List UInt8) (cs : List Tk) (oa aa : Option Addr) (oc ac : Nat), H' = rw_ oa oc out :: .row aa ac 67 3 cs.length (cs.flatMap tkV) :: R ∧ e = (4, .slice oa out.length oc) :: (5, .slice aa cs.length ac) :: (6, .int .i64 i) :: b' ∧
    (i ≤ xs.length ∧ out.length ≤ 65793 ∧ out = unf [] cs ∧ unfR xs [] = cs ++ unfR (xs.drop i) out ∧ cs.length ≤ i) ∧ μ = xs.length - i) rfl rfl ?_ _ _ ⟨0, [], [], none, none, 0, 0, rfl, rfl, ⟨by omega, by simp, rfl, rfl, by simp⟩, rfl⟩ (by repeat' first | exact trivial | refine And.intro rfl ?_)
  rintro _ _ _ ⟨i, out, cs, oa, aa, oc, ac, rfl, rfl, ⟨hi, hol, hou, hun, hcl⟩, rfl⟩ ih
  have hend : (¬ (i < xs.length)) ∨ ¬ out.length < 65536 → unfR xs [] = cs := fun h => by
    rw [hun]
    have : unfR (xs.drop i) out = [] := by
      rcases h with h | h
      · rw [List.drop_eq_nil_of_le (by omega)]; rfl
      · cases xs.drop i with
        | nil => rfl
        | cons x r => rw [unfR, if_neg h]
    rw [this, List.append_nil]
  have hstep : i < xs.length → out.length < 65536 → unfR xs [] = (cs ++ [cnt1 out (xs.getD i default)]) ++ unfR (xs.drop (i + 1)) (tokO out (cnt1 out (xs.getD i default))) ∧ tokO out (cnt1 out (xs.getD i default)) = unf [] (cs ++ [cnt1 out (xs.getD i default)]) ∧ (tokO out (cnt1 out (xs.getD i default))).length ≤ 65793 := fun h1 h2 => by
    have hd : xs.drop i = xs.getD i default :: xs.drop (i + 1) := by
      rw [List.drop_eq_getElem_cons h1, List.getD_eq_getElem?_getD, List.getElem?_eq_getElem h1]; rfl
    refine ⟨?_, ?_, ?_⟩
    · rw [hun, hd, unfR, if_pos h2, List.append_assoc]; rfl
    · rw [unf_app, ← hou]; rfl
    · have := tokO_len (cnt1_valid out (xs.getD i default))
      omega
  generalize hX : unfR xs [] = X at *
  by_cases h1 : i < xs.length
  · by_cases h2 : out.length < 65536
    · have hdec : decide ((out.length : Int) < 65536) = true := decide_eq_true (by omega)
      obtain ⟨s1, s2, s3⟩ := hstep h1 h2
      clear hend hstep hun
      obtain ⟨ch, n, d, hx⟩ : ∃ (ch : UInt8) (n d : Int), xs.getD i default = (ch, n, d) := ⟨_, _, _, rfl⟩
      rw [hx] at s1 s2 s3
      by_cases hc : n < 3 ∨ 258 < n ∨ d < 1 ∨ 32768 < d ∨ (out.length : Int) < d
      · have hcn : cnt1 out (ch, n, d) = (ch, 0, 0) := if_pos hc
        have htO : tokO out (ch, 0, 0) = out ++ [ch] := rfl
        rw [hcn] at s1 s2 s3
        repeat' (first | ((with_reducible apply T.loadFN); apply rfl; apply rfl; infer_instance; exact (fun _ => rfl); apply rfl; exact getD_some (by omega); apply rfl; rw [hx]; dsimp only [rkV]) | ((with_reducible apply T.lss (n := 65536)); apply rfl; apply rfl; apply rfl; rw [hdec]) | (refine T.appendF (g := tkV) (ch, 0, 0) rfl rfl rfl inferInstance (fun _ => rfl) rfl rfl rfl (by constructor <;> omega) rfl ?_; intro na nc) | ((with_reducible apply T.mv); apply rfl; apply rfl) | ((with_reducible apply T.asn); apply rfl; apply rfl) | ((with_reducible apply T.len); apply rfl; apply rfl) | ((with_reducible apply T.fieldAddrZ); apply rfl; apply rfl) | ((with_reducible apply T.load); apply rfl; apply rfl; infer_instance; apply rfl; apply rfl) | ((with_reducible apply T.lss); apply rfl; apply rfl; apply rfl) | ((with_reducible apply T.gtr); apply rfl; apply rfl; apply rfl) | ((with_reducible apply T.addI); apply rfl; apply rfl; omega; apply rfl) | ((with_reducible apply T.ixF); apply rfl; apply rfl; infer_instance; exact (fun _ => rfl); apply rfl; omega; omega; apply rfl) | ((with_reducible apply T.pickT); apply rfl; apply rfl; apply rfl) | ((with_reducible apply T.pickF); apply rfl; apply rfl; apply rfl) | ((with_reducible apply T.buildL); apply rfl; apply rfl; apply rfl) | ((with_reducible apply T.storeW); apply rfl; apply rfl; infer_instance; (first | rfl | ((first | simp only [List.length_append] | simp only [List.length_map] | simp only [List.length_set] | simp only [List.length_replicate] | simp only [List.length_cons] | simp only [List.length_nil]); (repeat (first | simp only [List.length_append] | simp only [List.length_map] | simp only [List.length_set] | simp only [List.length_replicate] | simp only [List.length_cons] | simp only [List.length_nil])); first | done | omega)); (first | rfl | ((first | simp only [List.length_append] | simp only [List.length_map] | simp only [List.length_set] | simp only [List.length_replicate] | simp only [List.length_cons] | simp only [List.length_nil]); (repeat (first | simp only [List.length_append] | simp only [List.length_map] | simp only [List.length_set] | simp only [List.length_replicate] | simp only [List.length_cons] | simp only [List.length_nil])); first | done | omega)); (first | rfl | (repeat' first | apply all_nV | apply all_bV | apply all_iV | rfl | apply all_app))) | ((with_reducible apply T.alloc); apply rfl; intro nb) | ((with_reducible apply T.bs); apply rfl; apply rfl; apply rfl; apply rfl; apply rfl; apply rfl; intro nb) | ((with_reducible apply T.bsL); apply rfl; apply rfl; apply rfl; apply rfl; apply rfl; intro nb) | ((with_reducible apply T.appendB); apply rfl; apply rfl; infer_instance; apply rfl; (constructor <;> omega); apply rfl; intro na nc) | with_reducible refine Sr.nil ?_ | with_reducible refine S.seq ?_ | with_reducible refine S.block ?_ | with_reducible refine S.reg ?_ | with_reducible refine S.skip ?_ | ((with_reducible apply S.exit); apply rfl) | ((with_reducible apply T.ung); apply rfl) | ((with_reducible apply T.skip); apply rfl; apply rfl; apply rfl) | ((with_reducible apply S.condT); apply rfl) | ((with_reducible apply S.condQ); apply rfl; all_goals (intro _; try (exfalso; omega))) | ((with_reducible apply T.gcase); apply rfl; apply rfl; all_goals (intro _; try (exfalso; omega))) | fail)
        all_goals
          rw [htO] at s1 s2 s3
          have ec : cs.length + 1 = (cs ++ [((ch, 0, 0) : Tk)]).length := by simp
          have eo : out.length + 1 = (out ++ [ch]).length := by simp
          rw [ec, eo]
          exact S.sublist (ih _ _ _ _ ⟨i + 1, out ++ [ch], cs ++ [(ch, 0, 0)], _, _, _, _, rfl, rfl, ⟨by omega, s3, s2, s1, by simp; omega⟩, rfl⟩ (by omega) (by repeat' first | exact trivial | refine And.intro rfl ?_)) (by ((repeat (first | dsimp only [List.set_cons_zero] | dsimp only [List.set_cons_succ])); repeat' first | exact PSub.refl _ | exact PSub.nil | ((with_reducible apply PSub.take); (repeat' first | (with_reducible exact pick_hd) | (with_reducible apply pick_tl))) | (with_reducible apply PSub.drop) | ((apply PSub.take); (repeat' first | exact pick_hd | (apply pick_tl)))))
      · have hcn : cnt1 out (ch, n, d) = (ch, n.toNat, d.toNat) := if_neg hc
        rw [hcn] at s1 s2 s3
        obtain ⟨n, rfl⟩ := Int.eq_ofNat_of_zero_le (show 0 ≤ n by omega)
        obtain ⟨d, rfl⟩ := Int.eq_ofNat_of_zero_le (show 0 ≤ d by omega)
        rw [Int.toNat_natCast, Int.toNat_natCast] at s1 s2 s3
        repeat' (first | ((with_reducible apply T.loadFN); apply rfl; apply rfl; infer_instance; exact (fun _ => rfl); apply rfl; exact getD_some (by omega); apply rfl; rw [hx]; dsimp only [rkV]) | ((with_reducible apply T.lss (n := 65536)); apply rfl; apply rfl; apply rfl; rw [hdec]) | ((with_reducible apply T.mv); apply rfl; apply rfl) | ((with_reducible apply T.asn); apply rfl; apply rfl) | ((with_reducible apply T.len); apply rfl; apply rfl) | ((with_reducible apply T.fieldAddrZ); apply rfl; apply rfl) | ((with_reducible apply T.load); apply rfl; apply rfl; infer_instance; apply rfl; apply rfl) | ((with_reducible apply T.lss); apply rfl; apply rfl; apply rfl) | ((with_reducible apply T.gtr); apply rfl; apply rfl; apply rfl) | ((with_reducible apply T.ixF); apply rfl; apply rfl; infer_instance; exact (fun _ => rfl); apply rfl; omega; omega; apply rfl) | ((with_reducible apply T.pickT); apply rfl; apply rfl; apply rfl) | ((with_reducible apply T.pickF); apply rfl; apply rfl; apply rfl) | ((with_reducible apply T.storeW); apply rfl; apply rfl; infer_instance; (first | rfl | ((first | simp only [List.length_append] | simp only [List.length_map] | simp only [List.length_set] | simp only [List.length_replicate] | simp only [List.length_cons] | simp only [List.length_nil]); (repeat (first | simp only [List.length_append] | simp only [List.length_map] | simp only [List.length_set] | simp only [List.length_replicate] | simp only [List.length_cons] | simp only [List.length_nil])); first | done | omega)); (first | rfl | ((first | simp only [List.length_append] | simp only [List.length_map] | simp only [List.length_set] | simp only [List.length_replicate] | simp only [List.length_cons] | simp only [List.length_nil]); (repeat (first | simp only [List.length_append] | simp only [List.length_map] | simp only [List.length_set] | simp only [List.length_replicate] | simp only [List.length_cons] | simp only [List.length_nil])); first | done | omega)); (first | rfl | (repeat' first | apply all_nV | apply all_bV | apply all_iV | rfl | apply all_app))) | ((with_reducible apply T.alloc); apply rfl; intro nb) | with_reducible refine Sr.nil ?_ | with_reducible refine S.seq ?_ | with_reducible refine S.block ?_ | with_reducible refine S.reg ?_ | with_reducible refine S.skip ?_ | ((with_reducible apply T.ung); apply rfl) | ((with_reducible apply S.condT); apply rfl) | ((with_reducible apply S.condQ); apply rfl; all_goals (intro _; try (exfalso; omega))) | ((with_reducible apply T.gcase); apply rfl; apply rfl; all_goals (intro _; try (exfalso; omega))) | fail)
        have hcp : tokO out (ch, n, d) = copyL d n out := by unfold tokO; rw [if_neg (by simp only; omega)]
        rw [hcp] at s1 s2 s3
        refine S.frontR oa ?_
        refine S.loopE 1 [0, 5, 6, 7] (fun R b' μ H' e => ∃ (k : Nat) (o2 : List UInt8) (oa2 : Option Addr) (oc2 : Nat), H' = rw_ oa2 oc2 o2 :: R ∧ e = (4, .slice oa2 o2.length oc2) :: (8, .int .i64 k) :: b' ∧ (k ≤ n ∧ copyL d (n - k) o2 = copyL d n out ∧ o2.length = out.length + k) ∧ μ = n - k) rfl rfl ?_ _ _ ⟨0, out, oa, oc, rfl, rfl, ⟨by omega, rfl, rfl⟩, rfl⟩ (by repeat' first | exact trivial | refine And.intro rfl ?_)
        rintro _ _ _ ⟨k, o2, oa2, oc2, rfl, rfl, ⟨k1, k2, k3⟩, rfl⟩ ih'
        have e1 : (o2.length : Int) - (d : Int) = ((o2.length - d : Nat) : Int) := by omega
        repeat' (first | ((with_reducible apply T.subI); apply rfl; apply rfl; omega; apply rfl; rw [e1]) | (refine T.appendF (g := tkV) (ch, n, d) rfl rfl rfl inferInstance (fun _ => rfl) rfl rfl rfl (by constructor <;> omega) rfl ?_; intro na nc) | ((with_reducible apply T.mv); apply rfl; apply rfl) | ((with_reducible apply T.asn); apply rfl; apply rfl) | ((with_reducible apply T.len); apply rfl; apply rfl) | ((with_reducible apply T.fieldAddrZ); apply rfl; apply rfl) | ((with_reducible apply T.load); apply rfl; apply rfl; infer_instance; apply rfl; apply rfl) | ((with_reducible apply T.lss); apply rfl; apply rfl; apply rfl) | ((with_reducible apply T.addI); apply rfl; apply rfl; omega; apply rfl) | ((with_reducible apply T.ixN); apply rfl; apply rfl; infer_instance; omega; (first | omega | (simp only [List.length_map]; omega) | (simp; omega)); apply rfl) | ((with_reducible apply T.loadB); apply rfl; infer_instance; omega; apply rfl) | ((with_reducible apply T.loadW); apply rfl; apply rfl; infer_instance; (first | rfl | ((first | simp only [List.length_append] | simp only [List.length_map] | simp only [List.length_set] | simp only [List.length_replicate] | simp only [List.length_cons] | simp only [List.length_nil]); (repeat (first | simp only [List.length_append] | simp only [List.length_map] | simp only [List.length_set] | simp only [List.length_replicate] | simp only [List.length_cons] | simp only [List.length_nil])); first | done | omega)); apply rfl) | ((with_reducible apply T.bs); apply rfl; apply rfl; apply rfl; apply rfl; apply rfl; apply rfl; intro nb) | ((with_reducible apply T.bsL); apply rfl; apply rfl; apply rfl; apply rfl; apply rfl; intro nb) | ((with_reducible apply T.appendB); apply rfl; apply rfl; infer_instance; apply rfl; (constructor <;> omega); apply rfl; intro na nc) | with_reducible refine Sr.nil ?_ | with_reducible refine S.seq ?_ | with_reducible refine S.block ?_ | with_reducible refine S.reg ?_ | with_reducible refine S.skip ?_ | with_reducible refine S.inBlock ?_ | ((with_reducible apply S.exit); apply rfl) | ((with_reducible apply S.condQ); apply rfl; all_goals (intro _; try (exfalso; omega))) | fail)
        · have e2 : n - k = (n - (k + 1)) + 1 := by omega
          have eo : o2.length + 1 = (o2 ++ [o2.getD (o2.length - d) 0]).length := by simp
          rw [e2, copyL] at k2
          rw [eo]
          exact ih' _ _ _ _ ⟨k + 1, _, _, _, rfl, rfl, ⟨by omega, k2, by simp; omega⟩, rfl⟩ (by omega) (by repeat' first | exact trivial | refine And.intro rfl ?_)
        · have e2 : n - k = 0 := by omega
          rw [e2, copyL] at k2
          rw [← k2] at s1 s2 s3
          have ec : cs.length + 1 = (cs ++ [((ch, n, d) : Tk)]).length := by simp
          rw [ec]
          exact S.sublist (ih _ _ _ _ ⟨i + 1, o2, cs ++ [(ch, n, d)], _, _, _, _, rfl, rfl, ⟨by omega, s3, s2, s1, by simp; omega⟩, rfl⟩ (by omega) (by repeat' first | exact trivial | refine And.intro rfl ?_)) (by ((repeat (first | dsimp only [List.set_cons_zero] | dsimp only [List.set_cons_succ])); repeat' first | exact PSub.refl _ | exact PSub.nil | ((with_reducible apply PSub.take); (repeat' first | (with_reducible exact pick_hd) | (with_reducible apply pick_tl))) | (with_reducible apply PSub.drop) | ((apply PSub.take); (repeat' first | exact pick_hd | (apply pick_tl)))))
    · have hdec : decide ((out.length : Int) < 65536) = false := decide_eq_false (by omega)
      have hX2 := hend (.inr h2)
      subst hX2
      rw [← hou]
      repeat' (first | ((with_reducible apply T.lss (n := 65536)); apply rfl; apply rfl; apply rfl; rw [hdec]) | ((with_reducible apply T.mv); apply rfl; apply rfl) | ((with_reducible apply T.asn); apply rfl; apply rfl) | ((with_reducible apply T.len); apply rfl; apply rfl) | ((with_reducible apply T.lss); apply rfl; apply rfl; apply rfl) | ((with_reducible apply T.pickT); apply rfl; apply rfl; apply rfl) | with_reducible refine Sr.nil ?_ | with_reducible refine S.seq ?_ | with_reducible refine S.reg ?_ | ((with_reducible apply S.exit); apply rfl) | ((with_reducible apply T.ung); apply rfl) | ((with_reducible apply S.condF); apply rfl) | ((with_reducible apply T.retW); apply rfl) | ((with_reducible apply T.gcase); apply rfl; apply rfl; all_goals (intro _; try (exfalso; omega))) | fail)
      exact ⟨_, PSub.refl _, oa, oc, aa, ac, rfl, rfl⟩
  · have hX2 := hend (.inl h1)
    subst hX2
    rw [← hou]
    repeat' (first | ((with_reducible apply T.mv); apply rfl; apply rfl) | ((with_reducible apply T.asn); apply rfl; apply rfl) | ((with_reducible apply T.len); apply rfl; apply rfl) | ((with_reducible apply T.lss); apply rfl; apply rfl; apply rfl) | ((with_reducible apply T.pickF); apply rfl; apply rfl; apply rfl) | with_reducible refine Sr.nil ?_ | with_reducible refine S.seq ?_ | with_reducible refine S.reg ?_ | ((with_reducible apply S.exit); apply rfl) | ((with_reducible apply T.skip); apply rfl; apply rfl; apply rfl) | ((with_reducible apply S.condF); apply rfl) | ((with_reducible apply T.retW); apply rfl) | ((with_reducible apply T.gcase); apply rfl; apply rfl; all_goals (intro _; try (exfalso; omega))) | fail)
    exact ⟨_, PSub.refl _, oa, oc, aa, ac, rfl, rfl⟩
end Go.Proofs.YtjhpbljkpbdnnaaDoor
