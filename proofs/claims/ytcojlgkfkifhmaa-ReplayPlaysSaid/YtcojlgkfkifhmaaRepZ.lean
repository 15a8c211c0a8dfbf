/- The walks of the statements' own helpers: marked, whole. -/
import Derived.Test.YtcojlgkfkifhmaaRepY
/- maps -/
namespace Go.Proofs.Ytcojlgkfkifhmaa
open Sg Go.IntWalk
set_option maxRecDepth 100000
set_option maxHeartbeats 2000000
def marksL (k : Nat) : List UInt8 := (List.range k).map fun i => UInt8.ofNat (100 + i)
theorem marksL_succ (k : Nat) : marksL (k + 1) = marksL k ++ [UInt8.ofNat (100 + k)] := by simp [marksL, List.range_succ]
theorem marksL_len (k : Nat) : (marksL k).length = k := by simp [marksL]
theorem marksL_get {k i : Nat} (h : i < k) : (marksL k).getD i 0 = UInt8.ofNat (100 + i) := by simp [marksL, h]
theorem marked_spec {F : World} {M : List Nat} {H : List Res} {c : Nat} {b : Option Addr} {bs : List UInt8} [hR : Rd F M H b (bs.map bV)] (hb : bs.length ≤ 140737488355000) :
    Meets Try.prog 15 [.slice b bs.length c] F M H (fun e H' => ∃ ma mc, e = .returned (.slice ma bs.length mc) ∧ bs.length + 60 ≤ mc ∧ H' = .row ma mc 5 1 (bs.length + 60) ((bs ++ marksL 60).map bV) :: H) := by
  refine Meets.enter Try.func15 rfl rfl ?_
  refine S.nilrow 5 1 ?_
  repeat' (first | ((with_reducible apply T.asn); apply rfl; apply rfl) | with_reducible refine Sr.nil ?_ | with_reducible refine S.seq ?_ | with_reducible refine S.block ?_ | with_reducible refine S.reg ?_ | fail)
  refine S.loopE 1 [0] (fun R b' μ H' e => ∃ (i : Nat) (la : Option Addr) (lc : Nat), H' = .row la lc 5 1 i ((bs.take i).map bV) :: R ∧ e = (3, .slice la i lc) :: (4, .int .i64 i) :: b' ∧ i ≤ bs.length ∧ μ = bs.length - i) rfl rfl ?_ _ _ ⟨0, none, 0, rfl, rfl, by omega, rfl⟩ (by repeat' first | exact trivial | refine And.intro rfl ?_)
  rintro _ _ _ ⟨i, la, lc, rfl, rfl, hi, rfl⟩ ih
  have htl : (bs.take i).length = i := by rw [List.length_take]; omega
  repeat' (first | ((with_reducible apply T.mv); apply rfl; apply rfl) | ((with_reducible apply T.asn); apply rfl; apply rfl) | ((with_reducible apply T.len); apply rfl; apply rfl) | ((with_reducible apply T.lss); apply rfl; apply rfl; apply rfl) | ((with_reducible apply T.addI); apply rfl; apply rfl; omega; apply rfl) | ((with_reducible apply T.ixN); apply rfl; apply rfl; infer_instance; omega; (first | omega | (simp only [List.length_map]; omega) | (simp; omega)); apply rfl) | ((with_reducible apply T.loadB); apply rfl; infer_instance; omega; apply rfl) | ((with_reducible apply T.bs); apply rfl; apply rfl; apply rfl; apply rfl; apply rfl; apply rfl; intro nb) | ((with_reducible apply T.appendB); apply rfl; apply rfl; infer_instance; apply rfl; (constructor <;> omega); apply rfl; intro na nc) | with_reducible refine Sr.nil ?_ | with_reducible refine S.seq ?_ | with_reducible refine S.block ?_ | with_reducible refine S.reg ?_ | with_reducible refine S.skip ?_ | with_reducible refine S.inBlock ?_ | ((with_reducible apply S.exit); apply rfl) | ((with_reducible apply S.condQ); apply rfl; all_goals (intro _; try (exfalso; omega))) | fail)
  · refine ih _ _ _ _ ⟨i + 1, na, nc, ?_, rfl, by omega, rfl⟩ (by omega) (by repeat' first | exact trivial | refine And.intro rfl ?_)
    rw [List.take_succ_eq_append_getElem (by omega)]
    simp [List.getD, show i < bs.length by omega]
  · have hib : i = bs.length := by omega
    subst hib
    rw [List.take_length]
    refine S.loopE 1 [0] (fun R b' μ H' e => ∃ (k : Nat) (la : Option Addr) (lc : Nat), H' = .row la lc 5 1 (bs.length + k) ((bs ++ marksL k).map bV) :: R ∧ e = (3, .slice la (bs.length + k) lc) :: (5, .int .i64 k) :: b' ∧ k ≤ 60 ∧ μ = 60 - k) rfl rfl ?_ _ _ ⟨0, la, lc, by simp [marksL], rfl, by omega, rfl⟩ (by repeat' first | exact trivial | refine And.intro rfl ?_)
    clear ih
    rintro _ _ _ ⟨k, la, lc, rfl, rfl, hk, rfl⟩ ih
    have e1 : (100 : Int) + (k : Int) = ((UInt8.ofNat (100 + k)).toNat : Int) ∨ 60 ≤ k := by
      by_cases h : 60 ≤ k
      · exact .inr h
      · left; simp; omega
    have hml := marksL_len k
    refine S.capR (ad := la) inferInstance fun hcap => ?_
    repeat' (first | ((with_reducible apply T.convU8); apply rfl; omega; apply rfl; rw [e1.resolve_right (by omega)]) | ((with_reducible apply T.mv); apply rfl; apply rfl) | ((with_reducible apply T.asn); apply rfl; apply rfl) | ((with_reducible apply T.len); apply rfl; apply rfl) | ((with_reducible apply T.lss); apply rfl; apply rfl; apply rfl) | ((with_reducible apply T.addI); apply rfl; apply rfl; omega; apply rfl) | ((with_reducible apply T.sliceHK); apply rfl; apply rfl; omega; apply rfl) | ((with_reducible apply T.bs); apply rfl; apply rfl; apply rfl; apply rfl; apply rfl; apply rfl; intro nb) | ((with_reducible apply T.appendB); apply rfl; apply rfl; infer_instance; apply rfl; (constructor <;> omega); apply rfl; intro na nc) | with_reducible refine Sr.nil ?_ | with_reducible refine S.seq ?_ | with_reducible refine S.block ?_ | with_reducible refine S.reg ?_ | with_reducible refine S.skip ?_ | with_reducible refine S.inBlock ?_ | ((with_reducible apply S.exit); apply rfl) | ((with_reducible apply T.retW); apply rfl) | ((with_reducible apply S.condQ); apply rfl; all_goals (intro _; try (exfalso; omega))) | fail)
    · refine ih _ _ _ _ ⟨k + 1, na, nc, ?_, rfl, by omega, rfl⟩ (by omega) (by repeat' first | exact trivial | refine And.intro rfl ?_)
      rw [marksL_succ, ← List.append_assoc]
      rfl
    · have h60 : k = 60 := by omega
      subst h60
      exact ⟨_, by ((repeat (first | dsimp only [List.set_cons_zero] | dsimp only [List.set_cons_succ])); repeat' first | exact PSub.refl _ | exact PSub.nil | ((with_reducible apply PSub.take); (repeat' first | (with_reducible exact pick_hd) | (with_reducible apply pick_tl))) | (with_reducible apply PSub.drop) | ((apply PSub.take); (repeat' first | exact pick_hd | (apply pick_tl)))), la, lc, rfl, hcap, rfl⟩
theorem whole_spec {F : World} {M : List Nat} {H : List Res} {c mc : Nat} {b ma : Option Addr} {bs : List UInt8} (hM : Rd F M H ma ((bs ++ marksL 60).map bV)) (hR : Rd F M H b (bs.map bV)) (hb : bs.length ≤ 140737488355000) (hcap : bs.length + 60 ≤ mc) :
    Meets Try.prog 18 [.slice ma bs.length mc, .slice b bs.length c] F M H (fun e H' => e = .returned (.bool true) ∧ H' = H) := by
  refine Meets.enter Try.func18 rfl rfl ?_
  have e60 : (bs.length : Int) + 60 = ((bs.length + 60 : Nat) : Int) := by omega
  have hml := marksL_len 60
  have hbl : (bs ++ marksL 60).length = bs.length + 60 := by rw [List.length_append, hml]
  repeat' (first | ((with_reducible apply T.addI); apply rfl; apply rfl; omega; apply rfl; rw [e60]) | ((with_reducible apply T.mv); apply rfl; apply rfl) | ((with_reducible apply T.asn); apply rfl; apply rfl) | ((with_reducible apply T.len); apply rfl; apply rfl) | ((with_reducible apply T.sliceHK); apply rfl; apply rfl; omega; apply rfl) | with_reducible refine Sr.nil ?_ | with_reducible refine S.seq ?_ | with_reducible refine S.block ?_ | with_reducible refine S.reg ?_ | fail)
  refine S.loopE 0 [0, 1, 5] (fun R b' μ H' e => ∃ k : Nat, H' = R ∧ e = (6, .int .i64 k) :: b' ∧ k ≤ 60 ∧ μ = 60 - k) rfl rfl ?_ _ _ ⟨0, rfl, rfl, by omega, rfl⟩ (by repeat' first | exact trivial | refine And.intro rfl ?_)
  rintro _ _ _ ⟨k, rfl, rfl, hk, rfl⟩ ih
  have e2 : (bs.length : Int) + (k : Int) = ((bs.length + k : Nat) : Int) := by omega
  have hg : (bs ++ marksL 60).getD (bs.length + k) 0 = (marksL 60).getD k 0 := by
    rw [List.getD_eq_getElem?_getD, List.getElem?_append_right (by omega), Nat.add_sub_cancel_left, ← List.getD_eq_getElem?_getD]
  repeat' (first | ((with_reducible apply T.addI (n := (k : Int)) (m := (bs.length : Int))); apply rfl; apply rfl; omega; apply rfl; rw [e2]) | ((with_reducible apply T.mv); apply rfl; apply rfl) | ((with_reducible apply T.asn); apply rfl; apply rfl) | ((with_reducible apply T.len); apply rfl; apply rfl) | ((with_reducible apply T.lss); apply rfl; apply rfl; apply rfl) | ((with_reducible apply T.neq); apply rfl; apply rfl; apply rfl) | ((with_reducible apply T.addI); apply rfl; apply rfl; omega; apply rfl) | ((with_reducible apply T.ixN); apply rfl; apply rfl; infer_instance; omega; (first | omega | (simp only [List.length_map]; omega) | (simp; omega)); apply rfl) | ((with_reducible apply T.loadB); apply rfl; infer_instance; omega; apply rfl) | ((with_reducible apply T.convU8); apply rfl; omega; apply rfl) | with_reducible refine Sr.nil ?_ | with_reducible refine S.seq ?_ | with_reducible refine S.block ?_ | with_reducible refine S.reg ?_ | with_reducible refine S.skip ?_ | with_reducible refine S.inBlock ?_ | ((with_reducible apply S.exit); apply rfl) | ((with_reducible apply T.retW); apply rfl) | ((with_reducible apply S.condQ); apply rfl; all_goals (intro _; try (exfalso; omega))) | fail)
  · rename_i h60 hne
    exfalso
    rw [hg, marksL_get (by omega)] at hne
    simp at hne
    omega
  · exact ih _ _ _ _ ⟨k + 1, rfl, rfl, by omega, rfl⟩ (by omega) (by repeat' first | exact trivial | refine And.intro rfl ?_)
  · refine T.call rfl rfl (same_eq hM.left hR (by omega)) ?_
    rintro _ _ ⟨rfl, rfl⟩
    repeat' (first | ((with_reducible apply T.asn); apply rfl; apply rfl) | with_reducible refine Sr.nil ?_ | ((with_reducible apply T.retW); apply rfl) | (with_reducible apply T.ofRet) | fail)
    exact ⟨_, .refl _, rfl, rfl⟩
end Go.Proofs.Ytcojlgkfkifhmaa
