/- The walks of the document's small functions: kinds of lengths, lengths and distances, fixed lengths. -/
import Derived.Test.YtjhpbljkpbdnnaaDoorInfU
namespace Go.Proofs.YtjhpbljkpbdnnaaDoor
open Sg Go.IntWalk Infl
set_option maxRecDepth 100000
theorem bitsOf_spec {F : World} {M : List Nat} {H : List Res} {k : Nat} (hk : k ≤ 1000) : Meets Tryd.prog 73 [.int .i64 k] F M H (fun e H' => e = .returned (.int .i64 (boR k)) ∧ H' = H) := by
  refine Meets.enter Tryd.func73 rfl rfl ?_
  have hq : 265 ≤ k → ((k : Int) - 261).tdiv 4 = (((k - 261) / 4 : Nat) : Int) := fun h => by rw [Int.tdiv_eq_ediv_of_nonneg (by omega)]; omega
  repeat' (first | ((with_reducible apply T.quo (r := (((k - 261) / 4 : Nat) : Int))); apply rfl; apply rfl; omega; (rw [hq (by omega)]; exact i64_in _ (by omega)); apply rfl) | ((with_reducible apply T.mv); apply rfl; apply rfl) | ((with_reducible apply T.asn); apply rfl; apply rfl) | ((with_reducible apply T.lss); apply rfl; apply rfl; apply rfl) | ((with_reducible apply T.subI); apply rfl; apply rfl; omega; apply rfl) | with_reducible refine Sr.nil ?_ | with_reducible refine S.seq ?_ | with_reducible refine S.reg ?_ | with_reducible refine S.skip ?_ | ((with_reducible apply T.retW); apply rfl) | ((with_reducible apply S.condQ); apply rfl; all_goals (intro _; try (exfalso; omega))) | fail)
  · refine ⟨_, .refl _, ?_, rfl⟩
    rw [boR, if_pos (by omega)]
    rfl
  · refine ⟨_, .refl _, ?_, rfl⟩
    rw [boR, if_neg (by omega)]
theorem far_spec {F : World} {M : List Nat} {H : List Res} {k : Nat} (hk : k ≤ 1000) : Meets Tryd.prog 74 [.int .i64 k] F M H (fun e H' => e = .returned (.int .i64 (faR k)) ∧ H' = H) := by
  refine Meets.enter Tryd.func74 rfl rfl ?_
  have hq : 4 ≤ k → ((k : Int) - 2).tdiv 2 = (((k - 2) / 2 : Nat) : Int) := fun h => by rw [Int.tdiv_eq_ediv_of_nonneg (by omega)]; omega
  repeat' (first | ((with_reducible apply T.quo (r := (((k - 2) / 2 : Nat) : Int))); apply rfl; apply rfl; omega; (rw [hq (by omega)]; exact i64_in _ (by omega)); apply rfl) | ((with_reducible apply T.mv); apply rfl; apply rfl) | ((with_reducible apply T.asn); apply rfl; apply rfl) | ((with_reducible apply T.lss); apply rfl; apply rfl; apply rfl) | ((with_reducible apply T.subI); apply rfl; apply rfl; omega; apply rfl) | with_reducible refine Sr.nil ?_ | with_reducible refine S.seq ?_ | with_reducible refine S.reg ?_ | with_reducible refine S.skip ?_ | ((with_reducible apply T.retW); apply rfl) | ((with_reducible apply S.condQ); apply rfl; all_goals (intro _; try (exfalso; omega))) | fail)
  · refine ⟨_, .refl _, ?_, rfl⟩
    rw [faR, if_pos (by omega)]
    rfl
  · refine ⟨_, .refl _, ?_, rfl⟩
    rw [faR, if_neg (by omega)]
theorem boR_le {k : Nat} (h : k ≤ 285) : boR k ≤ 6 := by unfold boR; split <;> omega
theorem faR_le {k : Nat} (h : k ≤ 30) : faR k ≤ 14 := by unfold faR; split <;> omega
theorem lengthOfR_spec {F : World} {M : List Nat} {H : List Res} {s : Nat} (h1 : 257 ≤ s) (h2 : s ≤ 285) : Meets Tryd.prog 68 [.int .i64 s] F M H
    (fun e H' => e = .returned (.tuple ⟨[.int .i64 (if s = 285 then 258 else lenB (s - 257) : Nat), .int .i64 (if s = 285 then 0 else boR s : Nat)]⟩) ∧ H' = H) := by
  refine Meets.enter Tryd.func68 rfl rfl ?_
  by_cases h285 : s = 285
  · subst h285
    repeat' (first | ((with_reducible apply T.mv); apply rfl; apply rfl) | ((with_reducible apply T.asn); apply rfl; apply rfl) | ((with_reducible apply T.eql); apply rfl; apply rfl; apply rfl) | with_reducible refine Sr.nil ?_ | with_reducible refine S.seq ?_ | with_reducible refine S.reg ?_ | ((with_reducible apply S.condT); apply rfl) | ((with_reducible apply T.retW); apply rfl) | fail)
    exact ⟨_, .refl _, rfl, rfl⟩
  repeat' (first | ((with_reducible apply T.mv); apply rfl; apply rfl) | ((with_reducible apply T.asn); apply rfl; apply rfl) | ((with_reducible apply T.eql); apply rfl; apply rfl; apply rfl) | with_reducible refine Sr.nil ?_ | with_reducible refine S.seq ?_ | with_reducible refine S.block ?_ | with_reducible refine S.reg ?_ | with_reducible refine S.skip ?_ | ((with_reducible apply S.condQ); apply rfl; all_goals (intro _; try (exfalso; omega))) | fail)
  refine S.loopE 0 [0] (fun R b' μ H' e => ∃ k : Nat, H' = R ∧ e = (4, .int .i64 (lenB (k - 257))) :: (5, .int .i64 k) :: b' ∧ (257 ≤ k ∧ k ≤ s) ∧ μ = s - k) rfl rfl ?_ _ _ ⟨257, rfl, rfl, ⟨by omega, h1⟩, rfl⟩ (by repeat' first | exact trivial | refine And.intro rfl ?_)
  rintro _ _ _ ⟨k, rfl, rfl, ⟨g1, g2⟩, rfl⟩ ih
  have hbo := boR_le (k := k) (by omega)
  have hlb := lenB_le (k - 257) (by omega)
  repeat' (first | ((with_reducible apply T.mv); apply rfl; apply rfl) | ((with_reducible apply T.asn); apply rfl; apply rfl) | ((with_reducible apply T.lss); apply rfl; apply rfl; apply rfl) | with_reducible refine Sr.nil ?_ | with_reducible refine S.seq ?_ | with_reducible refine S.block ?_ | with_reducible refine S.reg ?_ | with_reducible refine S.skip ?_ | ((with_reducible apply S.exit); apply rfl) | ((with_reducible apply S.condQ); apply rfl; all_goals (intro _; try (exfalso; omega))) | fail)
  · rename_i hk
    refine S.loopE 0 [0, 4, 5] (fun R b' μ H' e => ∃ i : Nat, H' = R ∧ e = (6, .int .i64 (2 ^ i : Nat)) :: (7, .int .i64 i) :: b' ∧ i ≤ boR k ∧ μ = boR k - i) rfl rfl ?_ _ _ ⟨0, rfl, rfl, by omega, rfl⟩ (by repeat' first | exact trivial | refine And.intro rfl ?_)
    rintro _ _ _ ⟨i, rfl, rfl, g3, rfl⟩ ih'
    have hpw : (2 : Nat) ^ i ≤ 64 := Nat.pow_le_pow_right (n := 2) (by omega) (show i ≤ 6 by omega)
    have hd : (2 : Int) * ((2 ^ i : Nat) : Int) = ((2 ^ (i + 1) : Nat) : Int) := by rw [Nat.pow_succ, Nat.mul_comm]; push_cast; rfl
    generalize hpi : 2 ^ i = pi at *
    repeat' (first | (refine T.call rfl rfl (bitsOf_spec (by omega)) ?_; rintro _ _ ⟨rfl, rfl⟩) | ((with_reducible apply T.mulI); apply rfl; apply rfl; omega; apply rfl; rw [hd]) | ((with_reducible apply T.mv); apply rfl; apply rfl) | ((with_reducible apply T.asn); apply rfl; apply rfl) | ((with_reducible apply T.lss); apply rfl; apply rfl; apply rfl) | ((with_reducible apply T.addI); apply rfl; apply rfl; omega; apply rfl) | with_reducible refine Sr.nil ?_ | with_reducible refine S.seq ?_ | with_reducible refine S.block ?_ | with_reducible refine S.reg ?_ | with_reducible refine S.skip ?_ | with_reducible refine S.inBlock ?_ | ((with_reducible apply S.exit); apply rfl) | (with_reducible apply T.ofRet) | ((with_reducible apply S.condQ); apply rfl; all_goals (intro _; try (exfalso; omega))) | fail)
    · exact ih' _ _ _ _ ⟨i + 1, rfl, rfl, by omega, rfl⟩ (by omega) (by repeat' first | exact trivial | refine And.intro rfl ?_)
    · have hi : i = boR k := by omega
      subst hi
      refine ih _ _ _ _ ⟨k + 1, rfl, rfl, ⟨by omega, by omega⟩, rfl⟩ (by omega) ?_
      have e1 : lenB (k + 1 - 257) = lenB (k - 257) + pi := by
        rw [show k + 1 - 257 = (k - 257) + 1 by omega, lenB, show 257 + (k - 257) = k by omega, hpi]
      rw [e1]
      exact (by repeat' first | exact trivial | refine And.intro rfl ?_)
  · have hks : k = s := by omega
    subst hks
    repeat' (first | (refine T.call rfl rfl (bitsOf_spec (by omega)) ?_; rintro _ _ ⟨rfl, rfl⟩) | ((with_reducible apply T.asn); apply rfl; apply rfl) | with_reducible refine Sr.nil ?_ | ((with_reducible apply T.retW); apply rfl) | (with_reducible apply T.ofRet) | fail)
    exact ⟨_, .refl _, by rw [if_neg h285, if_neg h285], rfl⟩
theorem distanceOfR_spec {F : World} {M : List Nat} {H : List Res} {s : Nat} (h2 : s ≤ 29) : Meets Tryd.prog 69 [.int .i64 s] F M H
    (fun e H' => e = .returned (.tuple ⟨[.int .i64 (disB s), .int .i64 (faR s)]⟩) ∧ H' = H) := by
  refine Meets.enter Tryd.func69 rfl rfl ?_
  repeat' (first | ((with_reducible apply T.asn); apply rfl; apply rfl) | with_reducible refine Sr.nil ?_ | with_reducible refine S.seq ?_ | with_reducible refine S.block ?_ | with_reducible refine S.reg ?_ | fail)
  refine S.loopE 0 [0] (fun R b' μ H' e => ∃ k : Nat, H' = R ∧ e = (4, .int .i64 (disB k)) :: (5, .int .i64 k) :: b' ∧ k ≤ s ∧ μ = s - k) rfl rfl ?_ _ _ ⟨0, rfl, rfl, by omega, rfl⟩ (by repeat' first | exact trivial | refine And.intro rfl ?_)
  rintro _ _ _ ⟨k, rfl, rfl, g2, rfl⟩ ih
  have hbo := faR_le (k := k) (by omega)
  have hlb := disB_le k (by omega)
  repeat' (first | ((with_reducible apply T.mv); apply rfl; apply rfl) | ((with_reducible apply T.asn); apply rfl; apply rfl) | ((with_reducible apply T.lss); apply rfl; apply rfl; apply rfl) | with_reducible refine Sr.nil ?_ | with_reducible refine S.seq ?_ | with_reducible refine S.block ?_ | with_reducible refine S.reg ?_ | with_reducible refine S.skip ?_ | ((with_reducible apply S.exit); apply rfl) | ((with_reducible apply S.condQ); apply rfl; all_goals (intro _; try (exfalso; omega))) | fail)
  · rename_i hk
    refine S.loopE 0 [0, 4, 5] (fun R b' μ H' e => ∃ i : Nat, H' = R ∧ e = (6, .int .i64 (2 ^ i : Nat)) :: (7, .int .i64 i) :: b' ∧ i ≤ faR k ∧ μ = faR k - i) rfl rfl ?_ _ _ ⟨0, rfl, rfl, by omega, rfl⟩ (by repeat' first | exact trivial | refine And.intro rfl ?_)
    rintro _ _ _ ⟨i, rfl, rfl, g3, rfl⟩ ih'
    have hpw : (2 : Nat) ^ i ≤ 16384 := Nat.pow_le_pow_right (n := 2) (by omega) (show i ≤ 14 by omega)
    have hd : (2 : Int) * ((2 ^ i : Nat) : Int) = ((2 ^ (i + 1) : Nat) : Int) := by rw [Nat.pow_succ, Nat.mul_comm]; push_cast; rfl
    generalize hpi : 2 ^ i = pi at *
    repeat' (first | (refine T.call rfl rfl (far_spec (by omega)) ?_; rintro _ _ ⟨rfl, rfl⟩) | ((with_reducible apply T.mulI); apply rfl; apply rfl; omega; apply rfl; rw [hd]) | ((with_reducible apply T.mv); apply rfl; apply rfl) | ((with_reducible apply T.asn); apply rfl; apply rfl) | ((with_reducible apply T.lss); apply rfl; apply rfl; apply rfl) | ((with_reducible apply T.addI); apply rfl; apply rfl; omega; apply rfl) | with_reducible refine Sr.nil ?_ | with_reducible refine S.seq ?_ | with_reducible refine S.block ?_ | with_reducible refine S.reg ?_ | with_reducible refine S.skip ?_ | with_reducible refine S.inBlock ?_ | ((with_reducible apply S.exit); apply rfl) | (with_reducible apply T.ofRet) | ((with_reducible apply S.condQ); apply rfl; all_goals (intro _; try (exfalso; omega))) | fail)
    · exact ih' _ _ _ _ ⟨i + 1, rfl, rfl, by omega, rfl⟩ (by omega) (by repeat' first | exact trivial | refine And.intro rfl ?_)
    · have hi : i = faR k := by omega
      subst hi
      refine ih _ _ _ _ ⟨k + 1, rfl, rfl, by omega, rfl⟩ (by omega) ?_
      rw [disB, hpi]
      exact (by repeat' first | exact trivial | refine And.intro rfl ?_)
  · have hks : k = s := by omega
    subst hks
    repeat' (first | (refine T.call rfl rfl (far_spec (by omega)) ?_; rintro _ _ ⟨rfl, rfl⟩) | ((with_reducible apply T.asn); apply rfl; apply rfl) | with_reducible refine Sr.nil ?_ | ((with_reducible apply T.retW); apply rfl) | (with_reducible apply T.ofRet) | fail)
    exact ⟨_, .refl _, rfl, rfl⟩
theorem fullR_spec {F : World} {M : List Nat} {H : List Res} {n lc : Nat} {la : Option Addr} {ls : List Nat} [Rd F M H la (ls.map nV)] (hn : ls.length = n) (hlen : n ≤ 100000) :
    Meets Tryd.prog 60 [.slice la n lc] F M H (fun e H' => e = .returned (.bool (decide (kraft ls = 32768))) ∧ H' = H) := by
  subst hn
  refine Meets.enter Tryd.func60 rfl rfl ?_
  repeat' (first | ((with_reducible apply T.asn); apply rfl; apply rfl) | with_reducible refine Sr.nil ?_ | with_reducible refine S.seq ?_ | with_reducible refine S.block ?_ | with_reducible refine S.reg ?_ | fail)
  refine S.loopE 0 [0] (fun R b' μ H' e => ∃ i : Nat, H' = R ∧ e = (3, .int .i64 (kraft (ls.take i))) :: (4, .int .i64 i) :: b' ∧ i ≤ ls.length ∧ μ = ls.length - i) rfl rfl ?_ _ _ ⟨0, rfl, rfl, by omega, rfl⟩ (by repeat' first | exact trivial | refine And.intro rfl ?_)
  rintro _ _ _ ⟨i, rfl, rfl, hi, rfl⟩ ih
  have hkr := kraft_le (ls.take i)
  have htl : (ls.take i).length ≤ 100000 := by simp; omega
  have hnx : i < ls.length → kraft (ls.take (i + 1)) = kraft (ls.take i) + kraftT (ls.getD i 0) := fun h => by rw [take_snoc h, kraft_snoc]
  generalize hl : ls.getD i 0 = l at *
  repeat' (first | ((with_reducible apply T.mv); apply rfl; apply rfl) | ((with_reducible apply T.asn); apply rfl; apply rfl) | ((with_reducible apply T.len); apply rfl; apply rfl) | ((with_reducible apply T.lss); apply rfl; apply rfl; apply rfl) | ((with_reducible apply T.gtr); apply rfl; apply rfl; apply rfl) | ((with_reducible apply T.eql); apply rfl; apply rfl; apply rfl) | ((with_reducible apply T.addI); apply rfl; apply rfl; omega; apply rfl) | ((with_reducible apply T.ixN); apply rfl; apply rfl; infer_instance; omega; (first | omega | (simp; omega)); apply rfl) | ((with_reducible apply T.loadNat); apply rfl; infer_instance; (first | omega | (simp; omega)); apply rfl) | with_reducible refine Sr.nil ?_ | with_reducible refine S.seq ?_ | with_reducible refine S.block ?_ | with_reducible refine S.reg ?_ | with_reducible refine S.skip ?_ | with_reducible refine S.inBlock ?_ | ((with_reducible apply S.exit); apply rfl) | ((with_reducible apply T.retW); apply rfl) | ((with_reducible apply S.condQ); apply rfl; all_goals (intro _; try (exfalso; omega))) | fail)
  · refine S.loopE 0 [0, 3, 4] (fun R b' μ H' e => ∃ k : Nat, H' = R ∧ e = (5, .int .i64 (2 ^ (k - l) : Nat)) :: (6, .int .i64 k) :: b' ∧ (l ≤ k ∧ (l ≤ 15 → k ≤ 15) ∧ (15 < l → k = l)) ∧ μ = 15 - k) rfl rfl ?_ _ _ ⟨l, rfl, rfl, ⟨by omega, fun h => h, fun _ => rfl⟩, rfl⟩ (by rw [Nat.sub_self, hl]; exact (by repeat' first | exact trivial | refine And.intro rfl ?_))
    rintro _ _ _ ⟨k, rfl, rfl, ⟨g1, g2, g3⟩, rfl⟩ ih'
    have hpw : (2 : Nat) ^ (k - l) ≤ 32768 := Nat.pow_le_pow_right (n := 2) (by omega) (show k - l ≤ 15 by omega)
    have hd : (2 : Int) * ((2 ^ (k - l) : Nat) : Int) = ((2 ^ (k + 1 - l) : Nat) : Int) := by rw [show k + 1 - l = (k - l) + 1 by omega, Nat.pow_succ, Nat.mul_comm]; push_cast; rfl
    generalize hpi : 2 ^ (k - l) = pi at *
    repeat' (first | ((with_reducible apply T.mulI); apply rfl; apply rfl; omega; apply rfl; rw [hd]) | ((with_reducible apply T.mv); apply rfl; apply rfl) | ((with_reducible apply T.asn); apply rfl; apply rfl) | ((with_reducible apply T.lss); apply rfl; apply rfl; apply rfl) | ((with_reducible apply T.addI); apply rfl; apply rfl; omega; apply rfl) | with_reducible refine Sr.nil ?_ | with_reducible refine S.seq ?_ | with_reducible refine S.block ?_ | with_reducible refine S.reg ?_ | with_reducible refine S.skip ?_ | with_reducible refine S.inBlock ?_ | ((with_reducible apply S.exit); apply rfl) | ((with_reducible apply S.condQ); apply rfl; all_goals (intro _; try (exfalso; omega))) | fail)
    · exact ih' _ _ _ _ ⟨k + 1, rfl, rfl, ⟨by omega, fun _ => by omega, fun _ => by omega⟩, rfl⟩ (by omega) (by repeat' first | exact trivial | refine And.intro rfl ?_)
    · refine ih _ _ _ _ ⟨i + 1, rfl, rfl, by omega, rfl⟩ (by omega) ?_
      have e1 : kraft (ls.take (i + 1)) = kraft (ls.take i) + pi := by
        rw [hnx (by omega), kraftT, if_pos (by omega), ← hpi]
        congr 2
        omega
      rw [e1]
      exact (by repeat' first | exact trivial | refine And.intro rfl ?_)
  · refine ih _ _ _ _ ⟨i + 1, rfl, rfl, by omega, rfl⟩ (by omega) ?_
    have e1 : kraft (ls.take (i + 1)) = kraft (ls.take i) := by
      rw [hnx (by omega), kraftT, if_neg (by omega), Nat.add_zero]
    rw [e1]
    exact (by repeat' first | exact trivial | refine And.intro rfl ?_)
  · have : ls.take i = ls := List.take_of_length_le (by omega)
    rw [this]
    refine ⟨_, .refl _, ?_, rfl⟩
    have : (((kraft ls : Nat) : Int) = 32768) ↔ kraft ls = 32768 := by omega
    simp [this]
theorem countR_spec {F : World} {M : List Nat} {H : List Res} {n lc : Nat} {la : Option Addr} {ls : List Nat} [Rd F M H la (ls.map nV)] (hn : ls.length = n) (hlen : n ≤ 100000) :
    Meets Tryd.prog 71 [.slice la n lc] F M H (fun e H' => e = .returned (.tuple ⟨[.int .i64 (cntR ls).1, .int .i64 (cntR ls).2]⟩) ∧ H' = H) := by
  subst hn
  refine Meets.enter Tryd.func71 rfl rfl ?_
  repeat' (first | ((with_reducible apply T.asn); apply rfl; apply rfl) | with_reducible refine Sr.nil ?_ | with_reducible refine S.seq ?_ | with_reducible refine S.block ?_ | with_reducible refine S.reg ?_ | fail)
  refine S.loopE 0 [0] (fun R b' μ H' e => ∃ i : Nat, H' = R ∧ e = (4, .int .i64 (cntR (ls.take i)).1) :: (5, .int .i64 (cntR (ls.take i)).2) :: (6, .int .i64 i) :: b' ∧ i ≤ ls.length ∧ μ = ls.length - i) rfl rfl ?_ _ _ ⟨0, rfl, rfl, by omega, rfl⟩ (by repeat' first | exact trivial | refine And.intro rfl ?_)
  rintro _ _ _ ⟨i, rfl, rfl, hi, rfl⟩ ih
  have hkr := cntR_le (ls.take i)
  have htl : (ls.take i).length ≤ 100000 := by simp; omega
  have hnx : i < ls.length → cntR (ls.take (i + 1)) = cntS (cntR (ls.take i)) (ls.getD i 0) := fun h => by rw [take_snoc h, cntR_snoc]
  repeat' (first | ((with_reducible apply T.mv); apply rfl; apply rfl) | ((with_reducible apply T.asn); apply rfl; apply rfl) | ((with_reducible apply T.len); apply rfl; apply rfl) | ((with_reducible apply T.lss); apply rfl; apply rfl; apply rfl) | ((with_reducible apply T.gtr); apply rfl; apply rfl; apply rfl) | ((with_reducible apply T.addI); apply rfl; apply rfl; omega; apply rfl) | ((with_reducible apply T.ixN); apply rfl; apply rfl; infer_instance; omega; (first | omega | (simp; omega)); apply rfl) | ((with_reducible apply T.loadNat); apply rfl; infer_instance; (first | omega | (simp; omega)); apply rfl) | with_reducible refine Sr.nil ?_ | with_reducible refine S.seq ?_ | with_reducible refine S.block ?_ | with_reducible refine S.reg ?_ | with_reducible refine S.skip ?_ | with_reducible refine S.inBlock ?_ | ((with_reducible apply S.exit); apply rfl) | ((with_reducible apply T.retW); apply rfl) | ((with_reducible apply S.condQ); apply rfl; all_goals (intro _; try (exfalso; omega))) | fail)
  · refine ih _ _ _ _ ⟨i + 1, rfl, rfl, by omega, rfl⟩ (by omega) ?_
    rw [hnx (by omega), cntS, if_pos (by omega)]
    exact (by repeat' first | exact trivial | refine And.intro rfl ?_)
  · refine ih _ _ _ _ ⟨i + 1, rfl, rfl, by omega, rfl⟩ (by omega) ?_
    rw [hnx (by omega), cntS, if_neg (by omega)]
    exact (by repeat' first | exact trivial | refine And.intro rfl ?_)
  · have : ls.take i = ls := List.take_of_length_le (by omega)
    rw [this]
    exact ⟨_, .refl _, rfl, rfl⟩
theorem oneR_spec {F : World} {M : List Nat} {H : List Res} {n lc : Nat} {la : Option Addr} {ls : List Nat} [Rd F M H la (ls.map nV)] (hn : ls.length = n) (hlen : n ≤ 100000) :
    Meets Tryd.prog 61 [.slice la n lc] F M H (fun e H' => e = .returned (.bool (decide (cntR ls = (1, 1)))) ∧ H' = H) := by
  refine Meets.enter Tryd.func61 rfl rfl ?_
  generalize hc : cntR ls = st
  obtain ⟨c1, c2⟩ := st
  repeat' (first | (refine T.call rfl rfl (countR_spec hn hlen) ?_; rintro _ _ ⟨rfl, rfl⟩; rw [hc]) | ((with_reducible apply T.mv); apply rfl; apply rfl) | ((with_reducible apply T.asn); apply rfl; apply rfl) | ((with_reducible apply T.eql); apply rfl; apply rfl; apply rfl) | ((with_reducible apply T.extract); apply rfl; apply rfl; apply rfl) | ((with_reducible apply T.pickT); apply rfl; apply rfl; apply rfl) | ((with_reducible apply T.pickF); apply rfl; apply rfl; apply rfl) | with_reducible refine Sr.nil ?_ | with_reducible refine S.seq ?_ | with_reducible refine S.reg ?_ | ((with_reducible apply T.ung); apply rfl) | ((with_reducible apply T.skip); apply rfl; apply rfl; apply rfl) | ((with_reducible apply T.retW); apply rfl) | (with_reducible apply T.ofRet) | ((with_reducible apply T.gcase); apply rfl; apply rfl; all_goals (intro _; try (exfalso; omega))) | fail)
  · rename_i h1
    refine ⟨_, .refl _, ?_, rfl⟩
    have h1' : c1 = 1 := by simp only at h1; omega
    subst h1'
    have : (((c2 : Nat) : Int) = 1) ↔ c2 = 1 := by omega
    simp [this]
  · rename_i h1
    refine ⟨_, .refl _, ?_, rfl⟩
    have h1' : ¬ c1 = 1 := by simp only at h1; omega
    simp [h1']
theorem noneR_spec {F : World} {M : List Nat} {H : List Res} {n lc : Nat} {la : Option Addr} {ls : List Nat} [Rd F M H la (ls.map nV)] (hn : ls.length = n) (hlen : n ≤ 100000) :
    Meets Tryd.prog 62 [.slice la n lc] F M H (fun e H' => e = .returned (.bool (decide ((cntR ls).1 = 0))) ∧ H' = H) := by
  refine Meets.enter Tryd.func62 rfl rfl ?_
  repeat' (first | (refine T.call rfl rfl (countR_spec hn hlen) ?_; rintro _ _ ⟨rfl, rfl⟩) | ((with_reducible apply T.mv); apply rfl; apply rfl) | ((with_reducible apply T.asn); apply rfl; apply rfl) | ((with_reducible apply T.eql); apply rfl; apply rfl; apply rfl) | ((with_reducible apply T.extract); apply rfl; apply rfl; apply rfl) | with_reducible refine Sr.nil ?_ | with_reducible refine S.seq ?_ | with_reducible refine S.reg ?_ | ((with_reducible apply T.retW); apply rfl) | (with_reducible apply T.ofRet) | fail)
  refine ⟨_, .refl _, ?_, rfl⟩
  have : ((((cntR ls).1 : Nat) : Int) = 0) ↔ (cntR ls).1 = 0 := by omega
  simp [this]
theorem orderR_spec {F : World} {M : List Nat} {H : List Res} : Meets Tryd.prog 70 [] F M H (fun e H' => ∃ b, e = .returned (.slice (some ⟨b, 0, none⟩) 19 19) ∧ H' = .blk b (ordL.map nV) 3 :: H) := by
  refine Meets.enter Tryd.func70 rfl rfl ?_
  repeat' (first | ((with_reducible apply T.bsN); apply rfl; apply rfl; exact (show List.map nV ordL = _ from rfl); apply rfl; apply rfl; apply rfl; intro nb) | ((with_reducible apply T.asn); apply rfl; apply rfl) | with_reducible refine Sr.nil ?_ | with_reducible refine S.seq ?_ | with_reducible refine S.reg ?_ | ((with_reducible apply T.retW); apply rfl) | fail)
  exact ⟨_, .refl _, nb, rfl, rfl⟩
theorem fixedLR_spec {F : World} {M : List Nat} {H : List Res} : Meets Tryd.prog 38 [] F M H (fun e H' => ∃ la lc, e = .returned (.slice la 288 lc) ∧ H' = .row la lc 3 1 288 (fixedL.map nV) :: H) := by
  refine Meets.enter Tryd.func38 rfl rfl ?_
  have fx : ∀ s, s < 288 → fixedL.getD s 0 = if s < 144 then 8 else if s < 256 then 9 else if s < 280 then 7 else 8 := by decide
  have hfl : fixedL.length = 288 := rfl
  refine S.nilrow 3 1 ?_
  repeat' (first | ((with_reducible apply T.asn); apply rfl; apply rfl) | with_reducible refine Sr.nil ?_ | with_reducible refine S.seq ?_ | with_reducible refine S.block ?_ | with_reducible refine S.reg ?_ | fail)
  refine S.loopE 1 [] (fun R b' μ H' e => ∃ (s : Nat) (la : Option Addr) (lc : Nat), H' = .row la lc 3 1 s ((fixedL.take s).map nV) :: R ∧ e = (1, .slice la s lc) :: (2, .int .i64 s) :: b' ∧ s ≤ 288 ∧ μ = 288 - s) rfl rfl ?_ _ _ ⟨0, none, 0, rfl, rfl, by omega, rfl⟩ (by repeat' first | exact trivial | refine And.intro rfl ?_)
  rintro _ _ _ ⟨s, la, lc, rfl, rfl, hs, rfl⟩ ih
  have hfx := fx s
  have hnx : s < 288 → fixedL.take (s + 1) = fixedL.take s ++ [fixedL.getD s 0] := fun h => take_snoc (by omega)
  have htl : (fixedL.take s).length = s := by rw [List.length_take]; omega
  generalize fixedL.getD s 0 = v at *
  repeat' (first | ((with_reducible apply T.mv); apply rfl; apply rfl) | ((with_reducible apply T.asn); apply rfl; apply rfl) | ((with_reducible apply T.lss); apply rfl; apply rfl; apply rfl) | ((with_reducible apply T.geq); apply rfl; apply rfl; apply rfl) | ((with_reducible apply T.addI); apply rfl; apply rfl; omega; apply rfl) | ((with_reducible apply T.pickT); apply rfl; apply rfl; apply rfl) | ((with_reducible apply T.pickF); apply rfl; apply rfl; apply rfl) | ((with_reducible apply T.bs); apply rfl; apply rfl; apply rfl; apply rfl; apply rfl; apply rfl; intro nb) | ((with_reducible apply T.append); apply rfl; apply rfl; infer_instance; (first | rfl | (simp; done)); (first | rfl | (simp; done)); apply rfl; apply rfl; (constructor <;> omega); apply rfl; intro na nc) | with_reducible refine Sr.nil ?_ | with_reducible refine S.seq ?_ | with_reducible refine S.block ?_ | with_reducible refine S.reg ?_ | with_reducible refine S.skip ?_ | with_reducible refine S.inBlock ?_ | ((with_reducible apply S.exit); apply rfl) | ((with_reducible apply T.ung); apply rfl) | ((with_reducible apply T.skip); apply rfl; apply rfl; apply rfl) | ((with_reducible apply S.condF); apply rfl) | ((with_reducible apply T.retW); apply rfl) | ((with_reducible apply S.condQ); apply rfl; all_goals (intro _; try (exfalso; omega))) | ((with_reducible apply T.gcase); apply rfl; apply rfl; all_goals (intro _; try (exfalso; omega))) | fail)
  all_goals first
    | (have h288 : s = 288 := by omega
       subst h288
       rw [show fixedL.take 288 = fixedL from rfl]
       exact ⟨_, .refl _, la, lc, rfl, rfl⟩)
    | (refine ih _ _ _ _ ⟨s + 1, na, nc, ?_, rfl, by omega, rfl⟩ (by omega) (by repeat' first | exact trivial | refine And.intro rfl ?_)
       rw [hnx (by omega), List.map_append]
       first
         | (have h9 : v = 9 := (by rw [hfx (by omega)]; (repeat' split) <;> omega)
            rw [h9]
            rfl)
         | (have h9 : v = 8 := (by rw [hfx (by omega)]; (repeat' split) <;> omega)
            rw [h9]
            rfl)
         | (have h9 : v = 7 := (by rw [hfx (by omega)]; (repeat' split) <;> omega)
            rw [h9]
            rfl))
theorem fixedDR_spec {F : World} {M : List Nat} {H : List Res} : Meets Tryd.prog 39 [] F M H (fun e H' => ∃ la lc, e = .returned (.slice la 32 lc) ∧ H' = .row la lc 3 1 32 (fixedD.map nV) :: H) := by
  refine Meets.enter Tryd.func39 rfl rfl ?_
  refine S.nilrow 3 1 ?_
  repeat' (first | ((with_reducible apply T.asn); apply rfl; apply rfl) | with_reducible refine Sr.nil ?_ | with_reducible refine S.seq ?_ | with_reducible refine S.block ?_ | with_reducible refine S.reg ?_ | fail)
  refine S.loopE 1 [] (fun R b' μ H' e => ∃ (s : Nat) (la : Option Addr) (lc : Nat), H' = .row la lc 3 1 s ((List.replicate s 5).map nV) :: R ∧ e = (1, .slice la s lc) :: (2, .int .i64 s) :: b' ∧ s ≤ 32 ∧ μ = 32 - s) rfl rfl ?_ _ _ ⟨0, none, 0, rfl, rfl, by omega, rfl⟩ (by repeat' first | exact trivial | refine And.intro rfl ?_)
  rintro _ _ _ ⟨s, la, lc, rfl, rfl, hs, rfl⟩ ih
  have hsl : (List.replicate s 5).length = s := by simp
  repeat' (first | ((with_reducible apply T.mv); apply rfl; apply rfl) | ((with_reducible apply T.asn); apply rfl; apply rfl) | ((with_reducible apply T.lss); apply rfl; apply rfl; apply rfl) | ((with_reducible apply T.addI); apply rfl; apply rfl; omega; apply rfl) | ((with_reducible apply T.bs); apply rfl; apply rfl; apply rfl; apply rfl; apply rfl; apply rfl; intro nb) | ((with_reducible apply T.append); apply rfl; apply rfl; infer_instance; (first | rfl | (simp; done)); (first | rfl | (simp; done)); apply rfl; apply rfl; (constructor <;> omega); apply rfl; intro na nc) | with_reducible refine Sr.nil ?_ | with_reducible refine S.seq ?_ | with_reducible refine S.block ?_ | with_reducible refine S.reg ?_ | with_reducible refine S.skip ?_ | with_reducible refine S.inBlock ?_ | ((with_reducible apply S.exit); apply rfl) | ((with_reducible apply T.retW); apply rfl) | ((with_reducible apply S.condQ); apply rfl; all_goals (intro _; try (exfalso; omega))) | fail)
  · refine ih _ _ _ _ ⟨s + 1, na, nc, ?_, rfl, by omega, rfl⟩ (by omega) (by repeat' first | exact trivial | refine And.intro rfl ?_)
    rw [List.replicate_succ', List.map_append]
    rfl
  · have h32 : s = 32 := by omega
    subst h32
    exact ⟨_, .refl _, la, lc, rfl, rfl⟩
end Go.Proofs.YtjhpbljkpbdnnaaDoor
