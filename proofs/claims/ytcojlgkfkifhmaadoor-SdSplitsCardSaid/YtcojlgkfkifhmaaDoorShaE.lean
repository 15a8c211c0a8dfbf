/- The document's sum: turns, filling. -/
import Derived.Test.YtcojlgkfkifhmaaDoorShaD
/- words -/
/- maps -/
namespace Go.Proofs.YtcojlgkfkifhmaaDoor
open Sg Go Go.RowKit Go.IntWalk
set_option maxRecDepth 100000
set_option maxHeartbeats 2000000
theorem turn_spec (x : UInt32) (n k : Nat) (h : n + k = 32) (h0 : 0 < n) (hk : 0 < k) : PCall Tryd.prog 37 [wV x, .int .i64 (n : Int)] (wV (rot n x)) := by
  intro w
  unfold wV
  have e2 := rot_bits x h h0 hk
  have hx := UInt32.toNat_lt x
  generalize (rot (n : Int) x).toNat = r at *
  generalize x.toNat = m at *
  obtain rfl : k = 32 - n := by omega
  go_enter Tryd.func37, Tryd.ntmps37
  go_wp2
  go_ret
  exact ⟨rfl, rfl⟩
theorem turn_at (x : UInt32) (n : Int) (h : 0 < n ∧ n < 32) : PCall Tryd.prog 37 [wV x, .int .i64 n] (wV (rot n x)) := by
  obtain ⟨m, rfl⟩ : ∃ m : Nat, n = (m : Int) := ⟨n.toNat, by omega⟩
  exact turn_spec x m (32 - m) (by omega) (by omega) (by omega)
theorem turn7 (x : UInt32) : PCall Tryd.prog 37 [wV x, .int .i64 7] (wV (rot 7 x)) := turn_at x 7 (by decide)
theorem turn18 (x : UInt32) : PCall Tryd.prog 37 [wV x, .int .i64 18] (wV (rot 18 x)) := turn_at x 18 (by decide)
theorem turn17 (x : UInt32) : PCall Tryd.prog 37 [wV x, .int .i64 17] (wV (rot 17 x)) := turn_at x 17 (by decide)
theorem turn19 (x : UInt32) : PCall Tryd.prog 37 [wV x, .int .i64 19] (wV (rot 19 x)) := turn_at x 19 (by decide)
theorem turn6 (x : UInt32) : PCall Tryd.prog 37 [wV x, .int .i64 6] (wV (rot 6 x)) := turn_at x 6 (by decide)
theorem turn11 (x : UInt32) : PCall Tryd.prog 37 [wV x, .int .i64 11] (wV (rot 11 x)) := turn_at x 11 (by decide)
theorem turn25 (x : UInt32) : PCall Tryd.prog 37 [wV x, .int .i64 25] (wV (rot 25 x)) := turn_at x 25 (by decide)
theorem turn2 (x : UInt32) : PCall Tryd.prog 37 [wV x, .int .i64 2] (wV (rot 2 x)) := turn_at x 2 (by decide)
theorem turn13 (x : UInt32) : PCall Tryd.prog 37 [wV x, .int .i64 13] (wV (rot 13 x)) := turn_at x 13 (by decide)
theorem turn22 (x : UInt32) : PCall Tryd.prog 37 [wV x, .int .i64 22] (wV (rot 22 x)) := turn_at x 22 (by decide)
theorem ofNat_low (m : Nat) : UInt8.ofNat (m &&& 255) = UInt8.ofNat m := by
  apply UInt8.toNat_inj.1
  rw [UInt8.toNat_ofNat', UInt8.toNat_ofNat', show 255 = 2 ^ 8 - 1 from rfl, Nat.and_two_pow_sub_one_eq_mod]
  omega
theorem bits8_ref {n j : Nat} (h : j < 8) : (bits8 n).take j ++ [UInt8.ofNat (((n * 8 : Nat) : Int).toNat / 2 ^ (8 * (7 - (j : Int))).toNat &&& 255)] = (bits8 n).take (j + 1) := by
  rw [ofNat_low]
  exact bits8_at h
theorem filled_spec {F : World} {M : List Nat} {H : List Res} {sa : Option Addr} {bs : List UInt8} {c : Nat} (hR : Rd F M H sa (bs.map bV)) (hn : bs.length ≤ 140737488355000) :
    Meets Tryd.prog 36 [.slice sa bs.length c, .int .i64 64] F M H (fun e H' => ∃ ad cp, e = .returned (.slice ad (padded bs).length cp) ∧ H' = .row ad cp 5 1 (padded bs).length ((padded bs).map bV) :: H) := by
  refine Meets.enter Tryd.func36 rfl rfl ?_
  refine S.nilrowB 5 ?_
  have hz := zeros_spec bs.length
  have hpl : ∀ z, (padZ z).length = z + 1 := fun z => by simp [padZ]
  repeat' (first | (refine T.appendB (m := 128) rfl rfl inferInstance rfl ⟨by omega, by omega⟩ rfl ?_; intro na nc) | ((with_reducible apply T.appendBs); apply rfl; apply rfl; infer_instance; infer_instance; (first | rfl | assumption | exact beN_len _ _ | (simp; done) | (simp; omega)); omega; apply rfl; intro na nc) | ((with_reducible apply T.mv); apply rfl; apply rfl) | ((with_reducible apply T.asn); apply rfl; apply rfl) | ((with_reducible apply T.bs); apply rfl; apply rfl; apply rfl; apply rfl; apply rfl; apply rfl; intro nb) | with_reducible refine Sr.nil ?_ | with_reducible refine S.seq ?_ | with_reducible refine S.block ?_ | with_reducible refine S.reg ?_ | fail)
  rw [List.nil_append, Nat.zero_add, show bs.length + 1 = (bs ++ padZ 0).length by rw [List.length_append, hpl]]
  refine S.loopE 1 [0, 1] (fun R b' μ H' e => ∃ (z : Nat) (pl : List UInt8) (ad : Option Addr) (cp : Nat), H' = .row ad cp 5 1 pl.length (pl.map bV) :: R ∧ e = (5, .slice ad pl.length cp) :: b' ∧ pl = bs ++ padZ z ∧ z ≤ zeros bs.length ∧ μ = zeros bs.length - z) rfl rfl ?_ _ _ ⟨0, bs ++ padZ 0, _, _, rfl, rfl, rfl, by omega, rfl⟩ (by repeat' first | exact trivial | refine And.intro rfl ?_)
  rintro _ _ _ ⟨z, pl, ad, cp, rfl, rfl, hpe, hzl, rfl⟩ ih
  have hp : pl.length = bs.length + z + 1 := by rw [hpe, List.length_append, hpl, Nat.add_assoc]
  by_cases h1 : z < zeros bs.length
  · have hne := zeros_least bs.length z h1
    have hz1 : pl ++ [0] = bs ++ padZ (z + 1) := by rw [hpe, padZ, padZ, List.replicate_succ', List.append_assoc, List.cons_append]
    repeat' (first | ((with_reducible apply T.remI64 (n := 64)); apply rfl; apply rfl; omega; apply rfl) | (refine T.appendB (m := 0) rfl rfl inferInstance rfl ⟨by omega, by omega⟩ rfl ?_; intro na nc) | ((with_reducible apply T.mv); apply rfl; apply rfl) | ((with_reducible apply T.asn); apply rfl; apply rfl) | ((with_reducible apply T.len); apply rfl; apply rfl) | ((with_reducible apply T.neq); apply rfl; apply rfl; apply rfl) | ((with_reducible apply T.subI); apply rfl; apply rfl; omega; apply rfl) | ((with_reducible apply T.bs); apply rfl; apply rfl; apply rfl; apply rfl; apply rfl; apply rfl; intro nb) | with_reducible refine Sr.nil ?_ | with_reducible refine S.seq ?_ | with_reducible refine S.block ?_ | with_reducible refine S.reg ?_ | with_reducible refine S.skip ?_ | with_reducible refine S.inBlock ?_ | ((with_reducible apply S.condQ); apply rfl; all_goals (intro _; try (exfalso; omega))) | fail)
    rw [show pl.length + 1 = (pl ++ [0]).length by simp]
    exact ih _ _ _ _ ⟨z + 1, pl ++ [0], _, _, rfl, rfl, hz1, by omega, rfl⟩ (by omega) (by repeat' first | exact trivial | refine And.intro rfl ?_)
  · obtain rfl : z = zeros bs.length := by omega
    clear ih
    repeat' (first | ((with_reducible apply T.remI64 (n := 64)); apply rfl; apply rfl; omega; apply rfl) | ((with_reducible apply T.mulU64N (n := 8)); apply rfl; apply rfl; omega; apply rfl) | ((with_reducible apply T.mv); apply rfl; apply rfl) | ((with_reducible apply T.asn); apply rfl; apply rfl) | ((with_reducible apply T.len); apply rfl; apply rfl) | ((with_reducible apply T.neq); apply rfl; apply rfl; apply rfl) | ((with_reducible apply T.subI); apply rfl; apply rfl; omega; apply rfl) | ((with_reducible apply T.convU64); apply rfl; omega; apply rfl) | with_reducible refine Sr.nil ?_ | with_reducible refine S.seq ?_ | with_reducible refine S.block ?_ | with_reducible refine S.reg ?_ | ((with_reducible apply S.exit); apply rfl) | ((with_reducible apply S.condQ); apply rfl; all_goals (intro _; try (exfalso; omega))) | fail)
    refine S.loopE 1 [6] (fun R b' μ H' e => ∃ (j : Nat) (pl : List UInt8) (ad : Option Addr) (cp : Nat), H' = .row ad cp 5 1 pl.length (pl.map bV) :: R ∧ e = (5, .slice ad pl.length cp) :: (7, .int .i64 (7 - (j : Int))) :: b' ∧ pl = bs ++ padZ (zeros bs.length) ++ (bits8 bs.length).take j ∧ j ≤ 8 ∧ μ = 8 - j) rfl rfl ?_ _ _ ⟨0, pl, _, _, rfl, rfl, by rw [hpe, List.take_zero, List.append_nil], by omega, rfl⟩ (by repeat' first | exact trivial | refine And.intro rfl ?_)
    clear hpe hp
    rintro _ _ _ ⟨j, pl, ad, cp, rfl, rfl, hpe, hj, rfl⟩ ih
    have hpl2 : pl.length = bs.length + zeros bs.length + 1 + j := by rw [hpe, List.length_append, List.length_append, hpl, List.length_take]; simp only [bits8, List.length_map, List.length_cons, List.length_nil]; omega
    by_cases h2 : j < 8
    · have hdv : ((bs.length * 8 : Nat) : Int).toNat / 2 ^ (8 * (7 - (j : Int))).toNat < 18446744073709551616 := Nat.lt_of_le_of_lt (Nat.div_le_self _ _) (by omega)
      repeat' (first | ((with_reducible apply T.shrGU64); apply rfl; apply rfl; omega; apply rfl) | ((with_reducible apply T.andU64 (n := 255)); apply rfl; apply rfl; exact hdv; omega; apply rfl) | ((with_reducible apply T.convBU64); apply rfl; apply rfl) | ((with_reducible apply T.mv); apply rfl; apply rfl) | ((with_reducible apply T.asn); apply rfl; apply rfl) | ((with_reducible apply T.geq); apply rfl; apply rfl; apply rfl) | ((with_reducible apply T.subI); apply rfl; apply rfl; omega; apply rfl) | ((with_reducible apply T.mulI); apply rfl; apply rfl; omega; apply rfl) | ((with_reducible apply T.convU64); apply rfl; omega; apply rfl) | ((with_reducible apply T.bs); apply rfl; apply rfl; apply rfl; apply rfl; apply rfl; apply rfl; intro nb) | ((with_reducible apply T.appendB); apply rfl; apply rfl; infer_instance; apply rfl; (constructor <;> omega); apply rfl; intro na nc) | with_reducible refine Sr.nil ?_ | with_reducible refine S.seq ?_ | with_reducible refine S.block ?_ | with_reducible refine S.reg ?_ | with_reducible refine S.skip ?_ | with_reducible refine S.inBlock ?_ | ((with_reducible apply S.condQ); apply rfl; all_goals (intro _; try (exfalso; omega))) | fail)
      have he := bits8_ref (n := bs.length) h2
      generalize UInt8.ofNat (((bs.length * 8 : Nat) : Int).toNat / 2 ^ (8 * (7 - (j : Int))).toNat &&& 255) = x at *
      rw [show (7 - (j : Int) - 1) = 7 - ((j + 1 : Nat) : Int) by omega, show pl.length + 1 = (pl ++ [x]).length by simp]
      exact ih _ _ _ _ ⟨j + 1, pl ++ [x], _, _, rfl, rfl, by rw [hpe, List.append_assoc, he], by omega, rfl⟩ (by omega) (by repeat' first | exact trivial | refine And.intro rfl ?_)
    · obtain rfl : j = 8 := by omega
      have hpad : pl = padded bs := by rw [hpe, List.append_assoc]; rfl
      subst hpad
      repeat' (first | ((with_reducible apply T.mv); apply rfl; apply rfl) | ((with_reducible apply T.asn); apply rfl; apply rfl) | ((with_reducible apply T.geq); apply rfl; apply rfl; apply rfl) | with_reducible refine Sr.nil ?_ | with_reducible refine S.seq ?_ | with_reducible refine S.reg ?_ | ((with_reducible apply S.exit); apply rfl) | ((with_reducible apply S.condF); apply rfl) | ((with_reducible apply T.retW); apply rfl) | fail)
      exact ⟨_, PSub.refl _, _, _, rfl, rfl⟩
end Go.Proofs.YtcojlgkfkifhmaaDoor
