/- The walk of the program's zlib. -/
import Derived.Test.YtjhpbljkpbdnnaaDoorInfL
namespace Go.Proofs.YtjhpbljkpbdnnaaDoor
open Sg Go.IntWalk Infl
set_option maxRecDepth 100000
theorem zlib_spec {F : World} {M : List Nat} {H : List Res} {c : Nat} {b : Option Addr} {bs : List UInt8} {most : Int} [hR : Rd F M H b (bs.map bV)] [hg : ∀ H, Rd F M H (some ⟨0, 0, none⟩) (ordL.map nV)] (hb : bs.length ≤ 1000000000000000) (hc : bs.length ≤ c) :
    Meets Tryd.prog 28 [.slice b bs.length c, .int .i64 most] F M H (fun e H' => ∃ oa oc, e = .returned (.tuple ⟨[.slice oa (zlib bs (mostN most)).1.length oc, .int .i64 (zlib bs (mostN most)).2]⟩) ∧ H' = rw_ oa oc (zlib bs (mostN most)).1 :: H) := by
  refine Meets.enter Tryd.func28 rfl rfl ?_
  refine S.nilrow 5 1 ?_
  generalize hmx : mostN most = mx
  have h0 := (bs.getD 0 0).toNat_lt
  have h1 := (bs.getD 1 0).toNat_lt
  have e15 := and15 (x := (bs.getD 0 0).toNat)
  have e32 := and32 h1
  have hbad : ∀ {k : Nat}, zlib bs mx = ([], k) → (∃ oa oc, (Ending.returned (.tuple ⟨[.slice none 0 0, .int .i64 k]⟩)) = .returned (.tuple ⟨[.slice oa (zlib bs mx).1.length oc, .int .i64 (zlib bs mx).2]⟩) ∧ rw_ none 0 [] :: H = rw_ oa oc (zlib bs mx).1 :: H) := by
    intro k h
    rw [h]
    exact ⟨none, 0, rfl, rfl⟩
  repeat' (first | ((with_reducible apply T.andU8 (n := 15)); apply rfl; apply rfl; omega; omega; apply rfl; rw [e15]) | ((with_reducible apply T.andU8 (n := 32)); apply rfl; apply rfl; omega; omega; apply rfl; rw [e32]) | ((with_reducible apply T.shrU8 (n := 4)); apply rfl; apply rfl; omega; apply rfl) | ((with_reducible apply T.rem (r := (((256 * (bs.getD 0 0).toNat + (bs.getD 1 0).toNat) % 31 : Nat) : Int))); apply rfl; apply rfl; omega; (rw [Int.tmod_eq_emod_of_nonneg (by omega)]; omega); apply rfl) | ((with_reducible apply T.mv); apply rfl; apply rfl) | ((with_reducible apply T.asn); apply rfl; apply rfl) | ((with_reducible apply T.len); apply rfl; apply rfl) | ((with_reducible apply T.lss); apply rfl; apply rfl; apply rfl) | ((with_reducible apply T.gtr); apply rfl; apply rfl; apply rfl) | ((with_reducible apply T.neq); apply rfl; apply rfl; apply rfl) | ((with_reducible apply T.addI); apply rfl; apply rfl; omega; apply rfl) | ((with_reducible apply T.mulI); apply rfl; apply rfl; omega; apply rfl) | ((with_reducible apply T.ixC); apply rfl; infer_instance; omega; (first | omega | (simp; omega)); apply rfl) | ((with_reducible apply T.loadB); apply rfl; infer_instance; omega; apply rfl) | ((with_reducible apply T.pickT); apply rfl; apply rfl; apply rfl) | ((with_reducible apply T.pickF); apply rfl; apply rfl; apply rfl) | ((with_reducible apply T.convI64); apply rfl; omega; apply rfl) | ((with_reducible apply T.sliceLC); apply rfl; omega; apply rfl) | with_reducible refine Sr.nil ?_ | with_reducible refine S.seq ?_ | with_reducible refine S.reg ?_ | with_reducible refine S.skip ?_ | ((with_reducible apply S.quiet); apply rfl; kernel_rfl) | ((with_reducible apply T.ung); apply rfl) | ((with_reducible apply T.skip); apply rfl; apply rfl; apply rfl) | ((with_reducible apply S.condT); apply rfl) | ((with_reducible apply T.retW); apply rfl) | ((with_reducible apply S.condQ); apply rfl; all_goals (intro _; try (exfalso; omega))) | ((with_reducible apply T.gcase); apply rfl; apply rfl; all_goals (intro _; try (exfalso; omega))) | fail)
  iterate 5
    exact ⟨rw_ none 0 [] :: H, by ((repeat (first | dsimp only [List.set_cons_zero] | dsimp only [List.set_cons_succ])); repeat' first | exact PSub.refl _ | exact PSub.nil | ((with_reducible apply PSub.take); (repeat' first | (with_reducible exact pick_hd) | (with_reducible apply pick_tl))) | (with_reducible apply PSub.drop) | ((apply PSub.take); (repeat' first | exact pick_hd | (apply pick_tl)))), hbad (by rw [zlib, if_neg (by unfold zok; omega)])⟩
  have hz : zok bs := by unfold zok; omega
  have hR2 : ∀ {H} [Rd F M H b (bs.map bV)], Rd F M H (saddr b c 2 1) ((bs.drop 2).map bV) := fun {H} [i : Rd F M H b (bs.map bV)] => i.sub1 hc
  have h2 : ∀ {H} [Rd F M H b (bs.map bV)], Meets Tryd.prog 11 [.slice (saddr b c 2 1) (bs.length - 2) (c - 2), .int .i64 most] F M H (fun e H' => ∃ oa oc, e = .returned (.tuple ⟨[.slice oa (infl (bs.drop 2) mx).1.length oc, .int .i64 (infl (bs.drop 2) mx).2.1, .int .i64 (infl (bs.drop 2) mx).2.2]⟩) ∧ H' = rw_ oa oc (infl (bs.drop 2) mx).1 :: H) := fun {H} [i : Rd F M H b (bs.map bV)] => by
    haveI := hR2 (H := H)
    have := inflate_spec (F := F) (M := M) (H := H) (c := c - 2) (b := saddr b c 2 1) (bs := bs.drop 2) (most := most) (by simp; omega)
    rwa [List.length_drop, hmx] at this
  have hlo : (infl (bs.drop 2) mx).1.length ≤ 1048576 := Nat.le_trans (infl_len _ _) (by rw [← hmx]; exact mostN_le _)
  have hrd := infl_read (b := bs.drop 2) (most := mx)
  rw [List.length_drop] at hrd
  have hzl : zlib bs mx = zlibR bs (infl (bs.drop 2) mx) := by rw [zlib, if_pos hz]
  clear e15 e32 h0 h1
  refine T.call rfl rfl h2 ?_
  clear h2
  generalize infl (bs.drop 2) mx = r at *
  obtain ⟨out, n, k⟩ := r
  simp only [zlibR] at hzl hrd hlo ⊢
  rintro _ _ ⟨oa, oc, rfl, rfl⟩
  have e64 : (2 : Int) + (n : Int) = ((2 + n : Nat) : Int) := by omega
  repeat' (first | ((with_reducible apply T.addI); apply rfl; apply rfl; omega; apply rfl; rw [e64]) | ((with_reducible apply T.mv); apply rfl; apply rfl) | ((with_reducible apply T.asn); apply rfl; apply rfl) | ((with_reducible apply T.len); apply rfl; apply rfl) | ((with_reducible apply T.neq); apply rfl; apply rfl; apply rfl) | ((with_reducible apply T.extract); apply rfl; apply rfl; apply rfl) | ((with_reducible apply T.sliceLK); apply rfl; apply rfl; omega; apply rfl) | with_reducible refine Sr.nil ?_ | with_reducible refine S.seq ?_ | with_reducible refine S.block ?_ | with_reducible refine S.reg ?_ | with_reducible refine S.skip ?_ | ((with_reducible apply T.retW); apply rfl) | (with_reducible apply T.ofRet) | ((with_reducible apply S.condQ); apply rfl; all_goals (intro _; try (exfalso; omega))) | fail)
  · rename_i hk
    rw [if_neg (by omega)] at hzl
    exact ⟨.row none 0 5 1 0 [] :: H, by ((repeat (first | dsimp only [List.set_cons_zero] | dsimp only [List.set_cons_succ])); repeat' first | exact PSub.refl _ | exact PSub.nil | ((with_reducible apply PSub.take); (repeat' first | (with_reducible exact pick_hd) | (with_reducible apply pick_tl))) | (with_reducible apply PSub.drop) | ((apply PSub.take); (repeat' first | exact pick_hd | (apply pick_tl)))), hbad hzl⟩
  · rename_i hk h4
    rw [if_pos (by omega), if_neg (by have := hrd (by omega); omega)] at hzl
    exact ⟨.row none 0 5 1 0 [] :: H, by ((repeat (first | dsimp only [List.set_cons_zero] | dsimp only [List.set_cons_succ])); repeat' first | exact PSub.refl _ | exact PSub.nil | ((with_reducible apply PSub.take); (repeat' first | (with_reducible exact pick_hd) | (with_reducible apply pick_tl))) | (with_reducible apply PSub.drop) | ((apply PSub.take); (repeat' first | exact pick_hd | (apply pick_tl)))), hbad hzl⟩
  rename_i hk h4
  have hn := hrd (by omega)
  rw [if_pos (by omega), if_pos (by omega)] at hzl
  have hR3 : ∀ {H} [Rd F M H b (bs.map bV)], Rd F M H (saddr b c (2 + n) 1) ((bs.drop (2 + n)).map bV) := fun {H} [i : Rd F M H b (bs.map bV)] => i.sub1 hc
  have hl3 : (bs.drop (2 + n)).length = 4 := by simp; omega
  rw [show bs.length - (2 + n) = 4 by omega]
  generalize bs.drop (2 + n) = ft at *
  refine S.loopE 0 [69, 70, 6] (fun R b' μ H' e => ∃ i : Nat, H' = R ∧ e = (10, .int .u32 (footN (ft.take i))) :: (71, .int .i64 i) :: b' ∧ i ≤ 4 ∧ μ = 4 - i) rfl rfl ?_ _ _ ⟨0, rfl, rfl, by omega, rfl⟩ (by repeat' first | exact trivial | refine And.intro rfl ?_)
  rintro _ _ _ ⟨i, rfl, rfl, hi, rfl⟩ ih
  have hnx : i < 4 → ft.take (i + 1) = ft.take i ++ [ft.getD i 0] := fun h => by
    rw [List.take_succ_eq_append_getElem (by omega)]
    simp [List.getD, hl3, h]
  have h8 := (ft.getD i 0).toNat_lt
  have hf : footN (ft.take i) < 256 ^ i := Nat.lt_of_lt_of_le (footN_lt _) (Nat.pow_le_pow_right (by omega) (by simp; omega))
  have hf4 : i < 4 → footN (ft.take i) < 16777216 := fun h => Nat.lt_of_lt_of_le hf (Nat.pow_le_pow_right (n := 256) (by omega) (show i ≤ 3 by omega))
  generalize hs : footN (ft.take i) = s at *
  have hor : s * 2 ^ 8 ||| (ft.getD i 0).toNat = 256 * s + (ft.getD i 0).toNat := by
    rw [Nat.mul_comm, ← Nat.two_pow_add_eq_or_of_lt (by omega)]
  repeat' (first | ((with_reducible apply T.shlU32 (n := 8)); apply rfl; apply rfl; omega; omega; apply rfl) | ((with_reducible apply T.orU32); apply rfl; apply rfl; omega; omega; apply rfl; rw [hor]) | ((with_reducible apply T.mv); apply rfl; apply rfl) | ((with_reducible apply T.asn); apply rfl; apply rfl) | ((with_reducible apply T.lss); apply rfl; apply rfl; apply rfl) | ((with_reducible apply T.addI); apply rfl; apply rfl; omega; apply rfl) | ((with_reducible apply T.ixN); apply rfl; apply rfl; infer_instance; omega; (first | omega | (simp; omega)); apply rfl) | ((with_reducible apply T.loadB); apply rfl; infer_instance; omega; apply rfl) | ((with_reducible apply T.convU32); apply rfl; omega; apply rfl) | with_reducible refine Sr.nil ?_ | with_reducible refine S.seq ?_ | with_reducible refine S.block ?_ | with_reducible refine S.reg ?_ | with_reducible refine S.skip ?_ | with_reducible refine S.inBlock ?_ | ((with_reducible apply S.exit); apply rfl) | ((with_reducible apply S.condQ); apply rfl; all_goals (intro _; try (exfalso; omega))) | fail)
  · refine ih _ _ _ _ ⟨i + 1, rfl, rfl, by omega, rfl⟩ (by omega) ?_
    rw [hnx (by omega), footN_snoc, hs]
    exact (by repeat' first | exact trivial | refine And.intro rfl ?_)
  · have : ft.take i = ft := List.take_of_length_le (by omega)
    rw [this] at hs
    subst hs
    refine T.call rfl rfl (adler_spec (by omega)) ?_
    rintro _ _ ⟨rfl, rfl⟩
    repeat' (first | ((with_reducible apply T.mv); apply rfl; apply rfl) | ((with_reducible apply T.asn); apply rfl; apply rfl) | ((with_reducible apply T.neq); apply rfl; apply rfl; apply rfl) | with_reducible refine Sr.nil ?_ | with_reducible refine S.seq ?_ | with_reducible refine S.reg ?_ | with_reducible refine S.skip ?_ | ((with_reducible apply T.retW); apply rfl) | (with_reducible apply T.ofRet) | ((with_reducible apply S.condQ); apply rfl; all_goals (intro _; try (exfalso; omega))) | fail)
    · rw [if_neg (by omega)] at hzl
      exact ⟨.row none 0 5 1 0 [] :: H, by ((repeat (first | dsimp only [List.set_cons_zero] | dsimp only [List.set_cons_succ])); repeat' first | exact PSub.refl _ | exact PSub.nil | ((with_reducible apply PSub.take); (repeat' first | (with_reducible exact pick_hd) | (with_reducible apply pick_tl))) | (with_reducible apply PSub.drop) | ((apply PSub.take); (repeat' first | exact pick_hd | (apply pick_tl)))), hbad hzl⟩
    · rw [if_pos (by omega)] at hzl
      rw [hzl]
      exact ⟨rw_ oa oc out :: H, by ((repeat (first | dsimp only [List.set_cons_zero] | dsimp only [List.set_cons_succ])); repeat' first | exact PSub.refl _ | exact PSub.nil | ((with_reducible apply PSub.take); (repeat' first | (with_reducible exact pick_hd) | (with_reducible apply pick_tl))) | (with_reducible apply PSub.drop) | ((apply PSub.take); (repeat' first | exact pick_hd | (apply pick_tl)))), oa, oc, rfl, rfl⟩
end Go.Proofs.YtjhpbljkpbdnnaaDoor
