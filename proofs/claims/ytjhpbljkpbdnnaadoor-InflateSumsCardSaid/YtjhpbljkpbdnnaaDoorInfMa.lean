/- The walks of the document's sums and zlib. -/
import Derived.Test.YtjhpbljkpbdnnaaDoorInfRa
import Derived.Test.YtjhpbljkpbdnnaaDoorInfM
namespace Go.Proofs.YtjhpbljkpbdnnaaDoor
open Sg Go.IntWalk Infl
set_option maxRecDepth 100000
theorem adlerR_spec {F : World} {M : List Nat} {H : List Res} {c : Nat} {b : Option Addr} {bs : List UInt8} [hR : Rd F M H b (bs.map bV)] (hb : bs.length ≤ 1000000000000000) :
    Meets Tryd.prog 31 [.slice b bs.length c] F M H (fun e H' => e = .returned (.int .u32 (adler bs)) ∧ H' = H) := by
  refine Meets.enter Tryd.func31 rfl rfl ?_
  repeat' (first | ((with_reducible apply T.asn); apply rfl; apply rfl) | with_reducible refine Sr.nil ?_ | with_reducible refine S.seq ?_ | with_reducible refine S.block ?_ | with_reducible refine S.reg ?_ | fail)
  refine S.loopE 0 [0] (fun R b' μ H' e => ∃ i : Nat, H' = R ∧ e = (3, .int .i64 (adl (bs.take i) (1, 0)).1) :: (4, .int .i64 (adl (bs.take i) (1, 0)).2) :: (5, .int .i64 i) :: b' ∧ i ≤ bs.length ∧ μ = bs.length - i) rfl rfl ?_ _ _ ⟨0, rfl, rfl, by omega, rfl⟩ (by repeat' first | exact trivial | refine And.intro rfl ?_)
  rintro _ _ _ ⟨i, rfl, rfl, hi, rfl⟩ ih
  obtain ⟨x1, x2⟩ := adl_lt (bs.take i) (1, 0) (by decide) (by decide)
  have hnx : i < bs.length → bs.take (i + 1) = bs.take i ++ [bs.getD i 0] := fun h => take_snoc h
  have h8 := (bs.getD i 0).toNat_lt
  generalize hs : adl (bs.take i) (1, 0) = s at x1 x2
  have e1 : ((s.1 : Nat) : Int) + ((bs.getD i 0).toNat : Int) = ((s.1 + (bs.getD i 0).toNat : Nat) : Int) := by omega
  have e2 : ((s.2 : Nat) : Int) + (((s.1 + (bs.getD i 0).toNat) % 65521 : Nat) : Int) = ((s.2 + (s.1 + (bs.getD i 0).toNat) % 65521 : Nat) : Int) := by omega
  repeat' (first | ((with_reducible apply T.addI); apply rfl; apply rfl; omega; apply rfl; (first | rw [e1] | rw [e2])) | ((with_reducible apply T.remI64 (n := 65521)); apply rfl; apply rfl; omega; apply rfl) | ((with_reducible apply T.mv); apply rfl; apply rfl) | ((with_reducible apply T.asn); apply rfl; apply rfl) | ((with_reducible apply T.len); apply rfl; apply rfl) | ((with_reducible apply T.lss); apply rfl; apply rfl; apply rfl) | ((with_reducible apply T.addI); apply rfl; apply rfl; omega; apply rfl) | ((with_reducible apply T.mulI); apply rfl; apply rfl; omega; apply rfl) | ((with_reducible apply T.ixN); apply rfl; apply rfl; infer_instance; omega; (first | omega | (simp; omega)); apply rfl) | ((with_reducible apply T.loadB); apply rfl; infer_instance; omega; apply rfl) | ((with_reducible apply T.convI64); apply rfl; omega; apply rfl) | ((with_reducible apply T.convU32); apply rfl; omega; apply rfl) | with_reducible refine Sr.nil ?_ | with_reducible refine S.seq ?_ | with_reducible refine S.block ?_ | with_reducible refine S.reg ?_ | with_reducible refine S.skip ?_ | with_reducible refine S.inBlock ?_ | ((with_reducible apply S.exit); apply rfl) | ((with_reducible apply T.retW); apply rfl) | ((with_reducible apply S.condQ); apply rfl; all_goals (intro _; try (exfalso; omega))) | fail)
  · refine ih _ _ _ _ ⟨i + 1, rfl, rfl, by omega, rfl⟩ (by omega) ?_
    rw [hnx (by omega), adl_snoc, hs]
    exact (by repeat' first | exact trivial | refine And.intro rfl ?_)
  · have : bs.take i = bs := List.take_of_length_le (by omega)
    rw [this] at hs
    refine ⟨_, .refl _, ?_, rfl⟩
    have e1 : (65536 : Int) * (s.2 : Int) + (s.1 : Int) = ((adler bs : Nat) : Int) := by
      rw [adler, hs]
      omega
    rw [e1]
theorem foot_bytes {ft : List UInt8} {s : Nat} (h : ft.length = 4) (hs : s < 4294967296) : footN ft = s ↔ ∀ i, i < 4 → (ft.getD i 0).toNat = s / 2 ^ (24 - 8 * i) % 256 := by
  match ft, h with
  | [a, b, c, d], _ =>
    have ha := a.toNat_lt
    have hb := b.toNat_lt
    have hc := c.toNat_lt
    have hd := d.toNat_lt
    have e : footN [a, b, c, d] = ((a.toNat * 256 + b.toNat) * 256 + c.toNat) * 256 + d.toNat := by
      simp only [footN, List.foldl_cons, List.foldl_nil]
      omega
    rw [e]
    constructor
    · intro h i hi
      have : i = 0 ∨ i = 1 ∨ i = 2 ∨ i = 3 := by omega
      rcases this with rfl | rfl | rfl | rfl <;> simp <;> omega
    · intro h
      have h0 := h 0 (by omega)
      have h1 := h 1 (by omega)
      have h2 := h 2 (by omega)
      have h3 := h 3 (by omega)
      simp at h0 h1 h2 h3
      omega
theorem adler_lt (bs : List UInt8) : adler bs < 4294967296 := by
  obtain ⟨x1, x2⟩ := adl_lt bs (1, 0) (by decide) (by decide)
  unfold adler
  omega
theorem zlibR_spec {F : World} {M : List Nat} {H : List Res} {c : Nat} {b : Option Addr} {bs : List UInt8} {most : Int} [hR : Rd F M H b (bs.map bV)] (hb : bs.length ≤ 1000000000000000) (hc : bs.length ≤ c) :
    Meets Tryd.prog 29 [.slice b bs.length c, .int .i64 most] F M H (fun e H' => ∃ oa oc, e = .returned (.tuple ⟨[.slice oa (zlib bs (mostN most)).1.length oc, .int .i64 (zlib bs (mostN most)).2]⟩) ∧ H' = rw_ oa oc (zlib bs (mostN most)).1 :: H) := by
  refine Meets.enter Tryd.func29 rfl rfl ?_
  refine S.nilrow 5 1 ?_
  generalize hmx : mostN most = mx
  have h0 := (bs.getD 0 0).toNat_lt
  have h1 := (bs.getD 1 0).toNat_lt
  have e256 : (256 : Int) * ((bs.getD 0 0).toNat : Int) = ((256 * (bs.getD 0 0).toNat : Nat) : Int) := by omega
  have e31 : ((256 * (bs.getD 0 0).toNat : Nat) : Int) + ((bs.getD 1 0).toNat : Int) = ((256 * (bs.getD 0 0).toNat + (bs.getD 1 0).toNat : Nat) : Int) := by omega
  have hbad : ∀ {k : Nat}, zlib bs mx = ([], k) → (∃ oa oc, (Ending.returned (.tuple ⟨[.slice none 0 0, .int .i64 k]⟩)) = .returned (.tuple ⟨[.slice oa (zlib bs mx).1.length oc, .int .i64 (zlib bs mx).2]⟩) ∧ rw_ none 0 [] :: H = rw_ oa oc (zlib bs mx).1 :: H) := by
    intro k h
    rw [h]
    exact ⟨none, 0, rfl, rfl⟩
  repeat' (first | ((with_reducible apply T.remU8 (n := 16)); apply rfl; apply rfl; omega; apply rfl) | ((with_reducible apply T.remU8 (n := 2)); apply rfl; apply rfl; omega; apply rfl) | ((with_reducible apply T.quoU8 (n := 16)); apply rfl; apply rfl; omega; omega; apply rfl) | ((with_reducible apply T.quoU8 (n := 32)); apply rfl; apply rfl; omega; omega; apply rfl) | ((with_reducible apply T.addI); apply rfl; apply rfl; omega; apply rfl; rw [e31]) | ((with_reducible apply T.mulI); apply rfl; apply rfl; omega; apply rfl; rw [e256]) | ((with_reducible apply T.remI64 (n := 31)); apply rfl; apply rfl; omega; apply rfl) | ((with_reducible apply T.mv); apply rfl; apply rfl) | ((with_reducible apply T.asn); apply rfl; apply rfl) | ((with_reducible apply T.len); apply rfl; apply rfl) | ((with_reducible apply T.lss); apply rfl; apply rfl; apply rfl) | ((with_reducible apply T.gtr); apply rfl; apply rfl; apply rfl) | ((with_reducible apply T.eql); apply rfl; apply rfl; apply rfl) | ((with_reducible apply T.neq); apply rfl; apply rfl; apply rfl) | ((with_reducible apply T.ixC); apply rfl; infer_instance; omega; (first | omega | (simp; omega)); apply rfl) | ((with_reducible apply T.loadB); apply rfl; infer_instance; omega; apply rfl) | ((with_reducible apply T.pickT); apply rfl; apply rfl; apply rfl) | ((with_reducible apply T.pickF); apply rfl; apply rfl; apply rfl) | ((with_reducible apply T.convI64); apply rfl; omega; apply rfl) | ((with_reducible apply T.sliceLC); apply rfl; omega; apply rfl) | with_reducible refine Sr.nil ?_ | with_reducible refine S.seq ?_ | with_reducible refine S.reg ?_ | with_reducible refine S.skip ?_ | ((with_reducible apply S.quiet); apply rfl; kernel_rfl) | ((with_reducible apply T.ung); apply rfl) | ((with_reducible apply T.skip); apply rfl; apply rfl; apply rfl) | ((with_reducible apply S.condT); apply rfl) | ((with_reducible apply T.retW); apply rfl) | ((with_reducible apply S.condQ); apply rfl; all_goals (intro _; try (exfalso; omega))) | ((with_reducible apply T.gcase); apply rfl; apply rfl; all_goals (intro _; try (exfalso; omega))) | fail)
  iterate 5
    exact ⟨rw_ none 0 [] :: H, by ((repeat (first | dsimp only [List.set_cons_zero] | dsimp only [List.set_cons_succ])); repeat' first | exact PSub.refl _ | exact PSub.nil | ((with_reducible apply PSub.take); (repeat' first | (with_reducible exact pick_hd) | (with_reducible apply pick_tl))) | (with_reducible apply PSub.drop) | ((apply PSub.take); (repeat' first | exact pick_hd | (apply pick_tl)))), hbad (by rw [zlib, if_neg (by unfold zok; omega)])⟩
  have hz : zok bs := by unfold zok; omega
  have hR2 : ∀ {H} [Rd F M H b (bs.map bV)], Rd F M H (saddr b c 2 1) ((bs.drop 2).map bV) := fun {H} [i : Rd F M H b (bs.map bV)] => i.sub1 hc
  have h2 : ∀ {H} [Rd F M H b (bs.map bV)], Meets Tryd.prog 12 [.slice (saddr b c 2 1) (bs.length - 2) (c - 2), .int .i64 most] F M H (fun e H' => ∃ oa oc, e = .returned (.tuple ⟨[.slice oa (infl (bs.drop 2) mx).1.length oc, .int .i64 (infl (bs.drop 2) mx).2.1, .int .i64 (infl (bs.drop 2) mx).2.2]⟩) ∧ H' = rw_ oa oc (infl (bs.drop 2) mx).1 :: H) := fun {H} [i : Rd F M H b (bs.map bV)] => by
    haveI := hR2 (H := H)
    have := inflateR_spec (F := F) (M := M) (H := H) (c := c - 2) (b := saddr b c 2 1) (bs := bs.drop 2) (most := most) (by simp; omega)
    rwa [List.length_drop, hmx] at this
  have hlo : (infl (bs.drop 2) mx).1.length ≤ 1048576 := Nat.le_trans (infl_len _ _) (by rw [← hmx]; exact mostN_le _)
  have hrd := infl_read (b := bs.drop 2) (most := mx)
  rw [List.length_drop] at hrd
  have hzl : zlib bs mx = zlibR bs (infl (bs.drop 2) mx) := by rw [zlib, if_pos hz]
  clear e31 e256 h0 h1
  refine T.call rfl rfl h2 ?_
  clear h2
  generalize infl (bs.drop 2) mx = r at *
  obtain ⟨out, n, k⟩ := r
  simp only [zlibR] at hzl hrd hlo ⊢
  rintro _ _ ⟨oa, oc, rfl, rfl⟩
  have e64 : (n : Int) + 6 = ((n + 6 : Nat) : Int) := by omega
  repeat' (first | ((with_reducible apply T.addI); apply rfl; apply rfl; omega; apply rfl; rw [e64]) | ((with_reducible apply T.mv); apply rfl; apply rfl) | ((with_reducible apply T.asn); apply rfl; apply rfl) | ((with_reducible apply T.len); apply rfl; apply rfl) | ((with_reducible apply T.neq); apply rfl; apply rfl; apply rfl) | ((with_reducible apply T.extract); apply rfl; apply rfl; apply rfl) | with_reducible refine Sr.nil ?_ | with_reducible refine S.seq ?_ | with_reducible refine S.reg ?_ | with_reducible refine S.skip ?_ | ((with_reducible apply T.retW); apply rfl) | (with_reducible apply T.ofRet) | ((with_reducible apply S.condQ); apply rfl; all_goals (intro _; try (exfalso; omega))) | fail)
  · rename_i hk
    rw [if_neg (by omega)] at hzl
    exact ⟨.row none 0 5 1 0 [] :: H, by ((repeat (first | dsimp only [List.set_cons_zero] | dsimp only [List.set_cons_succ])); repeat' first | exact PSub.refl _ | exact PSub.nil | ((with_reducible apply PSub.take); (repeat' first | (with_reducible exact pick_hd) | (with_reducible apply pick_tl))) | (with_reducible apply PSub.drop) | ((apply PSub.take); (repeat' first | exact pick_hd | (apply pick_tl)))), hbad hzl⟩
  · rename_i hk h4
    rw [if_pos (by omega), if_neg (by have := hrd (by omega); omega)] at hzl
    exact ⟨.row none 0 5 1 0 [] :: H, by ((repeat (first | dsimp only [List.set_cons_zero] | dsimp only [List.set_cons_succ])); repeat' first | exact PSub.refl _ | exact PSub.nil | ((with_reducible apply PSub.take); (repeat' first | (with_reducible exact pick_hd) | (with_reducible apply pick_tl))) | (with_reducible apply PSub.drop) | ((apply PSub.take); (repeat' first | exact pick_hd | (apply pick_tl)))), hbad hzl⟩
  rename_i hk h4
  rw [if_pos (by omega), if_pos (by omega)] at hzl
  have hl3 : (bs.drop (2 + n)).length = 4 := by simp; omega
  have hget : ∀ i, i < 4 → (bs.drop (2 + n)).getD i 0 = bs.getD (n + 2 + i) 0 := fun i hi => by
    rw [List.getD_eq_getElem?_getD, List.getElem?_drop, ← List.getD_eq_getElem?_getD]
    congr 1
    omega
  refine T.call rfl rfl (adlerR_spec (by omega)) ?_
  rintro _ _ ⟨rfl, rfl⟩
  have hs := adler_lt out
  generalize adler out = s at *
  have hfb := foot_bytes hl3 hs
  repeat' (first | ((with_reducible apply T.asn); apply rfl; apply rfl) | with_reducible refine Sr.nil ?_ | with_reducible refine S.seq ?_ | with_reducible refine S.block ?_ | with_reducible refine S.reg ?_ | (with_reducible apply T.ofRet) | fail)
  refine S.loopE 0 [0, 6, 7, 9] (fun R b' μ H' e => ∃ i : Nat, H' = R ∧ e = (10, .int .i64 i) :: b' ∧ (i ≤ 4 ∧ ∀ j, j < i → ((bs.drop (2 + n)).getD j 0).toNat = s / 2 ^ (24 - 8 * j) % 256) ∧ μ = 4 - i) rfl rfl ?_ _ _ ⟨0, rfl, rfl, ⟨by omega, by omega⟩, rfl⟩ (by repeat' first | exact trivial | refine And.intro rfl ?_)
  rintro _ _ _ ⟨i, rfl, rfl, ⟨hi, hall⟩, rfl⟩ ih
  have d1 : (n : Int) + 2 = ((n + 2 : Nat) : Int) := by omega
  have d2 : ((n + 2 : Nat) : Int) + (i : Int) = ((n + 2 + i : Nat) : Int) := by omega
  have d3 : (8 : Int) * (i : Int) = ((8 * i : Nat) : Int) := by omega
  have d4 : i < 4 → (24 : Int) - ((8 * i : Nat) : Int) = ((24 - 8 * i : Nat) : Int) := fun h => by omega
  have d5 : ((s / 2 ^ (24 - 8 * i) : Nat) : Int) % 256 = ((s / 2 ^ (24 - 8 * i) % 256 : Nat) : Int) := by omega
  have hi4 := hget i
  repeat' (first | ((with_reducible apply T.addI); apply rfl; apply rfl; omega; apply rfl; (first | rw [d1] | rw [d2])) | ((with_reducible apply T.mulI); apply rfl; apply rfl; omega; apply rfl; rw [d3]) | ((with_reducible apply T.subI); apply rfl; apply rfl; omega; apply rfl; rw [d4 (by omega)]) | ((with_reducible apply T.shrU32); apply rfl; apply rfl; omega; apply rfl) | ((with_reducible apply T.convU64); apply rfl; omega; apply rfl) | ((with_reducible apply T.convMU8); apply rfl; apply rfl; rw [d5]) | ((with_reducible apply T.mv); apply rfl; apply rfl) | ((with_reducible apply T.asn); apply rfl; apply rfl) | ((with_reducible apply T.lss); apply rfl; apply rfl; apply rfl) | ((with_reducible apply T.neq); apply rfl; apply rfl; apply rfl) | ((with_reducible apply T.addI); apply rfl; apply rfl; omega; apply rfl) | ((with_reducible apply T.ixN); apply rfl; apply rfl; infer_instance; omega; (first | omega | (simp; omega)); apply rfl) | ((with_reducible apply T.loadB); apply rfl; infer_instance; omega; apply rfl) | with_reducible refine Sr.nil ?_ | with_reducible refine S.seq ?_ | with_reducible refine S.block ?_ | with_reducible refine S.reg ?_ | with_reducible refine S.skip ?_ | with_reducible refine S.inBlock ?_ | ((with_reducible apply S.exit); apply rfl) | ((with_reducible apply T.retW); apply rfl) | ((with_reducible apply S.condQ); apply rfl; all_goals (intro _; try (exfalso; omega))) | fail)
  · rename_i hlt hne
    have hno : ¬ footN (bs.drop (2 + n)) = s := fun h => by
      have := hfb.1 h i (by omega)
      rw [hi4 (by omega)] at this
      omega
    rw [if_neg hno] at hzl
    exact ⟨.row none 0 5 1 0 [] :: H, by ((repeat (first | dsimp only [List.set_cons_zero] | dsimp only [List.set_cons_succ])); repeat' first | exact PSub.refl _ | exact PSub.nil | ((with_reducible apply PSub.take); (repeat' first | (with_reducible exact pick_hd) | (with_reducible apply pick_tl))) | (with_reducible apply PSub.drop) | ((apply PSub.take); (repeat' first | exact pick_hd | (apply pick_tl)))), hbad hzl⟩
  · rename_i hlt hne
    refine ih _ _ _ _ ⟨i + 1, rfl, rfl, ⟨by omega, fun j hj => ?_⟩, rfl⟩ (by omega) (by repeat' first | exact trivial | refine And.intro rfl ?_)
    by_cases hji : j = i
    · subst hji
      rw [hi4 (by omega)]
      omega
    · exact hall j (by omega)
  · rename_i hlt
    have hi' : i = 4 := by omega
    subst hi'
    rw [if_pos (hfb.2 hall)] at hzl
    rw [hzl]
    exact ⟨rw_ oa oc out :: H, by ((repeat (first | dsimp only [List.set_cons_zero] | dsimp only [List.set_cons_succ])); repeat' first | exact PSub.refl _ | exact PSub.nil | ((with_reducible apply PSub.take); (repeat' first | (with_reducible exact pick_hd) | (with_reducible apply pick_tl))) | (with_reducible apply PSub.drop) | ((apply PSub.take); (repeat' first | exact pick_hd | (apply pick_tl)))), oa, oc, rfl, rfl⟩
end Go.Proofs.YtjhpbljkpbdnnaaDoor
