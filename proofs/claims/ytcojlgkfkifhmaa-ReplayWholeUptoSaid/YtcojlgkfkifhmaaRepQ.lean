/- The walk of the statement ReplayWhole. -/
import Derived.Test.YtcojlgkfkifhmaaRepM
/- maps -/
namespace Go.Proofs.Ytcojlgkfkifhmaa
open Sg Go.IntWalk
set_option maxRecDepth 100000
set_option maxHeartbeats 2000000
theorem open_take {F : World} {M : List Nat} {H : List Res} {c n : Nat} {b : Option Addr} {l : List UInt8} [hR : Rd F M H b (l.map bV)] (hn : n ≤ l.length) (hl : l.length ≤ 1000000000000000) (hc : n ≤ c) (h : (openM (l.take n)).1 = none) :
    Meets Try.prog 16 [.slice b n c] F M H (fun e H' => ∃ p : Nat, p ≤ n ∧ p = (openM (l.take n)).2 ∧ e = .returned (.tuple ⟨[.pointer none, .int .i64 163, .int .i64 p]⟩) ∧ H' = H) := by
  have htl : (l.take n).length = n := by rw [List.length_take]; omega
  have hop := open_spec (F := F) (M := M) (H := H) (b := b) (c := c) (l := l.take n) (hR := Rd.take1 hR n) (by omega) (by omega)
  have hpl := openM_place (l.take n)
  rw [htl] at hop hpl
  rw [h] at hop
  exact hop.mono fun e H' ⟨h1, h2⟩ => ⟨_, hpl, rfl, h1, h2⟩
theorem open_err {F : World} {M : List Nat} {H : List Res} {c n : Nat} {b : Option Addr} {l : List UInt8} (hR : Rd F M H b (l.map bV)) (hn : l.length = n) (hl : l.length ≤ 1000000000000000) (hc : n ≤ c) (h : (openM l).1 = none) :
    Meets Try.prog 16 [.slice b n c] F M H (fun e H' => e = .returned (.tuple ⟨[.pointer none, .int .i64 163, .int .i64 ((openM l).2 : Nat)]⟩) ∧ H' = H) := by
  subst hn
  have hop := open_spec (F := F) (M := M) (H := H) (b := b) (c := c) (l := l) hl hc
  rw [h] at hop
  exact hop
theorem whole_walk {F : World} {ac bc hc0 : Nat} {a b d : Option Addr} {l bh : List UInt8} {ys : List OpR} {cut at_ : Int} {by_ : UInt8} [hA : ∀ H, Rd F [] H a (l.map bV)] [hB : ∀ H, Rd F [] H b (ys.flatMap opV)] [hD : ∀ H, Rd F [] H d (bh.map bV)] (hl : l.length ≤ 1000000000000000) (hc : l.length ≤ ac) (hy : Ops ys) (hyl : ys.length ≤ 140737488355328) (hbh : bh.length ≤ 100000000000000) :
    Meets Try.prog 9 [.slice a l.length ac, .slice b ys.length bc, .int .i64 cut, .int .i64 at_, .int .u8 by_.toNat, .slice d bh.length hc0] F [] [] (fun e _ => e = .returned (.bool true)) := by
  refine Meets.enter Try.func9 rfl rfl ?_
  refine S.nilrow 5 1 ?_
  repeat' (first | ((with_reducible apply T.asn); apply rfl; apply rfl) | with_reducible refine Sr.nil ?_ | with_reducible refine S.seq ?_ | with_reducible refine S.reg ?_ | fail)
  refine T.call rfl rfl started_spec ?_
  rintro _ _ ⟨rfl, rfl⟩
  repeat' (first | ((with_reducible apply T.mv); apply rfl; apply rfl) | ((with_reducible apply T.notB); apply rfl; apply rfl) | with_reducible refine Sr.nil ?_ | with_reducible refine S.seq ?_ | with_reducible refine S.reg ?_ | with_reducible refine S.skip ?_ | ((with_reducible apply S.condF); apply rfl) | (with_reducible apply T.ofRet) | fail)
  refine T.call rfl rfl (opened_spec (l := l) hl hc) ?_
  rintro _ _ ⟨q, mb, rfl, rfl⟩
  repeat' (first | ((with_reducible apply T.asn); apply rfl; apply rfl) | with_reducible refine Sr.nil ?_ | with_reducible refine S.seq ?_ | with_reducible refine S.block ?_ | with_reducible refine S.reg ?_ | (with_reducible apply T.ofRet) | fail)
  refine S.loopE 2 [1, 2, 3, 4, 5, 13] (fun R b' μ H' e => ∃ (i : Nat) (k : Bk), H' = .blk q (bkV mb k) 63 :: bkM mb k :: R ∧ e = (14, .int .i64 i) :: b' ∧ (i ≤ ys.length ∧ k.good) ∧ μ = ys.length - i) rfl rfl ?_ _ _ ⟨0, openedM l, rfl, rfl, ⟨by omega, openedM_good l⟩, rfl⟩ (by repeat' first | exact trivial | refine And.intro rfl ?_)
  rintro _ _ _ ⟨i, k, rfl, rfl, ⟨hi, hk⟩, rfl⟩ ih
  by_cases h1 : i < ys.length
  · obtain ⟨hj2, ht2, hw2⟩ := hy.at h1
    repeat' (first | ((with_reducible apply T.mv); apply rfl; apply rfl) | ((with_reducible apply T.asn); apply rfl; apply rfl) | ((with_reducible apply T.len); apply rfl; apply rfl) | ((with_reducible apply T.lss); apply rfl; apply rfl; apply rfl) | ((with_reducible apply T.eql); apply rfl; apply rfl; apply rfl) | ((with_reducible apply T.addI); apply rfl; apply rfl; omega; apply rfl) | ((with_reducible apply T.ixF); apply rfl; apply rfl; infer_instance; exact (fun _ => rfl); apply rfl; omega; omega; apply rfl) | ((with_reducible apply T.fieldAddrF); apply rfl; infer_instance; exact (fun _ => rfl); apply rfl; omega; apply rfl) | ((with_reducible apply T.loadF); apply rfl; apply rfl; infer_instance; exact (fun _ => rfl); apply rfl; exact getD_some (by omega); apply rfl; apply rfl) | with_reducible refine Sr.nil ?_ | with_reducible refine S.seq ?_ | with_reducible refine S.block ?_ | with_reducible refine S.reg ?_ | with_reducible refine S.skip ?_ | with_reducible refine S.inBlock ?_ | ((with_reducible apply S.condQ); apply rfl; all_goals (intro _; try (exfalso; omega))) | fail)
    · have n1 : ∀ {X : List Res}, Meets Try.prog 12 [.pointer (some ⟨q, 0, none⟩), sV (ys.getD i default).jti, .int .i64 (ys.getD i default).til, .int .i64 (ys.getD i default).now] F [] (.blk q (bkV mb k) 63 :: bkM mb k :: X) (fun e H' => e = .returned (.int .i64 ((k.take (ys.getD i default).jti (ys.getD i default).til (ys.getD i default).now).1 : Nat)) ∧ H' = .blk q (bkV mb (k.take (ys.getD i default).jti (ys.getD i default).til (ys.getD i default).now).2) 63 :: bkM mb (k.take (ys.getD i default).jti (ys.getD i default).til (ys.getD i default).now).2 :: X) := take_spec hj2 hk.ok.len9 ht2
      ((with_reducible apply S.draw); (case Hs => exact []); (case es => exact  [16]); (case n => exact  17); (case hn => rfl))
      repeat' (first | (refine T.call rfl rfl (by with_reducible exact n1) ?_; rintro _ _ ⟨rfl, rfl⟩) | ((with_reducible apply T.mv); apply rfl; apply rfl) | ((with_reducible apply T.asn); apply rfl; apply rfl) | ((with_reducible apply T.addI); apply rfl; apply rfl; omega; apply rfl) | ((with_reducible apply T.ixF); apply rfl; apply rfl; infer_instance; exact (fun _ => rfl); apply rfl; omega; omega; apply rfl) | ((with_reducible apply T.fieldAddrF); apply rfl; infer_instance; exact (fun _ => rfl); apply rfl; omega; apply rfl) | ((with_reducible apply T.loadF); apply rfl; apply rfl; infer_instance; exact (fun _ => rfl); apply rfl; exact getD_some (by omega); apply rfl; apply rfl) | with_reducible refine Sr.nil ?_ | with_reducible refine S.reg ?_ | with_reducible refine S.inBlock ?_ | (with_reducible apply T.ofRet) | ((with_reducible apply SA.qn); apply rfl; apply rfl; apply rfl; apply rfl; kernel_rfl) | ((with_reducible apply SA.en); apply rfl; apply rfl; kernel_rfl) | ((with_reducible apply SA.done); apply rfl; kernel_rfl) | ((with_reducible apply SK.intro); (first | exact fun _ h => h | exact fun _ h => St.psub h (by ((repeat (first | dsimp only [List.set_cons_zero] | dsimp only [List.set_cons_succ])); repeat' first | exact PSub.refl _ | exact PSub.nil | ((with_reducible apply PSub.take); (repeat' first | (with_reducible exact pick_hd) | (with_reducible apply pick_tl))) | (with_reducible apply PSub.drop) | ((apply PSub.take); (repeat' first | exact pick_hd | (apply pick_tl))))))) | fail)
      skip
      exact ih _ _ _ _ ⟨i + 1, _, rfl, rfl, ⟨by omega, take_good hk _ ht2 hw2⟩, rfl⟩ (by omega) (by repeat' first | exact trivial | refine And.intro rfl ?_)
    · exact ih _ _ _ _ ⟨i + 1, k, rfl, rfl, ⟨by omega, hk⟩, rfl⟩ (by omega) (by repeat' first | exact trivial | refine And.intro rfl ?_)
  clear ih
  have hin := image_le hk.ok
  refine S.seq ?_
  refine S.seq ?_
  repeat' (first | ((with_reducible apply T.mv); apply rfl; apply rfl) | ((with_reducible apply T.len); apply rfl; apply rfl) | ((with_reducible apply T.lss); apply rfl; apply rfl; apply rfl) | with_reducible refine Sr.nil ?_ | with_reducible refine S.seq ?_ | with_reducible refine S.reg ?_ | ((with_reducible apply S.exit); apply rfl) | ((with_reducible apply S.condQ); apply rfl; all_goals (intro _; try (exfalso; omega))) | fail)
  refine T.call rfl rfl (image_spec hk.ok) ?_
  rintro _ _ ⟨ia, ic, rfl, rfl⟩
  refine Sr.capR (ad := ia) inferInstance fun hic => ?_
  have hcutN := fun n => openM_cut (n := n) hk
  have hmore := fun x => openM_image hk x
  have hchg := fun i b => openM_change (k := k) (i := i) (b := b)
  generalize imageL k = im at *
  repeat' (first | ((with_reducible apply T.asn); apply rfl; apply rfl) | with_reducible refine Sr.nil ?_ | fail)
  refine S.seq ?_
  refine S.cut (fun H' e' => H' = .row none 0 5 1 0 [] :: .row ia ic 5 1 im.length (im.map bV) :: [] ∧ e' = [(15, .slice ia im.length ic), (3, .int .i64 at_), (4, .int .u8 by_.toNat), (5, .slice d bh.length hc0)]) ?_ ?_
  · intro k' hrest
    by_cases hcut : 0 ≤ cut ∧ cut < (im.length : Int)
    · obtain ⟨m, rfl⟩ := Int.eq_ofNat_of_zero_le hcut.1
      have hm : m < im.length := by omega
      repeat' (first | ((with_reducible apply T.mv); apply rfl; apply rfl) | ((with_reducible apply T.len); apply rfl; apply rfl) | ((with_reducible apply T.lss); apply rfl; apply rfl; apply rfl) | ((with_reducible apply T.geq); apply rfl; apply rfl; apply rfl) | ((with_reducible apply T.pickT); apply rfl; apply rfl; apply rfl) | ((with_reducible apply T.sliceHK); apply rfl; apply rfl; omega; apply rfl) | with_reducible refine Sr.nil ?_ | with_reducible refine S.seq ?_ | with_reducible refine S.reg ?_ | ((with_reducible apply T.ung); apply rfl) | ((with_reducible apply S.condQ); apply rfl; all_goals (intro _; try (exfalso; omega))) | fail)
      refine T.call rfl rfl (open_take (l := im) (n := m) (by omega) (by omega) (by omega) (hcutN m hm)) ?_
      rintro _ _ ⟨p, hp, -, rfl, rfl⟩
      repeat' (first | ((with_reducible apply T.neqP0); apply rfl; apply rfl) | ((with_reducible apply T.mv); apply rfl; apply rfl) | ((with_reducible apply T.asn); apply rfl; apply rfl) | ((with_reducible apply T.lss); apply rfl; apply rfl; apply rfl) | ((with_reducible apply T.gtr); apply rfl; apply rfl; apply rfl) | ((with_reducible apply T.neq); apply rfl; apply rfl; apply rfl) | ((with_reducible apply T.extract); apply rfl; apply rfl; apply rfl) | ((with_reducible apply T.pickF); apply rfl; apply rfl; apply rfl) | with_reducible refine Sr.nil ?_ | with_reducible refine S.seq ?_ | with_reducible refine S.reg ?_ | with_reducible refine S.skip ?_ | ((with_reducible apply T.ung); apply rfl) | (with_reducible apply T.ofRet) | ((with_reducible apply S.condQ); apply rfl; all_goals (intro _; try (exfalso; omega))) | fail)
      exact S.sublist (hrest _ _ _ ⟨rfl, rfl⟩ (by repeat' first | exact trivial | refine And.intro rfl ?_)) (by ((repeat (first | dsimp only [List.set_cons_zero] | dsimp only [List.set_cons_succ])); repeat' first | exact PSub.refl _ | exact PSub.nil | ((with_reducible apply PSub.take); (repeat' first | (with_reducible exact pick_hd) | (with_reducible apply pick_tl))) | (with_reducible apply PSub.drop) | ((apply PSub.take); (repeat' first | exact pick_hd | (apply pick_tl)))))
    · repeat' (first | ((with_reducible apply T.mv); apply rfl; apply rfl) | ((with_reducible apply T.len); apply rfl; apply rfl) | ((with_reducible apply T.lss); apply rfl; apply rfl; apply rfl) | ((with_reducible apply T.geq); apply rfl; apply rfl; apply rfl) | ((with_reducible apply T.pickT); apply rfl; apply rfl; apply rfl) | ((with_reducible apply T.pickF); apply rfl; apply rfl; apply rfl) | with_reducible refine Sr.nil ?_ | with_reducible refine S.seq ?_ | with_reducible refine S.reg ?_ | with_reducible refine S.skip ?_ | ((with_reducible apply T.ung); apply rfl) | ((with_reducible apply T.skip); apply rfl; apply rfl; apply rfl) | ((with_reducible apply S.condF); apply rfl) | ((with_reducible apply S.condQ); apply rfl; all_goals (intro _; try (exfalso; omega))) | ((with_reducible apply T.gcase); apply rfl; apply rfl; all_goals (intro _; try (exfalso; omega))) | fail)
      all_goals exact S.sublist (hrest _ _ _ ⟨rfl, rfl⟩ (by repeat' first | exact trivial | refine And.intro rfl ?_)) (by ((repeat (first | dsimp only [List.set_cons_zero] | dsimp only [List.set_cons_succ])); repeat' first | exact PSub.refl _ | exact PSub.nil | ((with_reducible apply PSub.take); (repeat' first | (with_reducible exact pick_hd) | (with_reducible apply pick_tl))) | (with_reducible apply PSub.drop) | ((apply PSub.take); (repeat' first | exact pick_hd | (apply pick_tl)))))
  rintro _ _ ⟨rfl, rfl⟩
  repeat' (first | ((with_reducible apply T.asn); apply rfl; apply rfl) | with_reducible refine Sr.nil ?_ | with_reducible refine S.seq ?_ | with_reducible refine S.block ?_ | with_reducible refine S.reg ?_ | fail)
  refine S.loopE 1 [3, 4, 5, 15] (fun R b' μ H' e => ∃ (i : Nat) (ta : Option Addr) (tc : Nat), H' = .row ta tc 5 1 i ((im.take i).map bV) :: R ∧ e = (19, .slice ta i tc) :: (20, .int .i64 i) :: b' ∧ i ≤ im.length ∧ μ = im.length - i) rfl rfl ?_ _ _ ⟨0, none, 0, rfl, rfl, by omega, rfl⟩ (by repeat' first | exact trivial | refine And.intro rfl ?_)
  rintro _ _ _ ⟨i2, ta, tc, rfl, rfl, hi2, rfl⟩ ih
  have htl : (im.take i2).length = i2 := by rw [List.length_take]; omega
  by_cases h2 : i2 < im.length
  · repeat' (first | ((with_reducible apply T.mv); apply rfl; apply rfl) | ((with_reducible apply T.asn); apply rfl; apply rfl) | ((with_reducible apply T.len); apply rfl; apply rfl) | ((with_reducible apply T.lss); apply rfl; apply rfl; apply rfl) | ((with_reducible apply T.addI); apply rfl; apply rfl; omega; apply rfl) | ((with_reducible apply T.ixN); apply rfl; apply rfl; infer_instance; omega; (first | omega | (simp only [List.length_map]; omega) | (simp; omega)); apply rfl) | ((with_reducible apply T.loadB); apply rfl; infer_instance; omega; apply rfl) | ((with_reducible apply T.bs); apply rfl; apply rfl; apply rfl; apply rfl; apply rfl; apply rfl; intro nb) | ((with_reducible apply T.appendB); apply rfl; apply rfl; infer_instance; apply rfl; (constructor <;> omega); apply rfl; intro na nc) | with_reducible refine Sr.nil ?_ | with_reducible refine S.seq ?_ | with_reducible refine S.block ?_ | with_reducible refine S.reg ?_ | with_reducible refine S.skip ?_ | with_reducible refine S.inBlock ?_ | ((with_reducible apply S.condQ); apply rfl; all_goals (intro _; try (exfalso; omega))) | fail)
    refine ih _ _ _ _ ⟨i2 + 1, na, nc, ?_, rfl, by omega, rfl⟩ (by omega) (by repeat' first | exact trivial | refine And.intro rfl ?_)
    rw [take_snocB (d := 0) h2]
  obtain rfl : i2 = im.length := by omega
  clear ih
  rw [List.take_length]
  refine S.seq ?_
  refine S.seq ?_
  repeat' (first | ((with_reducible apply T.mv); apply rfl; apply rfl) | ((with_reducible apply T.len); apply rfl; apply rfl) | ((with_reducible apply T.lss); apply rfl; apply rfl; apply rfl) | with_reducible refine Sr.nil ?_ | with_reducible refine S.reg ?_ | fail)
  refine S.condP rfl (fun h => absurd h (by omega)) (fun _ => ?_)
  repeat' (first | ((with_reducible apply S.exit); apply rfl) | fail)
  refine S.seq ?_
  refine S.cut (fun H' e' => ∃ (rest : List UInt8) (ta : Option Addr) (tc : Nat), rest.length ≤ 100000000000000 ∧ im.length ≤ tc ∧ H' = .row ta tc 5 1 (im.length + rest.length) ((im ++ rest).map bV) :: .row ia ic 5 1 im.length (im.map bV) :: [] ∧ e' = [(15, .slice ia im.length ic), (19, .slice ta im.length tc), (3, .int .i64 at_), (4, .int .u8 by_.toNat)]) ?_ ?_
  · intro k' hrest
    by_cases hb : bh = []
    · subst hb
      refine S.capR (ad := ta) inferInstance fun htc => ?_
      repeat' (first | ((with_reducible apply T.mv); apply rfl; apply rfl) | ((with_reducible apply T.len); apply rfl; apply rfl) | ((with_reducible apply T.gtr); apply rfl; apply rfl; apply rfl) | with_reducible refine Sr.nil ?_ | with_reducible refine S.seq ?_ | with_reducible refine S.reg ?_ | with_reducible refine S.skip ?_ | ((with_reducible apply S.condF); apply rfl) | fail)
      refine hrest _ _ _ ⟨[], ta, tc, by decide, htc, ?_, rfl⟩ (by repeat' first | exact trivial | refine And.intro rfl ?_)
      rw [List.append_nil]
      rfl
    · have hbl : 0 < bh.length := List.length_pos_iff.2 hb
      have hmb := hmore bh
      rw [if_neg hb] at hmb
      repeat' (first | ((with_reducible apply T.mv); apply rfl; apply rfl) | ((with_reducible apply T.asn); apply rfl; apply rfl) | ((with_reducible apply T.len); apply rfl; apply rfl) | ((with_reducible apply T.gtr); apply rfl; apply rfl; apply rfl) | with_reducible refine Sr.nil ?_ | with_reducible refine S.seq ?_ | with_reducible refine S.block ?_ | with_reducible refine S.reg ?_ | ((with_reducible apply S.condQ); apply rfl; all_goals (intro _; try (exfalso; omega))) | fail)
      refine S.loopE 1 [3, 4, 5, 15] (fun R b' μ H' e => ∃ (j : Nat) (ta : Option Addr) (tc : Nat), H' = .row ta tc 5 1 (im.length + j) ((im ++ bh.take j).map bV) :: R ∧ e = (19, .slice ta (im.length + j) tc) :: (21, .int .i64 j) :: b' ∧ j ≤ bh.length ∧ μ = bh.length - j) rfl rfl ?_ _ _ ⟨0, ta, tc, by rw [List.take_zero, List.append_nil]; rfl, rfl, by omega, rfl⟩ (by repeat' first | exact trivial | refine And.intro rfl ?_)
      clear ta tc
      rintro _ _ _ ⟨j, ta, tc, rfl, rfl, hj, rfl⟩ ih
      by_cases h3 : j < bh.length
      · repeat' (first | ((with_reducible apply T.mv); apply rfl; apply rfl) | ((with_reducible apply T.asn); apply rfl; apply rfl) | ((with_reducible apply T.len); apply rfl; apply rfl) | ((with_reducible apply T.lss); apply rfl; apply rfl; apply rfl) | ((with_reducible apply T.addI); apply rfl; apply rfl; omega; apply rfl) | ((with_reducible apply T.ixN); apply rfl; apply rfl; infer_instance; omega; (first | omega | (simp only [List.length_map]; omega) | (simp; omega)); apply rfl) | ((with_reducible apply T.loadB); apply rfl; infer_instance; omega; apply rfl) | ((with_reducible apply T.bs); apply rfl; apply rfl; apply rfl; apply rfl; apply rfl; apply rfl; intro nb) | ((with_reducible apply T.appendB); apply rfl; apply rfl; infer_instance; apply rfl; (constructor <;> omega); apply rfl; intro na nc) | with_reducible refine Sr.nil ?_ | with_reducible refine S.seq ?_ | with_reducible refine S.block ?_ | with_reducible refine S.reg ?_ | with_reducible refine S.skip ?_ | with_reducible refine S.inBlock ?_ | ((with_reducible apply S.condQ); apply rfl; all_goals (intro _; try (exfalso; omega))) | fail)
        refine ih _ _ _ _ ⟨j + 1, na, nc, ?_, rfl, by omega, rfl⟩ (by omega) (by repeat' first | exact trivial | refine And.intro rfl ?_)
        rw [take_snocB (d := 0) h3, ← List.append_assoc]
        rfl
      obtain rfl : j = bh.length := by omega
      clear ih
      rw [List.take_length]
      refine S.capR (ad := ta) inferInstance fun htc => ?_
      repeat' (first | ((with_reducible apply T.mv); apply rfl; apply rfl) | ((with_reducible apply T.len); apply rfl; apply rfl) | ((with_reducible apply T.lss); apply rfl; apply rfl; apply rfl) | with_reducible refine Sr.nil ?_ | with_reducible refine S.seq ?_ | with_reducible refine S.reg ?_ | ((with_reducible apply S.exit); apply rfl) | ((with_reducible apply S.condQ); apply rfl; all_goals (intro _; try (exfalso; omega))) | fail)
      refine T.call rfl rfl (open_err (l := im ++ bh) inferInstance List.length_append (by rw [List.length_append]; omega) htc (by rw [hmb])) ?_
      rintro _ _ ⟨rfl, rfl⟩
      rw [hmb]
      repeat' (first | ((with_reducible apply T.neqP0); apply rfl; apply rfl) | ((with_reducible apply T.mv); apply rfl; apply rfl) | ((with_reducible apply T.asn); apply rfl; apply rfl) | ((with_reducible apply T.len); apply rfl; apply rfl) | ((with_reducible apply T.neq); apply rfl; apply rfl; apply rfl) | ((with_reducible apply T.extract); apply rfl; apply rfl; apply rfl) | ((with_reducible apply T.pickF); apply rfl; apply rfl; apply rfl) | ((with_reducible apply T.sliceHK); apply rfl; apply rfl; omega; apply rfl) | with_reducible refine Sr.nil ?_ | with_reducible refine S.seq ?_ | with_reducible refine S.reg ?_ | with_reducible refine S.skip ?_ | ((with_reducible apply T.ung); apply rfl) | (with_reducible apply T.ofRet) | ((with_reducible apply S.condQ); apply rfl; all_goals (intro _; try (exfalso; omega))) | fail)
      exact hrest _ _ _ ⟨bh, ta, tc, hbh, by omega, rfl, rfl⟩ (by repeat' first | exact trivial | refine And.intro rfl ?_)
  clear ta tc
  rintro _ _ ⟨rest, ta, tc, hrl, htc, rfl, rfl⟩
  by_cases hat : (0 ≤ at_ ∧ at_ < (im.length : Int)) ∧ by_ ≠ 0
  · obtain ⟨⟨ha1, ha2⟩, hb0⟩ := hat
    obtain ⟨j, rfl⟩ := Int.eq_ofNat_of_zero_le ha1
    have hj : j < im.length := by omega
    have hbz : ¬ ((by_.toNat : Int) = 0) := fun h => hb0 (UInt8.toNat_inj.1 (by simpa using h))
    have hapl : (im ++ rest).length = im.length + rest.length := List.length_append
    have e1 : ((((im ++ rest).getD j 0).toNat : Int) + (by_.toNat : Int)) % 256 = (((im ++ rest).getD j 0 + by_ : UInt8).toNat : Int) := by
      rw [UInt8.toNat_add]
      simp
    have hnone : (openM (im.set j ((im ++ rest).getD j 0 + by_))).1 = none := by
      refine hchg j _ hj ?_
      rw [List.getElem?_eq_getElem hj, List.getD_eq_getElem?_getD, List.getElem?_append_left hj, List.getElem?_eq_getElem hj, Option.getD_some]
      intro h
      simp only [Option.some.injEq] at h
      apply hb0
      have h2 : im[j] + 0 = im[j] + by_ := by rw [UInt8.add_zero]; exact h
      exact (UInt8.add_right_inj im[j]).1 h2 |>.symm
    repeat' (first | ((with_reducible apply T.addU8); apply rfl; apply rfl; apply rfl; rw [e1]) | ((with_reducible apply T.mv); apply rfl; apply rfl) | ((with_reducible apply T.len); apply rfl; apply rfl) | ((with_reducible apply T.lss); apply rfl; apply rfl; apply rfl) | ((with_reducible apply T.geq); apply rfl; apply rfl; apply rfl) | ((with_reducible apply T.eql); apply rfl; apply rfl; apply rfl) | ((with_reducible apply T.ixN); apply rfl; apply rfl; infer_instance; omega; (first | omega | (simp only [List.length_map]; omega) | (simp; omega)); apply rfl) | ((with_reducible apply T.loadB); apply rfl; infer_instance; omega; apply rfl) | ((with_reducible apply T.pickF); apply rfl; apply rfl; apply rfl) | ((with_reducible apply T.storeB); apply rfl; apply rfl; infer_instance; (first | omega | (simp only [List.length_map]; omega) | (simp; omega))) | with_reducible refine Sr.nil ?_ | with_reducible refine S.seq ?_ | with_reducible refine S.reg ?_ | with_reducible refine S.skip ?_ | ((with_reducible apply T.ung); apply rfl) | ((with_reducible apply S.condQ); apply rfl; all_goals (intro _; try (exfalso; omega))) | ((with_reducible apply T.gcase); apply rfl; apply rfl; all_goals (intro _; try (exfalso; omega))) | fail)
    rw [List.set_append_left _ _ hj]
    have i1 : ∀ {X : List Res}, Rd F [] (.row ta tc 5 1 (im.length + rest.length) ((im.set j ((im ++ rest).getD j 0 + by_) ++ rest).map bV) :: X) ta ((im.set j ((im ++ rest).getD j 0 + by_)).map bV) := fun {X} => Rd.left (r := rest) inferInstance
    refine T.call rfl rfl (open_err (l := im.set j ((im ++ rest).getD j 0 + by_)) i1 List.length_set (by rw [List.length_set]; omega) htc hnone) ?_
    rintro _ _ ⟨rfl, rfl⟩
    repeat' (first | ((with_reducible apply T.eqlP0); apply rfl; apply rfl) | ((with_reducible apply T.mv); apply rfl; apply rfl) | ((with_reducible apply T.asn); apply rfl; apply rfl) | ((with_reducible apply T.eql); apply rfl; apply rfl; apply rfl) | ((with_reducible apply T.extract); apply rfl; apply rfl; apply rfl) | ((with_reducible apply T.pickT); apply rfl; apply rfl; apply rfl) | with_reducible refine Sr.nil ?_ | with_reducible refine S.seq ?_ | with_reducible refine S.reg ?_ | ((with_reducible apply T.ung); apply rfl) | ((with_reducible apply T.retW); apply rfl) | (with_reducible apply T.ofRet) | fail)
    exact ⟨_, PSub.refl _, rfl⟩
  · have hat' : ¬ ((0 ≤ at_ ∧ at_ < (im.length : Int)) ∧ ¬ ((by_.toNat : Int) = 0)) := fun h => hat ⟨h.1, fun h0 => h.2 (by rw [h0]; rfl)⟩
    clear hat
    repeat' (first | ((with_reducible apply T.mv); apply rfl; apply rfl) | ((with_reducible apply T.asn); apply rfl; apply rfl) | ((with_reducible apply T.len); apply rfl; apply rfl) | ((with_reducible apply T.lss); apply rfl; apply rfl; apply rfl) | ((with_reducible apply T.geq); apply rfl; apply rfl; apply rfl) | ((with_reducible apply T.eql); apply rfl; apply rfl; apply rfl) | ((with_reducible apply T.pickT); apply rfl; apply rfl; apply rfl) | ((with_reducible apply T.pickF); apply rfl; apply rfl; apply rfl) | with_reducible refine Sr.nil ?_ | with_reducible refine S.seq ?_ | with_reducible refine S.reg ?_ | ((with_reducible apply T.ung); apply rfl) | ((with_reducible apply T.skip); apply rfl; apply rfl; apply rfl) | ((with_reducible apply S.condT); apply rfl) | ((with_reducible apply T.retW); apply rfl) | ((with_reducible apply S.condQ); apply rfl; all_goals (intro _; try (exfalso; omega))) | ((with_reducible apply T.gcase); apply rfl; apply rfl; all_goals (intro _; try (exfalso; omega))) | fail)
    all_goals exact ⟨_, PSub.refl _, rfl⟩
end Go.Proofs.Ytcojlgkfkifhmaa
