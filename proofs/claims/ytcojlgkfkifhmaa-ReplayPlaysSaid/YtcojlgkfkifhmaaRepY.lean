/- The walk of the document's own answer: Open. -/
import Derived.Test.YtcojlgkfkifhmaaRepX
/- maps -/
namespace Go.Proofs.Ytcojlgkfkifhmaa
open Sg Go.IntWalk
set_option maxRecDepth 100000
set_option maxHeartbeats 2000000
theorem mopen_spec {F : World} {M : List Nat} {H : List Res} {c : Nat} {b : Option Addr} {l : List UInt8} [hR : Rd F M H b (l.map bV)] (hl : l.length ≤ 1000000000000000) (hc : l.length ≤ c) :
    Meets Try.prog 17 [.slice b l.length c] F M H (fun e H' => match (openM l).1 with
      | some k => ∃ pm aa ac, e = .returned (.tuple ⟨[.pointer (some ⟨pm, 0, none⟩), .int .i64 0, .int .i64 0]⟩) ∧ H' = .blk pm (mdV aa k.ends.length ac k.has k.last) 81 :: .row aa ac 85 2 k.ends.length (k.ends.flatMap enV) :: H
      | none => e = .returned (.tuple ⟨[.pointer none, .int .i64 163, .int .i64 ((openM l).2 : Nat)]⟩) ∧ H' = H) := by
  generalize hE : openM l = E
  obtain ⟨o, pl⟩ := E
  dsimp only
  have fin : ∀ {q : Nat}, openM l = (none, q) → o = none ∧ pl = q := fun {q} h => by
    rw [hE] at h
    simpa using h
  refine Meets.enter Try.func17 rfl rfl ?_
  by_cases h0 : l.length < 1 ∨ ¬ (l.getD 0 0).toNat = 82
  · obtain ⟨rfl, rfl⟩ := fin (head0 h0)
    repeat' (first | ((with_reducible apply T.mv); apply rfl; apply rfl) | ((with_reducible apply T.asn); apply rfl; apply rfl) | ((with_reducible apply T.len); apply rfl; apply rfl) | ((with_reducible apply T.lss); apply rfl; apply rfl; apply rfl) | ((with_reducible apply T.neq); apply rfl; apply rfl; apply rfl) | ((with_reducible apply T.ixC); apply rfl; infer_instance; omega; (first | omega | (simp only [List.length_map]; omega) | (simp; omega)); apply rfl) | ((with_reducible apply T.loadB); apply rfl; infer_instance; omega; apply rfl) | ((with_reducible apply T.pickT); apply rfl; apply rfl; apply rfl) | ((with_reducible apply T.pickF); apply rfl; apply rfl; apply rfl) | with_reducible refine Sr.nil ?_ | with_reducible refine S.seq ?_ | with_reducible refine S.reg ?_ | ((with_reducible apply T.ung); apply rfl) | ((with_reducible apply T.skip); apply rfl; apply rfl; apply rfl) | ((with_reducible apply S.condT); apply rfl) | ((with_reducible apply T.retW); apply rfl) | ((with_reducible apply S.condQ); apply rfl; all_goals (intro _; try (exfalso; omega))) | ((with_reducible apply T.gcase); apply rfl; apply rfl; all_goals (intro _; try (exfalso; omega))) | fail)
    all_goals exact ⟨H, by ((repeat (first | dsimp only [List.set_cons_zero] | dsimp only [List.set_cons_succ])); repeat' first | exact PSub.refl _ | exact PSub.nil | ((with_reducible apply PSub.take); (repeat' first | (with_reducible exact pick_hd) | (with_reducible apply pick_tl))) | (with_reducible apply PSub.drop) | ((apply PSub.take); (repeat' first | exact pick_hd | (apply pick_tl)))), rfl, rfl⟩
  obtain ⟨a0, b0⟩ := not_or.1 h0
  rw [Classical.not_not] at b0
  by_cases h1 : l.length < 2 ∨ ¬ (l.getD 1 0).toNat = 1
  · obtain ⟨rfl, rfl⟩ := fin (head1 ⟨a0, b0⟩ h1)
    repeat' (first | ((with_reducible apply T.mv); apply rfl; apply rfl) | ((with_reducible apply T.asn); apply rfl; apply rfl) | ((with_reducible apply T.len); apply rfl; apply rfl) | ((with_reducible apply T.lss); apply rfl; apply rfl; apply rfl) | ((with_reducible apply T.neq); apply rfl; apply rfl; apply rfl) | ((with_reducible apply T.ixC); apply rfl; infer_instance; omega; (first | omega | (simp only [List.length_map]; omega) | (simp; omega)); apply rfl) | ((with_reducible apply T.loadB); apply rfl; infer_instance; omega; apply rfl) | ((with_reducible apply T.pickT); apply rfl; apply rfl; apply rfl) | ((with_reducible apply T.pickF); apply rfl; apply rfl; apply rfl) | with_reducible refine Sr.nil ?_ | with_reducible refine S.seq ?_ | with_reducible refine S.reg ?_ | with_reducible refine S.skip ?_ | ((with_reducible apply T.ung); apply rfl) | ((with_reducible apply T.skip); apply rfl; apply rfl; apply rfl) | ((with_reducible apply S.condT); apply rfl) | ((with_reducible apply T.retW); apply rfl) | ((with_reducible apply S.condQ); apply rfl; all_goals (intro _; try (exfalso; omega))) | ((with_reducible apply T.gcase); apply rfl; apply rfl; all_goals (intro _; try (exfalso; omega))) | fail)
    all_goals exact ⟨H, by ((repeat (first | dsimp only [List.set_cons_zero] | dsimp only [List.set_cons_succ])); repeat' first | exact PSub.refl _ | exact PSub.nil | ((with_reducible apply PSub.take); (repeat' first | (with_reducible exact pick_hd) | (with_reducible apply pick_tl))) | (with_reducible apply PSub.drop) | ((apply PSub.take); (repeat' first | exact pick_hd | (apply pick_tl)))), rfl, rfl⟩
  obtain ⟨a1, b1⟩ := not_or.1 h1
  rw [Classical.not_not] at b1
  by_cases h2 : l.length < 3 ∨ 1 < (l.getD 2 0).toNat
  · obtain ⟨rfl, rfl⟩ := fin (head2 ⟨a1, b0, b1⟩ h2)
    repeat' (first | ((with_reducible apply T.mv); apply rfl; apply rfl) | ((with_reducible apply T.asn); apply rfl; apply rfl) | ((with_reducible apply T.len); apply rfl; apply rfl) | ((with_reducible apply T.lss); apply rfl; apply rfl; apply rfl) | ((with_reducible apply T.gtr); apply rfl; apply rfl; apply rfl) | ((with_reducible apply T.neq); apply rfl; apply rfl; apply rfl) | ((with_reducible apply T.ixC); apply rfl; infer_instance; omega; (first | omega | (simp only [List.length_map]; omega) | (simp; omega)); apply rfl) | ((with_reducible apply T.loadB); apply rfl; infer_instance; omega; apply rfl) | ((with_reducible apply T.pickT); apply rfl; apply rfl; apply rfl) | ((with_reducible apply T.pickF); apply rfl; apply rfl; apply rfl) | with_reducible refine Sr.nil ?_ | with_reducible refine S.seq ?_ | with_reducible refine S.reg ?_ | with_reducible refine S.skip ?_ | ((with_reducible apply T.ung); apply rfl) | ((with_reducible apply T.skip); apply rfl; apply rfl; apply rfl) | ((with_reducible apply S.condT); apply rfl) | ((with_reducible apply T.retW); apply rfl) | ((with_reducible apply S.condQ); apply rfl; all_goals (intro _; try (exfalso; omega))) | ((with_reducible apply T.gcase); apply rfl; apply rfl; all_goals (intro _; try (exfalso; omega))) | fail)
    all_goals exact ⟨H, by ((repeat (first | dsimp only [List.set_cons_zero] | dsimp only [List.set_cons_succ])); repeat' first | exact PSub.refl _ | exact PSub.nil | ((with_reducible apply PSub.take); (repeat' first | (with_reducible exact pick_hd) | (with_reducible apply pick_tl))) | (with_reducible apply PSub.drop) | ((apply PSub.take); (repeat' first | exact pick_hd | (apply pick_tl)))), rfl, rfl⟩
  obtain ⟨a2, b2⟩ := not_or.1 h2
  refine S.nilrow 85 2 ?_
  repeat' (first | ((with_reducible apply T.mv); apply rfl; apply rfl) | ((with_reducible apply T.asn); apply rfl; apply rfl) | ((with_reducible apply T.len); apply rfl; apply rfl) | ((with_reducible apply T.lss); apply rfl; apply rfl; apply rfl) | ((with_reducible apply T.gtr); apply rfl; apply rfl; apply rfl) | ((with_reducible apply T.eql); apply rfl; apply rfl; apply rfl) | ((with_reducible apply T.neq); apply rfl; apply rfl; apply rfl) | ((with_reducible apply T.ixC); apply rfl; infer_instance; omega; (first | omega | (simp only [List.length_map]; omega) | (simp; omega)); apply rfl) | ((with_reducible apply T.loadB); apply rfl; infer_instance; omega; apply rfl) | ((with_reducible apply T.pickF); apply rfl; apply rfl; apply rfl) | ((with_reducible apply T.buildL); apply rfl; apply rfl; apply rfl) | ((with_reducible apply T.box); apply rfl; apply rfl; intro nb) | with_reducible refine Sr.nil ?_ | with_reducible refine S.seq ?_ | with_reducible refine S.reg ?_ | with_reducible refine S.skip ?_ | ((with_reducible apply T.ung); apply rfl) | ((with_reducible apply S.condQ); apply rfl; all_goals (intro _; try (exfalso; omega))) | ((with_reducible apply T.gcase); apply rfl; apply rfl; all_goals (intro _; try (exfalso; omega))) | fail)
  revert nb
  intro pm
  have e1 : decide (((l.getD 2 0).toNat : Int) = 1) = decide ((l.getD 2 0).toNat = 1) := decide_eq_decide.2 (by omega)
  rw [e1]
  have hd3 := fun h => head3 (l := l) ⟨a2, b0, b1, by omega⟩ h
  have hd4 := fun a h h' => head4 (l := l) ⟨a, b0, b1, by omega⟩ h h'
  have hd5 := fun a h h' => head5 (l := l) ⟨a, b0, b1, by omega⟩ h h'
  clear h0 h1 h2 b0 b1
  generalize (l.getD 2 0).toNat = v2 at *
  by_cases h3a : l.length < 11
  · obtain ⟨rfl, rfl⟩ := fin (hd3 (.inl h3a))
    refine T.call rfl rfl (get_no (l := l) (at_ := 3) (size := 8) hl (by omega) (by omega) (by omega)) ?_
    rintro _ _ ⟨rfl, rfl⟩
    repeat' (first | ((with_reducible apply T.mv); apply rfl; apply rfl) | ((with_reducible apply T.asn); apply rfl; apply rfl) | ((with_reducible apply T.extract); apply rfl; apply rfl; apply rfl) | ((with_reducible apply T.notB); apply rfl; apply rfl) | ((with_reducible apply T.pickT); apply rfl; apply rfl; apply rfl) | with_reducible refine Sr.nil ?_ | with_reducible refine S.seq ?_ | with_reducible refine S.reg ?_ | ((with_reducible apply T.skip); apply rfl; apply rfl; apply rfl) | ((with_reducible apply T.skipU); apply rfl; apply rfl) | ((with_reducible apply S.condT); apply rfl) | ((with_reducible apply T.retW); apply rfl) | (with_reducible apply T.ofRet) | fail)
    exact ⟨H, by ((repeat (first | dsimp only [List.set_cons_zero] | dsimp only [List.set_cons_succ])); repeat' first | exact PSub.refl _ | exact PSub.nil | ((with_reducible apply PSub.take); (repeat' first | (with_reducible exact pick_hd) | (with_reducible apply pick_tl))) | (with_reducible apply PSub.drop) | ((apply PSub.take); (repeat' first | exact pick_hd | (apply pick_tl)))), rfl, rfl⟩
  have hv3 : beV ((l.drop 3).take 8) < 18446744073709551616 := bv8 l 3
  refine T.call rfl rfl (get_yes (l := l) (at_ := 3) (size := 8) hl (by omega) (by omega) (by omega)) ?_
  rintro _ _ ⟨rfl, rfl⟩
  generalize beV ((l.drop 3).take 8) = v3 at *
  by_cases h3 : ¬ v2 = 1 ∧ ¬ v3 = 0
  · obtain ⟨rfl, rfl⟩ := fin (hd3 (.inr h3))
    obtain ⟨h31, h32⟩ := h3
    rw [decide_eq_false h31]
    repeat' (first | ((with_reducible apply T.mv); apply rfl; apply rfl) | ((with_reducible apply T.asn); apply rfl; apply rfl) | ((with_reducible apply T.nilCheck); apply rfl; apply rfl) | ((with_reducible apply T.fieldAddrZ); apply rfl; apply rfl) | ((with_reducible apply T.load); apply rfl; apply rfl; infer_instance; apply rfl; apply rfl) | ((with_reducible apply T.neq); apply rfl; apply rfl; apply rfl) | ((with_reducible apply T.extract); apply rfl; apply rfl; apply rfl) | ((with_reducible apply T.notB); apply rfl; apply rfl) | ((with_reducible apply T.pickT); apply rfl; apply rfl; apply rfl) | ((with_reducible apply T.pickF); apply rfl; apply rfl; apply rfl) | with_reducible refine Sr.nil ?_ | with_reducible refine S.seq ?_ | with_reducible refine S.reg ?_ | ((with_reducible apply T.ung); apply rfl) | ((with_reducible apply T.retW); apply rfl) | (with_reducible apply T.ofRet) | ((with_reducible apply S.condQ); apply rfl; all_goals (intro _; try (exfalso; omega))) | fail)
    all_goals exact ⟨H, by ((repeat (first | dsimp only [List.set_cons_zero] | dsimp only [List.set_cons_succ])); repeat' first | exact PSub.refl _ | exact PSub.nil | ((with_reducible apply PSub.take); (repeat' first | (with_reducible exact pick_hd) | (with_reducible apply pick_tl))) | (with_reducible apply PSub.drop) | ((apply PSub.take); (repeat' first | exact pick_hd | (apply pick_tl)))), rfl, rfl⟩
  have h3' : v2 = 1 ∨ v3 = 0 := by omega
  repeat' (first | ((with_reducible apply T.mv); apply rfl; apply rfl) | ((with_reducible apply T.asn); apply rfl; apply rfl) | ((with_reducible apply T.extract); apply rfl; apply rfl; apply rfl) | with_reducible refine Sr.nil ?_ | (with_reducible apply T.ofRet) | fail)
  refine S.seq ?_
  refine S.cut (fun H' e' => H' = .blk pm (mdV none 0 0 (decide (v2 = 1)) 0) 81 :: .row none 0 85 2 0 [] :: H ∧ e' = [(0, .slice b l.length c), (5, .pointer (some ⟨pm, 0, none⟩)), (6, .int .u64 v3)]) ?_ ?_
  · intro k' hrest
    by_cases hh : v2 = 1
    · rw [decide_eq_true hh] at hrest ⊢
      repeat' (first | ((with_reducible apply T.mv); apply rfl; apply rfl) | ((with_reducible apply T.nilCheck); apply rfl; apply rfl) | ((with_reducible apply T.fieldAddrZ); apply rfl; apply rfl) | ((with_reducible apply T.load); apply rfl; apply rfl; infer_instance; apply rfl; apply rfl) | ((with_reducible apply T.notB); apply rfl; apply rfl) | ((with_reducible apply T.pickF); apply rfl; apply rfl; apply rfl) | with_reducible refine Sr.nil ?_ | with_reducible refine S.seq ?_ | with_reducible refine S.reg ?_ | with_reducible refine S.skip ?_ | ((with_reducible apply T.ung); apply rfl) | ((with_reducible apply T.skip); apply rfl; apply rfl; apply rfl) | ((with_reducible apply S.condF); apply rfl) | fail)
      exact hrest _ _ _ ⟨rfl, rfl⟩ (by repeat' first | exact trivial | refine And.intro rfl ?_)
    · rw [decide_eq_false hh] at hrest ⊢
      repeat' (first | ((with_reducible apply T.mv); apply rfl; apply rfl) | ((with_reducible apply T.nilCheck); apply rfl; apply rfl) | ((with_reducible apply T.fieldAddrZ); apply rfl; apply rfl) | ((with_reducible apply T.load); apply rfl; apply rfl; infer_instance; apply rfl; apply rfl) | ((with_reducible apply T.neq); apply rfl; apply rfl; apply rfl) | ((with_reducible apply T.notB); apply rfl; apply rfl) | ((with_reducible apply T.pickT); apply rfl; apply rfl; apply rfl) | ((with_reducible apply T.pickF); apply rfl; apply rfl; apply rfl) | with_reducible refine Sr.nil ?_ | with_reducible refine S.seq ?_ | with_reducible refine S.reg ?_ | with_reducible refine S.skip ?_ | ((with_reducible apply T.ung); apply rfl) | ((with_reducible apply S.condQ); apply rfl; all_goals (intro _; try (exfalso; omega))) | fail)
      exact hrest _ _ _ ⟨rfl, rfl⟩ (by repeat' first | exact trivial | refine And.intro rfl ?_)
  rintro _ _ ⟨rfl, rfl⟩
  repeat' (first | ((with_reducible apply T.mv); apply rfl; apply rfl) | with_reducible refine S.seq ?_ | with_reducible refine S.reg ?_ | fail)
  with_reducible apply T.conv
  apply rfl
  exact toI_wrap hv3
  apply rfl
  repeat' (first | ((with_reducible apply T.mv); apply rfl; apply rfl) | ((with_reducible apply T.nilCheck); apply rfl; apply rfl) | ((with_reducible apply T.fieldAddrZ); apply rfl; apply rfl) | ((with_reducible apply T.store); apply rfl; apply rfl; infer_instance; (first | decide | (simp; omega) | simp); apply rfl) | with_reducible refine Sr.nil ?_ | with_reducible refine S.seq ?_ | with_reducible refine S.reg ?_ | fail)
  by_cases h4a : l.length < 15
  · obtain ⟨rfl, rfl⟩ := fin (hd4 h3a h3' (.inl h4a))
    refine T.call rfl rfl (get_no (l := l) (at_ := 11) (size := 4) hl (by omega) (by omega) (by omega)) ?_
    rintro _ _ ⟨rfl, rfl⟩
    repeat' (first | ((with_reducible apply T.mv); apply rfl; apply rfl) | ((with_reducible apply T.asn); apply rfl; apply rfl) | ((with_reducible apply T.extract); apply rfl; apply rfl; apply rfl) | ((with_reducible apply T.notB); apply rfl; apply rfl) | ((with_reducible apply T.pickT); apply rfl; apply rfl; apply rfl) | with_reducible refine Sr.nil ?_ | with_reducible refine S.seq ?_ | with_reducible refine S.reg ?_ | ((with_reducible apply T.skip); apply rfl; apply rfl; apply rfl) | ((with_reducible apply T.skipU); apply rfl; apply rfl) | ((with_reducible apply S.condT); apply rfl) | ((with_reducible apply T.retW); apply rfl) | (with_reducible apply T.ofRet) | fail)
    exact ⟨H, by ((repeat (first | dsimp only [List.set_cons_zero] | dsimp only [List.set_cons_succ])); repeat' first | exact PSub.refl _ | exact PSub.nil | ((with_reducible apply PSub.take); (repeat' first | (with_reducible exact pick_hd) | (with_reducible apply pick_tl))) | (with_reducible apply PSub.drop) | ((apply PSub.take); (repeat' first | exact pick_hd | (apply pick_tl)))), rfl, rfl⟩
  refine T.call rfl rfl (get_yes (l := l) (at_ := 11) (size := 4) hl (by omega) (by omega) (by omega)) ?_
  rintro _ _ ⟨rfl, rfl⟩
  have hv4 : beV ((l.drop 11).take 4) < 4294967296 := by
    have h5 := beV_lt ((l.drop 11).take 4)
    have h6 : ((l.drop 11).take 4).length = 4 := by rw [List.length_take, List.length_drop]; omega
    rw [h6] at h5
    exact h5
  generalize beV ((l.drop 11).take 4) = v4 at *
  by_cases h4 : 4096 < v4 ∨ (¬ v2 = 1 ∧ ¬ v4 = 0)
  · obtain ⟨rfl, rfl⟩ := fin (hd4 h3a h3' (.inr h4))
    by_cases hh : v2 = 1
    · rw [decide_eq_true hh]
      repeat' (first | ((with_reducible apply T.mv); apply rfl; apply rfl) | ((with_reducible apply T.asn); apply rfl; apply rfl) | ((with_reducible apply T.gtr); apply rfl; apply rfl; apply rfl) | ((with_reducible apply T.extract); apply rfl; apply rfl; apply rfl) | ((with_reducible apply T.notB); apply rfl; apply rfl) | ((with_reducible apply T.pickT); apply rfl; apply rfl; apply rfl) | ((with_reducible apply T.pickF); apply rfl; apply rfl; apply rfl) | with_reducible refine Sr.nil ?_ | with_reducible refine S.seq ?_ | with_reducible refine S.reg ?_ | ((with_reducible apply T.ung); apply rfl) | ((with_reducible apply T.skip); apply rfl; apply rfl; apply rfl) | ((with_reducible apply T.skipU); apply rfl; apply rfl) | ((with_reducible apply S.condT); apply rfl) | ((with_reducible apply T.retW); apply rfl) | (with_reducible apply T.ofRet) | ((with_reducible apply T.gcase); apply rfl; apply rfl; all_goals (intro _; try (exfalso; omega))) | fail)
      all_goals exact ⟨H, by ((repeat (first | dsimp only [List.set_cons_zero] | dsimp only [List.set_cons_succ])); repeat' first | exact PSub.refl _ | exact PSub.nil | ((with_reducible apply PSub.take); (repeat' first | (with_reducible exact pick_hd) | (with_reducible apply pick_tl))) | (with_reducible apply PSub.drop) | ((apply PSub.take); (repeat' first | exact pick_hd | (apply pick_tl)))), rfl, rfl⟩
    · rw [decide_eq_false hh]
      repeat' (first | ((with_reducible apply T.mv); apply rfl; apply rfl) | ((with_reducible apply T.asn); apply rfl; apply rfl) | ((with_reducible apply T.nilCheck); apply rfl; apply rfl) | ((with_reducible apply T.fieldAddrZ); apply rfl; apply rfl) | ((with_reducible apply T.load); apply rfl; apply rfl; infer_instance; apply rfl; apply rfl) | ((with_reducible apply T.gtr); apply rfl; apply rfl; apply rfl) | ((with_reducible apply T.neq); apply rfl; apply rfl; apply rfl) | ((with_reducible apply T.extract); apply rfl; apply rfl; apply rfl) | ((with_reducible apply T.notB); apply rfl; apply rfl) | ((with_reducible apply T.pickT); apply rfl; apply rfl; apply rfl) | ((with_reducible apply T.pickF); apply rfl; apply rfl; apply rfl) | with_reducible refine Sr.nil ?_ | with_reducible refine S.seq ?_ | with_reducible refine S.reg ?_ | ((with_reducible apply T.ung); apply rfl) | ((with_reducible apply T.skip); apply rfl; apply rfl; apply rfl) | ((with_reducible apply T.skipU); apply rfl; apply rfl) | ((with_reducible apply S.condT); apply rfl) | ((with_reducible apply T.retW); apply rfl) | (with_reducible apply T.ofRet) | ((with_reducible apply S.condQ); apply rfl; all_goals (intro _; try (exfalso; omega))) | ((with_reducible apply T.gcase); apply rfl; apply rfl; all_goals (intro _; try (exfalso; omega))) | fail)
      all_goals exact ⟨H, by ((repeat (first | dsimp only [List.set_cons_zero] | dsimp only [List.set_cons_succ])); repeat' first | exact PSub.refl _ | exact PSub.nil | ((with_reducible apply PSub.take); (repeat' first | (with_reducible exact pick_hd) | (with_reducible apply pick_tl))) | (with_reducible apply PSub.drop) | ((apply PSub.take); (repeat' first | exact pick_hd | (apply pick_tl)))), rfl, rfl⟩
  have h4' : v4 ≤ 4096 ∧ (v2 = 1 ∨ v4 = 0) := by omega
  have hhd := hd5 h4a h3' h4'
  clear hd3 hd4 hd5
  repeat' (first | ((with_reducible apply T.mv); apply rfl; apply rfl) | ((with_reducible apply T.asn); apply rfl; apply rfl) | ((with_reducible apply T.extract); apply rfl; apply rfl; apply rfl) | with_reducible refine Sr.nil ?_ | (with_reducible apply T.ofRet) | fail)
  refine S.seq ?_
  refine S.cut (fun H' e' => H' = .blk pm (mdV none 0 0 (decide (v2 = 1)) (toI v3)) 81 :: .row none 0 85 2 0 [] :: H ∧ e' = [(0, .slice b l.length c), (5, .pointer (some ⟨pm, 0, none⟩)), (8, .int .u64 v4)]) ?_ ?_
  · intro k' hrest
    by_cases hh : v2 = 1
    · rw [decide_eq_true hh] at hrest ⊢
      repeat' (first | ((with_reducible apply T.mv); apply rfl; apply rfl) | ((with_reducible apply T.nilCheck); apply rfl; apply rfl) | ((with_reducible apply T.fieldAddrZ); apply rfl; apply rfl) | ((with_reducible apply T.load); apply rfl; apply rfl; infer_instance; apply rfl; apply rfl) | ((with_reducible apply T.gtr); apply rfl; apply rfl; apply rfl) | ((with_reducible apply T.notB); apply rfl; apply rfl) | ((with_reducible apply T.pickF); apply rfl; apply rfl; apply rfl) | with_reducible refine Sr.nil ?_ | with_reducible refine S.seq ?_ | with_reducible refine S.reg ?_ | with_reducible refine S.skip ?_ | ((with_reducible apply T.ung); apply rfl) | ((with_reducible apply T.skip); apply rfl; apply rfl; apply rfl) | ((with_reducible apply S.condF); apply rfl) | ((with_reducible apply T.gcase); apply rfl; apply rfl; all_goals (intro _; try (exfalso; omega))) | fail)
      exact hrest _ _ _ ⟨rfl, rfl⟩ (by repeat' first | exact trivial | refine And.intro rfl ?_)
    · rw [decide_eq_false hh] at hrest ⊢
      repeat' (first | ((with_reducible apply T.mv); apply rfl; apply rfl) | ((with_reducible apply T.nilCheck); apply rfl; apply rfl) | ((with_reducible apply T.fieldAddrZ); apply rfl; apply rfl) | ((with_reducible apply T.load); apply rfl; apply rfl; infer_instance; apply rfl; apply rfl) | ((with_reducible apply T.gtr); apply rfl; apply rfl; apply rfl) | ((with_reducible apply T.neq); apply rfl; apply rfl; apply rfl) | ((with_reducible apply T.notB); apply rfl; apply rfl) | ((with_reducible apply T.pickT); apply rfl; apply rfl; apply rfl) | ((with_reducible apply T.pickF); apply rfl; apply rfl; apply rfl) | with_reducible refine Sr.nil ?_ | with_reducible refine S.seq ?_ | with_reducible refine S.reg ?_ | with_reducible refine S.skip ?_ | ((with_reducible apply T.ung); apply rfl) | ((with_reducible apply S.condQ); apply rfl; all_goals (intro _; try (exfalso; omega))) | ((with_reducible apply T.gcase); apply rfl; apply rfl; all_goals (intro _; try (exfalso; omega))) | fail)
      exact hrest _ _ _ ⟨rfl, rfl⟩ (by repeat' first | exact trivial | refine And.intro rfl ?_)
  rintro _ _ ⟨rfl, rfl⟩
  repeat' (first | ((with_reducible apply T.asn); apply rfl; apply rfl) | with_reducible refine Sr.nil ?_ | with_reducible refine S.seq ?_ | with_reducible refine S.block ?_ | with_reducible refine S.reg ?_ | fail)
  generalize decide (v2 = 1) = hs at *
  generalize toI v3 = ck at *
  have hv44 : v4 ≤ 4096 := h4'.1
  generalize hX : entriesR l v4 true [] ⟨15, false⟩ ⟨hs, ck, []⟩ = X at *
  have hX0 : entriesR l (headR l).1 true [] (headR l).2.1 (headR l).2.2 = X := by rw [hhd]; exact hX
  clear hhd h4 h4' h3 h3' e1 hv3 hv4
  refine S.loopE 2 [0, 5, 8] (fun R b' μ H' e => ∃ (i p : Nat) (acc : Ents) (aa : Option Addr) (ac : Nat) (ahead : List UInt8), H' = .blk pm (mdV aa acc.length ac hs ck) 81 :: .row aa ac 85 2 acc.length (acc.flatMap enV) :: R ∧ e = (9, .int .i64 p) :: (10, .int .u64 i) :: b' ∧ (i ≤ v4 ∧ p ≤ l.length ∧ acc.length = i ∧ Rise acc ∧ (∀ q ∈ acc, q.1 ≤ ahead) ∧ (acc = [] ∨ ∃ q, acc.getLast? = some q ∧ q.1 = ahead) ∧ entriesR l (v4 - i) (decide (acc = [])) ahead ⟨p, false⟩ ⟨hs, ck, acc⟩ = X) ∧ μ = v4 - i) rfl rfl ?_ _ _ ⟨0, 15, [], none, 0, [], rfl, rfl, ⟨by omega, by omega, rfl, List.Pairwise.nil, fun q hq => absurd hq List.not_mem_nil, .inl rfl, hX⟩, rfl⟩ (by repeat' first | exact trivial | refine And.intro rfl ?_)
  rintro _ _ _ ⟨i, p, acc, aa, ac, ahead, rfl, rfl, ⟨hi, hp, hal, har, hah, hlast, hI⟩, rfl⟩ ih
  by_cases hlt : i < v4
  · rw [show v4 - i = (v4 - (i + 1)) + 1 by omega] at hI
    have hes := entry_stop (l := l) (p := p) (k := ⟨hs, ck, acc⟩) (first := decide (acc = [])) (ahead := ahead)
    obtain ⟨s1, s2, s3, s4⟩ := hes
    have stop : ∀ {q : Nat}, (entryR l ⟨p, false⟩ ⟨hs, ck, acc⟩ (decide (acc = [])) ahead).2.1 = ⟨q, true⟩ → o = none ∧ pl = q := fun {q} h => by
      obtain ⟨k2, h5⟩ := entriesR_stop (m := v4 - (i + 1)) h
      rw [hI] at h5
      exact fin (openM_bad2 (hX0.trans h5))
    repeat' (first | ((with_reducible apply T.mv); apply rfl; apply rfl) | ((with_reducible apply T.nilCheck); apply rfl; apply rfl) | ((with_reducible apply T.fieldAddrZ); apply rfl; apply rfl) | ((with_reducible apply T.load); apply rfl; apply rfl; infer_instance; apply rfl; apply rfl) | ((with_reducible apply T.lss); apply rfl; apply rfl; apply rfl) | with_reducible refine Sr.nil ?_ | with_reducible refine S.seq ?_ | with_reducible refine S.block ?_ | with_reducible refine S.reg ?_ | with_reducible refine S.skip ?_ | ((with_reducible apply S.condQ); apply rfl; all_goals (intro _; try (exfalso; omega))) | fail)
    refine T.call rfl rfl (entry_spec (l := l) (at_ := p) (clock := ck) hl hc hp) ?_
    rintro _ _ ⟨rfl, rfl⟩
    unfold refEntry
    by_cases hA : l.length < p + 2 ∨ 1024 < beV ((l.drop p).take 2)
    · obtain ⟨rfl, hpl⟩ := stop (s1 hA)
      have hpl' := hpl.symm
      subst hpl'
      by_cases hA1 : l.length < p + 2
      · rw [if_pos hA1]
        dsimp only
        repeat' (first | ((with_reducible apply T.mv); apply rfl; apply rfl) | ((with_reducible apply T.asn); apply rfl; apply rfl) | ((with_reducible apply T.gtr); apply rfl; apply rfl; apply rfl) | ((with_reducible apply T.addI); apply rfl; apply rfl; omega; apply rfl) | ((with_reducible apply T.extract); apply rfl; apply rfl; apply rfl) | ((with_reducible apply T.notB); apply rfl; apply rfl) | ((with_reducible apply T.storeW); apply rfl; apply rfl; infer_instance; (first | rfl | ((first | simp only [List.length_append] | simp only [List.length_map] | simp only [List.length_set] | simp only [List.length_replicate] | simp only [List.length_cons] | simp only [List.length_nil]); (repeat (first | simp only [List.length_append] | simp only [List.length_map] | simp only [List.length_set] | simp only [List.length_replicate] | simp only [List.length_cons] | simp only [List.length_nil])); first | done | omega)); (first | rfl | ((first | simp only [List.length_append] | simp only [List.length_map] | simp only [List.length_set] | simp only [List.length_replicate] | simp only [List.length_cons] | simp only [List.length_nil]); (repeat (first | simp only [List.length_append] | simp only [List.length_map] | simp only [List.length_set] | simp only [List.length_replicate] | simp only [List.length_cons] | simp only [List.length_nil])); first | done | omega)); (first | rfl | (repeat' first | apply all_nV | apply all_bV | apply all_iV | rfl | apply all_app))) | ((with_reducible apply T.alloc); apply rfl; intro nb) | with_reducible refine Sr.nil ?_ | with_reducible refine S.seq ?_ | with_reducible refine S.reg ?_ | with_reducible refine S.skip ?_ | ((with_reducible apply S.condT); apply rfl) | ((with_reducible apply T.retW); apply rfl) | (with_reducible apply T.ofRet) | ((with_reducible apply S.condQ); apply rfl; all_goals (intro _; try (exfalso; omega))) | fail)
        exact ⟨H, by ((repeat (first | dsimp only [List.set_cons_zero] | dsimp only [List.set_cons_succ])); repeat' first | exact PSub.refl _ | exact PSub.nil | ((with_reducible apply PSub.take); (repeat' first | (with_reducible exact pick_hd) | (with_reducible apply pick_tl))) | (with_reducible apply PSub.drop) | ((apply PSub.take); (repeat' first | exact pick_hd | (apply pick_tl)))), rfl, rfl⟩
      · rw [if_neg hA1, if_pos (hA.resolve_left hA1)]
        dsimp only
        repeat' (first | ((with_reducible apply T.mv); apply rfl; apply rfl) | ((with_reducible apply T.asn); apply rfl; apply rfl) | ((with_reducible apply T.gtr); apply rfl; apply rfl; apply rfl) | ((with_reducible apply T.addI); apply rfl; apply rfl; omega; apply rfl) | ((with_reducible apply T.extract); apply rfl; apply rfl; apply rfl) | ((with_reducible apply T.notB); apply rfl; apply rfl) | ((with_reducible apply T.storeW); apply rfl; apply rfl; infer_instance; (first | rfl | ((first | simp only [List.length_append] | simp only [List.length_map] | simp only [List.length_set] | simp only [List.length_replicate] | simp only [List.length_cons] | simp only [List.length_nil]); (repeat (first | simp only [List.length_append] | simp only [List.length_map] | simp only [List.length_set] | simp only [List.length_replicate] | simp only [List.length_cons] | simp only [List.length_nil])); first | done | omega)); (first | rfl | ((first | simp only [List.length_append] | simp only [List.length_map] | simp only [List.length_set] | simp only [List.length_replicate] | simp only [List.length_cons] | simp only [List.length_nil]); (repeat (first | simp only [List.length_append] | simp only [List.length_map] | simp only [List.length_set] | simp only [List.length_replicate] | simp only [List.length_cons] | simp only [List.length_nil])); first | done | omega)); (first | rfl | (repeat' first | apply all_nV | apply all_bV | apply all_iV | rfl | apply all_app))) | ((with_reducible apply T.alloc); apply rfl; intro nb) | with_reducible refine Sr.nil ?_ | with_reducible refine S.seq ?_ | with_reducible refine S.reg ?_ | with_reducible refine S.skip ?_ | ((with_reducible apply S.condT); apply rfl) | ((with_reducible apply T.retW); apply rfl) | (with_reducible apply T.ofRet) | ((with_reducible apply S.condQ); apply rfl; all_goals (intro _; try (exfalso; omega))) | fail)
        exact ⟨H, by ((repeat (first | dsimp only [List.set_cons_zero] | dsimp only [List.set_cons_succ])); repeat' first | exact PSub.refl _ | exact PSub.nil | ((with_reducible apply PSub.take); (repeat' first | (with_reducible exact pick_hd) | (with_reducible apply pick_tl))) | (with_reducible apply PSub.drop) | ((apply PSub.take); (repeat' first | exact pick_hd | (apply pick_tl)))), rfl, rfl⟩
    obtain ⟨hA1, hA2⟩ := not_or.1 hA
    rw [if_neg hA1, if_neg hA2]
    replace s2 := s2 hA1 hA2
    replace s3 := s3 hA1 hA2
    replace s4 := s4 hA1 hA2
    clear s1 hA
    generalize beV ((l.drop p).take 2) = n at *
    by_cases hB : l.length < p + 2 + n
    · obtain ⟨rfl, rfl⟩ := stop (s2 hB)
      rw [if_pos hB]
      dsimp only
      repeat' (first | ((with_reducible apply T.mv); apply rfl; apply rfl) | ((with_reducible apply T.asn); apply rfl; apply rfl) | ((with_reducible apply T.gtr); apply rfl; apply rfl; apply rfl) | ((with_reducible apply T.addI); apply rfl; apply rfl; omega; apply rfl) | ((with_reducible apply T.extract); apply rfl; apply rfl; apply rfl) | ((with_reducible apply T.notB); apply rfl; apply rfl) | ((with_reducible apply T.storeW); apply rfl; apply rfl; infer_instance; (first | rfl | ((first | simp only [List.length_append] | simp only [List.length_map] | simp only [List.length_set] | simp only [List.length_replicate] | simp only [List.length_cons] | simp only [List.length_nil]); (repeat (first | simp only [List.length_append] | simp only [List.length_map] | simp only [List.length_set] | simp only [List.length_replicate] | simp only [List.length_cons] | simp only [List.length_nil])); first | done | omega)); (first | rfl | ((first | simp only [List.length_append] | simp only [List.length_map] | simp only [List.length_set] | simp only [List.length_replicate] | simp only [List.length_cons] | simp only [List.length_nil]); (repeat (first | simp only [List.length_append] | simp only [List.length_map] | simp only [List.length_set] | simp only [List.length_replicate] | simp only [List.length_cons] | simp only [List.length_nil])); first | done | omega)); (first | rfl | (repeat' first | apply all_nV | apply all_bV | apply all_iV | rfl | apply all_app))) | ((with_reducible apply T.alloc); apply rfl; intro nb) | with_reducible refine Sr.nil ?_ | with_reducible refine S.seq ?_ | with_reducible refine S.reg ?_ | with_reducible refine S.skip ?_ | ((with_reducible apply S.condT); apply rfl) | ((with_reducible apply T.retW); apply rfl) | (with_reducible apply T.ofRet) | ((with_reducible apply S.condQ); apply rfl; all_goals (intro _; try (exfalso; omega))) | fail)
      exact ⟨H, by ((repeat (first | dsimp only [List.set_cons_zero] | dsimp only [List.set_cons_succ])); repeat' first | exact PSub.refl _ | exact PSub.nil | ((with_reducible apply PSub.take); (repeat' first | (with_reducible exact pick_hd) | (with_reducible apply pick_tl))) | (with_reducible apply PSub.drop) | ((apply PSub.take); (repeat' first | exact pick_hd | (apply pick_tl)))), rfl, rfl⟩
    rw [if_neg hB]
    replace s3 := s3 hB
    replace s4 := s4 hB
    clear s2
    generalize (l.drop (p + 2)).take n = name at *
    -- the answer of entry: the name, its number, whether it is one
    have hse : ∃ (z : Int) (okb : Bool), (if l.length < p + 2 + n + 8 then ((name, (0 : Int)), p + 2 + n + 8, false) else ((name, toI (beV ((l.drop (p + 2 + n)).take 8))), p + 2 + n + 8, decide (ck ≤ toI (beV ((l.drop (p + 2 + n)).take 8))))) = ((name, z), p + 2 + n + 8, okb) ∧
        ((decide (acc = []) || gtB name ahead) = true → okb = false → (entryR l ⟨p, false⟩ ⟨hs, ck, acc⟩ (decide (acc = [])) ahead).2.1 = ⟨p + 2 + n, true⟩) ∧
        ((decide (acc = []) || gtB name ahead) = true → okb = true → p + 2 + n + 8 ≤ l.length ∧ entryR l ⟨p, false⟩ ⟨hs, ck, acc⟩ (decide (acc = [])) ahead = (name, ⟨p + 2 + n + 8, false⟩, ⟨hs, ck, eput acc name z⟩)) := by
      by_cases h8 : l.length < p + 2 + n + 8
      · exact ⟨0, false, by rw [if_pos h8], fun hc _ => (s4 hc).1 h8, fun _ h => by cases h⟩
      · refine ⟨_, _, by rw [if_neg h8], fun hc h => (s4 hc).2.1 h8 (of_decide_eq_false h), fun hc h => ⟨by omega, (s4 hc).2.2 h8 (of_decide_eq_true h)⟩⟩
    obtain ⟨z, okb, hrw, hno, hyes⟩ := hse
    rw [hrw]
    clear hrw s4
    dsimp only
    have e7 : ((p + 2 + n + 8 : Nat) : Int) - 8 = ((p + 2 + n : Nat) : Int) := by omega
    repeat' (first | ((with_reducible apply T.mv); apply rfl; apply rfl) | ((with_reducible apply T.asn); apply rfl; apply rfl) | ((with_reducible apply T.gtr); apply rfl; apply rfl; apply rfl) | ((with_reducible apply T.addI); apply rfl; apply rfl; omega; apply rfl) | ((with_reducible apply T.extract); apply rfl; apply rfl; apply rfl) | ((with_reducible apply T.storeW); apply rfl; apply rfl; infer_instance; (first | rfl | ((first | simp only [List.length_append] | simp only [List.length_map] | simp only [List.length_set] | simp only [List.length_replicate] | simp only [List.length_cons] | simp only [List.length_nil]); (repeat (first | simp only [List.length_append] | simp only [List.length_map] | simp only [List.length_set] | simp only [List.length_replicate] | simp only [List.length_cons] | simp only [List.length_nil])); first | done | omega)); (first | rfl | ((first | simp only [List.length_append] | simp only [List.length_map] | simp only [List.length_set] | simp only [List.length_replicate] | simp only [List.length_cons] | simp only [List.length_nil]); (repeat (first | simp only [List.length_append] | simp only [List.length_map] | simp only [List.length_set] | simp only [List.length_replicate] | simp only [List.length_cons] | simp only [List.length_nil])); first | done | omega)); (first | rfl | (repeat' first | apply all_nV | apply all_bV | apply all_iV | rfl | apply all_app))) | ((with_reducible apply T.alloc); apply rfl; intro nb) | with_reducible refine Sr.nil ?_ | with_reducible refine S.seq ?_ | with_reducible refine S.reg ?_ | (with_reducible apply T.ofRet) | fail)
    refine S.cut (fun H' e' => (decide (acc = []) || gtB name ahead) = true ∧ H' = .blk nb (enV (name, z)) 85 :: .blk pm (mdV aa acc.length ac hs ck) 81 :: .row aa ac 85 2 acc.length (acc.flatMap enV) :: H ∧ e' = [(14, .int .i64 (p + 2 + n : Nat)), (0, .slice b l.length c), (5, .pointer (some ⟨pm, 0, none⟩)), (8, .int .u64 v4), (9, .int .i64 p), (10, .int .u64 i), (11, .pointer (some ⟨nb, 0, none⟩)), (12, .int .i64 (p + 2 + n + 8 : Nat)), (13, .bool okb)]) ?_ ?_
    · intro k' hrest
      refine S.condP rfl (fun _ => ?_) (fun h => absurd h (by omega))
      by_cases hacc : acc = []
      · subst hacc
        repeat' (first | ((with_reducible apply T.subI (n := 8)); apply rfl; apply rfl; omega; apply rfl; rw [e7]) | ((with_reducible apply T.mv); apply rfl; apply rfl) | ((with_reducible apply T.asn); apply rfl; apply rfl) | ((with_reducible apply T.len); apply rfl; apply rfl) | ((with_reducible apply T.nilCheck); apply rfl; apply rfl) | ((with_reducible apply T.fieldAddrZ); apply rfl; apply rfl) | ((with_reducible apply T.load); apply rfl; apply rfl; infer_instance; apply rfl; apply rfl) | ((with_reducible apply T.gtr); apply rfl; apply rfl; apply rfl) | ((with_reducible apply T.pickF); apply rfl; apply rfl; apply rfl) | with_reducible refine Sr.nil ?_ | with_reducible refine S.seq ?_ | with_reducible refine S.reg ?_ | with_reducible refine S.skip ?_ | ((with_reducible apply S.quiet); apply rfl; kernel_rfl) | ((with_reducible apply T.skip); apply rfl; apply rfl; apply rfl) | ((with_reducible apply S.condF); apply rfl) | fail)
        exact hrest _ _ _ ⟨rfl, rfl, rfl⟩ (by repeat' first | exact trivial | refine And.intro rfl ?_)
      · have hpos : 0 < acc.length := List.length_pos_iff.2 hacc
        obtain ⟨q, hq1, hq2⟩ := hlast.resolve_left hacc
        have hql : acc.getD (acc.length - 1) default = q := by
          rw [List.getLast?_eq_getElem?] at hq1
          rw [List.getD_eq_getElem?_getD, hq1]
          rfl
        have hqa : (acc.getD (acc.length - 1) default).1 = ahead := by rw [hql]; exact hq2
        have e8 : (acc.length : Int) - 1 = ((acc.length - 1 : Nat) : Int) := by omega
        by_cases hgt : gtB name ahead = true
        · have hle : (Op.bytesLess name (acc.getD (acc.length - 1) default).1 || decide (name = (acc.getD (acc.length - 1) default).1)) = false := by
            rw [hqa]
            unfold gtB at hgt
            simpa using hgt
          repeat' (first | ((with_reducible apply T.subI (n := 8)); apply rfl; apply rfl; omega; apply rfl; rw [e7]) | ((with_reducible apply T.subI (n := 1)); apply rfl; apply rfl; omega; apply rfl; rw [e8]) | ((with_reducible apply T.sleq); apply rfl; apply rfl; apply rfl; rw [hle]) | ((with_reducible apply T.mv); apply rfl; apply rfl) | ((with_reducible apply T.asn); apply rfl; apply rfl) | ((with_reducible apply T.len); apply rfl; apply rfl) | ((with_reducible apply T.nilCheck); apply rfl; apply rfl) | ((with_reducible apply T.fieldAddrZ); apply rfl; apply rfl) | ((with_reducible apply T.load); apply rfl; apply rfl; infer_instance; apply rfl; apply rfl) | ((with_reducible apply T.gtr); apply rfl; apply rfl; apply rfl) | ((with_reducible apply T.ixF); apply rfl; apply rfl; infer_instance; exact (fun _ => rfl); apply rfl; omega; omega; apply rfl) | ((with_reducible apply T.fieldAddrF); apply rfl; infer_instance; exact (fun _ => rfl); apply rfl; omega; apply rfl) | ((with_reducible apply T.loadF); apply rfl; apply rfl; infer_instance; exact (fun _ => rfl); apply rfl; exact getD_some (by omega); apply rfl; apply rfl) | ((with_reducible apply T.pickT); apply rfl; apply rfl; apply rfl) | with_reducible refine Sr.nil ?_ | with_reducible refine S.seq ?_ | with_reducible refine S.reg ?_ | with_reducible refine S.skip ?_ | ((with_reducible apply S.quiet); apply rfl; kernel_rfl) | ((with_reducible apply T.ung); apply rfl) | ((with_reducible apply S.condF); apply rfl) | ((with_reducible apply T.gcase); apply rfl; apply rfl; all_goals (intro _; try (exfalso; omega))) | fail)
          exact hrest _ _ _ ⟨by rw [hgt, Bool.or_true], rfl, rfl⟩ (by repeat' first | exact trivial | refine And.intro rfl ?_)
        · have hle : (Op.bytesLess name (acc.getD (acc.length - 1) default).1 || decide (name = (acc.getD (acc.length - 1) default).1)) = true := by
            have h9 : gtB name ahead = false := by simpa using hgt
            rw [hqa]
            unfold gtB at h9
            generalize (Op.bytesLess name ahead || decide (name = ahead)) = bb at h9 ⊢
            cases bb with
            | true => rfl
            | false => cases h9
          obtain ⟨rfl, rfl⟩ := stop (s3 (by rw [decide_eq_false hacc, Bool.false_or]; simpa using hgt))
          repeat' (first | ((with_reducible apply T.subI (n := 1)); apply rfl; apply rfl; omega; apply rfl; rw [e8]) | ((with_reducible apply T.sleq); apply rfl; apply rfl; apply rfl; rw [hle]) | ((with_reducible apply T.mv); apply rfl; apply rfl) | ((with_reducible apply T.asn); apply rfl; apply rfl) | ((with_reducible apply T.len); apply rfl; apply rfl) | ((with_reducible apply T.nilCheck); apply rfl; apply rfl) | ((with_reducible apply T.fieldAddrZ); apply rfl; apply rfl) | ((with_reducible apply T.load); apply rfl; apply rfl; infer_instance; apply rfl; apply rfl) | ((with_reducible apply T.gtr); apply rfl; apply rfl; apply rfl) | ((with_reducible apply T.addI); apply rfl; apply rfl; omega; apply rfl) | ((with_reducible apply T.ixF); apply rfl; apply rfl; infer_instance; exact (fun _ => rfl); apply rfl; omega; omega; apply rfl) | ((with_reducible apply T.fieldAddrF); apply rfl; infer_instance; exact (fun _ => rfl); apply rfl; omega; apply rfl) | ((with_reducible apply T.loadF); apply rfl; apply rfl; infer_instance; exact (fun _ => rfl); apply rfl; exact getD_some (by omega); apply rfl; apply rfl) | ((with_reducible apply T.pickT); apply rfl; apply rfl; apply rfl) | with_reducible refine Sr.nil ?_ | with_reducible refine S.seq ?_ | with_reducible refine S.reg ?_ | ((with_reducible apply S.quiet); apply rfl; kernel_rfl) | ((with_reducible apply T.ung); apply rfl) | ((with_reducible apply S.condT); apply rfl) | ((with_reducible apply T.retW); apply rfl) | ((with_reducible apply T.gcase); apply rfl; apply rfl; all_goals (intro _; try (exfalso; omega))) | fail)
          exact ⟨H, by ((repeat (first | dsimp only [List.set_cons_zero] | dsimp only [List.set_cons_succ])); repeat' first | exact PSub.refl _ | exact PSub.nil | ((with_reducible apply PSub.take); (repeat' first | (with_reducible exact pick_hd) | (with_reducible apply pick_tl))) | (with_reducible apply PSub.drop) | ((apply PSub.take); (repeat' first | exact pick_hd | (apply pick_tl)))), rfl, rfl⟩
    rintro _ _ ⟨hcmp, rfl, rfl⟩
    replace hno := hno hcmp
    replace hyes := hyes hcmp
    cases okb with
    | false =>
      obtain ⟨rfl, rfl⟩ := stop (hno rfl)
      repeat' (first | ((with_reducible apply T.mv); apply rfl; apply rfl) | ((with_reducible apply T.asn); apply rfl; apply rfl) | ((with_reducible apply T.notB); apply rfl; apply rfl) | with_reducible refine Sr.nil ?_ | with_reducible refine S.seq ?_ | with_reducible refine S.reg ?_ | ((with_reducible apply S.condT); apply rfl) | ((with_reducible apply T.retW); apply rfl) | fail)
      exact ⟨H, by ((repeat (first | dsimp only [List.set_cons_zero] | dsimp only [List.set_cons_succ])); repeat' first | exact PSub.refl _ | exact PSub.nil | ((with_reducible apply PSub.take); (repeat' first | (with_reducible exact pick_hd) | (with_reducible apply pick_tl))) | (with_reducible apply PSub.drop) | ((apply PSub.take); (repeat' first | exact pick_hd | (apply pick_tl)))), rfl, rfl⟩
    | true =>
      obtain ⟨hpl8, hent⟩ := hyes rfl
      have hltn : ∀ q ∈ acc, q.1 < name := fun q hq => by
        rw [Bool.or_eq_true, decide_eq_true_eq, gtB_eq, decide_eq_true_eq] at hcmp
        rcases hcmp with h | h
        · rw [h] at hq; cases hq
        · exact List.lt_of_le_of_lt (hah q hq) h
      rw [entriesR, if_neg (by simp), hent, eput_last hltn] at hI
      dsimp only at hI
      have hlen1 : acc.length + 1 = (acc ++ [(name, z)]).length := by simp
      have hr2 : Rise (acc ++ [(name, z)]) := List.pairwise_append.2 ⟨har, List.pairwise_singleton _ _, fun q hq x hx => by
        rw [List.mem_singleton] at hx
        subst hx
        exact hltn q hq⟩
      have hah2 : ∀ q ∈ acc ++ [(name, z)], q.1 ≤ name := fun q hq => by
        rcases List.mem_append.1 hq with hq | hq
        · exact List.le_of_lt (hltn q hq)
        · rw [List.mem_singleton] at hq
          subst hq
          exact List.le_refl _
      have hI2 : entriesR l (v4 - (i + 1)) (decide (acc ++ [(name, z)] = [])) name ⟨p + 2 + n + 8, false⟩ ⟨hs, ck, acc ++ [(name, z)]⟩ = X := by
        rw [decide_eq_false (by simp)]
        exact hI
      skip
      refine S.seq ?_
      refine S.seq ?_
      repeat' (first | ((with_reducible apply T.mv); apply rfl; apply rfl) | ((with_reducible apply T.notB); apply rfl; apply rfl) | with_reducible refine Sr.nil ?_ | with_reducible refine S.reg ?_ | with_reducible refine S.skip ?_ | ((with_reducible apply S.condF); apply rfl) | fail)
      refine S.seq ?_
      ((with_reducible apply S.draw); (case Hs => exact .blk nb (enV (name, z)) 85 :: []); (case es => exact  [4, 6, 7, 10]); (case n => exact  11); (case hn => rfl))
      repeat' (first | (refine T.appendF (g := enV) (name, z) rfl rfl rfl inferInstance (fun _ => rfl) rfl rfl rfl (by constructor <;> omega) rfl ?_; intro na nc) | ((with_reducible apply T.mv); apply rfl; apply rfl) | ((with_reducible apply T.asn); apply rfl; apply rfl) | ((with_reducible apply T.nilCheck); apply rfl; apply rfl) | ((with_reducible apply T.fieldAddrZ); apply rfl; apply rfl) | ((with_reducible apply T.load); apply rfl; apply rfl; infer_instance; apply rfl; apply rfl) | ((with_reducible apply T.loadW); apply rfl; apply rfl; infer_instance; (first | rfl | ((first | simp only [List.length_append] | simp only [List.length_map] | simp only [List.length_set] | simp only [List.length_replicate] | simp only [List.length_cons] | simp only [List.length_nil]); (repeat (first | simp only [List.length_append] | simp only [List.length_map] | simp only [List.length_set] | simp only [List.length_replicate] | simp only [List.length_cons] | simp only [List.length_nil])); first | done | omega)); apply rfl) | ((with_reducible apply T.store); apply rfl; apply rfl; infer_instance; (first | decide | (simp; omega) | simp); apply rfl) | ((with_reducible apply T.bsL); apply rfl; apply rfl; apply rfl; apply rfl; apply rfl; intro nb) | with_reducible refine Sr.nil ?_ | with_reducible refine S.reg ?_ | with_reducible refine S.inBlock ?_ | ((with_reducible apply SA.qsn); apply rfl; apply rfl; apply rfl; kernel_rfl; (first | exact fun _ h => h | exact fun _ h => St.psub h (by ((repeat (first | dsimp only [List.set_cons_zero] | dsimp only [List.set_cons_succ])); repeat' first | exact PSub.refl _ | exact PSub.nil | ((with_reducible apply PSub.take); (repeat' first | (with_reducible exact pick_hd) | (with_reducible apply pick_tl))) | (with_reducible apply PSub.drop) | ((apply PSub.take); (repeat' first | exact pick_hd | (apply pick_tl))))))) | ((with_reducible apply SA.en); apply rfl; apply rfl; kernel_rfl) | ((with_reducible apply SA.e2); apply rfl; apply rfl; apply rfl; kernel_rfl) | ((with_reducible apply SA.done); apply rfl; kernel_rfl) | ((with_reducible apply SK.intro); (first | exact fun _ h => h | exact fun _ h => St.psub h (by ((repeat (first | dsimp only [List.set_cons_zero] | dsimp only [List.set_cons_succ])); repeat' first | exact PSub.refl _ | exact PSub.nil | ((with_reducible apply PSub.take); (repeat' first | (with_reducible exact pick_hd) | (with_reducible apply pick_tl))) | (with_reducible apply PSub.drop) | ((apply PSub.take); (repeat' first | exact pick_hd | (apply pick_tl))))))) | fail)
      all_goals (repeat' (first | ((with_reducible apply T.addU64N (n := 1)); apply rfl; apply rfl; omega; apply rfl) | ((with_reducible apply T.asn); apply rfl; apply rfl) | with_reducible refine Sr.nil ?_ | fail))
      all_goals (rw [hlen1])
      all_goals exact S.sublist (ih _ _ _ _ ⟨i + 1, p + 2 + n + 8, acc ++ [(name, z)], na, nc, name, rfl, rfl, ⟨by omega, hpl8, by rw [← hlen1, hal], hr2, hah2, .inr ⟨(name, z), by simp, rfl⟩, hI2⟩, rfl⟩ (by omega) (by repeat' first | exact trivial | refine And.intro rfl ?_)) (by ((repeat (first | dsimp only [List.set_cons_zero] | dsimp only [List.set_cons_succ])); repeat' first | exact PSub.refl _ | exact PSub.nil | ((with_reducible apply PSub.take); (repeat' first | (with_reducible exact pick_hd) | (with_reducible apply pick_tl))) | (with_reducible apply PSub.drop) | ((apply PSub.take); (repeat' first | exact pick_hd | (apply pick_tl)))))
  · obtain rfl : i = v4 := by omega
    rw [Nat.sub_self] at hI
    have hXe : (⟨p, false⟩, ⟨hs, ck, acc⟩) = X := hI
    subst hXe
    clear ih hlt
    repeat' (first | ((with_reducible apply T.mv); apply rfl; apply rfl) | ((with_reducible apply T.lss); apply rfl; apply rfl; apply rfl) | with_reducible refine Sr.nil ?_ | with_reducible refine S.seq ?_ | with_reducible refine S.reg ?_ | ((with_reducible apply S.exit); apply rfl) | ((with_reducible apply S.condQ); apply rfl; all_goals (intro _; try (exfalso; omega))) | fail)
    by_cases hT : l.length < p + 8
    · obtain ⟨rfl, rfl⟩ := fin (tail_no hX0 (.inl hT))
      refine T.call rfl rfl (get_no (l := l) (size := 8) hl hp (by omega) hT) ?_
      rintro _ _ ⟨rfl, rfl⟩
      repeat' (first | ((with_reducible apply T.mv); apply rfl; apply rfl) | ((with_reducible apply T.asn); apply rfl; apply rfl) | ((with_reducible apply T.extract); apply rfl; apply rfl; apply rfl) | ((with_reducible apply T.notB); apply rfl; apply rfl) | ((with_reducible apply T.pickT); apply rfl; apply rfl; apply rfl) | with_reducible refine Sr.nil ?_ | with_reducible refine S.seq ?_ | with_reducible refine S.reg ?_ | ((with_reducible apply T.skip); apply rfl; apply rfl; apply rfl) | ((with_reducible apply S.condT); apply rfl) | ((with_reducible apply T.retW); apply rfl) | (with_reducible apply T.ofRet) | fail)
      exact ⟨H, by ((repeat (first | dsimp only [List.set_cons_zero] | dsimp only [List.set_cons_succ])); repeat' first | exact PSub.refl _ | exact PSub.nil | ((with_reducible apply PSub.take); (repeat' first | (with_reducible exact pick_hd) | (with_reducible apply pick_tl))) | (with_reducible apply PSub.drop) | ((apply PSub.take); (repeat' first | exact pick_hd | (apply pick_tl)))), rfl, rfl⟩
    have hv8 : beV ((l.drop p).take 8) < 18446744073709551616 := bv8 l p
    refine T.call rfl rfl (get_yes (l := l) (size := 8) hl hp (by omega) hT) ?_
    rintro _ _ ⟨rfl, rfl⟩
    by_cases hS : beV ((l.drop p).take 8) = fnv (l.take p)
    · have htl := tail_yes hX0 hT hS
      rw [hE] at htl
      generalize beV ((l.drop p).take 8) = v8 at *
      generalize hff : fnv (l.take p) = ff at *
      subst hS
      repeat' (first | ((with_reducible apply T.mv); apply rfl; apply rfl) | ((with_reducible apply T.asn); apply rfl; apply rfl) | ((with_reducible apply T.extract); apply rfl; apply rfl; apply rfl) | ((with_reducible apply T.notB); apply rfl; apply rfl) | ((with_reducible apply T.sliceHK); apply rfl; apply rfl; omega; apply rfl) | with_reducible refine Sr.nil ?_ | with_reducible refine S.seq ?_ | with_reducible refine S.reg ?_ | ((with_reducible apply T.ung); apply rfl) | (with_reducible apply T.ofRet) | fail)
      refine T.call rfl rfl (sumF_spec (l := l) hp hl) ?_
      rintro _ _ ⟨rfl, rfl⟩
      rw [hff]
      have e9 : (p : Int) + 8 = ((p + 8 : Nat) : Int) := by omega
      by_cases hL : p + 8 < l.length
      · rw [if_pos hL, Prod.mk.injEq] at htl
        obtain ⟨rfl, rfl⟩ := htl
        repeat' (first | ((with_reducible apply T.mv); apply rfl; apply rfl) | ((with_reducible apply T.asn); apply rfl; apply rfl) | ((with_reducible apply T.len); apply rfl; apply rfl) | ((with_reducible apply T.lss); apply rfl; apply rfl; apply rfl) | ((with_reducible apply T.neq); apply rfl; apply rfl; apply rfl) | ((with_reducible apply T.addI); apply rfl; apply rfl; omega; apply rfl) | ((with_reducible apply T.pickF); apply rfl; apply rfl; apply rfl) | with_reducible refine Sr.nil ?_ | with_reducible refine S.seq ?_ | with_reducible refine S.reg ?_ | with_reducible refine S.skip ?_ | ((with_reducible apply T.ung); apply rfl) | ((with_reducible apply T.retW); apply rfl) | (with_reducible apply T.ofRet) | ((with_reducible apply S.condQ); apply rfl; all_goals (intro _; try (exfalso; omega))) | fail)
        rw [e9]
        exact ⟨H, by ((repeat (first | dsimp only [List.set_cons_zero] | dsimp only [List.set_cons_succ])); repeat' first | exact PSub.refl _ | exact PSub.nil | ((with_reducible apply PSub.take); (repeat' first | (with_reducible exact pick_hd) | (with_reducible apply pick_tl))) | (with_reducible apply PSub.drop) | ((apply PSub.take); (repeat' first | exact pick_hd | (apply pick_tl)))), rfl, rfl⟩
      · rw [if_neg hL, Prod.mk.injEq] at htl
        obtain ⟨rfl, rfl⟩ := htl
        repeat' (first | ((with_reducible apply T.mv); apply rfl; apply rfl) | ((with_reducible apply T.asn); apply rfl; apply rfl) | ((with_reducible apply T.len); apply rfl; apply rfl) | ((with_reducible apply T.lss); apply rfl; apply rfl; apply rfl) | ((with_reducible apply T.neq); apply rfl; apply rfl; apply rfl) | ((with_reducible apply T.addI); apply rfl; apply rfl; omega; apply rfl) | ((with_reducible apply T.pickF); apply rfl; apply rfl; apply rfl) | with_reducible refine Sr.nil ?_ | with_reducible refine S.seq ?_ | with_reducible refine S.reg ?_ | with_reducible refine S.skip ?_ | ((with_reducible apply T.ung); apply rfl) | ((with_reducible apply T.retW); apply rfl) | (with_reducible apply T.ofRet) | ((with_reducible apply S.condQ); apply rfl; all_goals (intro _; try (exfalso; omega))) | fail)
        exact ⟨_, PSub.refl _, pm, aa, ac, rfl, rfl⟩
    · obtain ⟨rfl, hpl⟩ := fin (tail_no hX0 (.inr hS))
      have hpl' := hpl.symm
      subst hpl'
      generalize beV ((l.drop p).take 8) = v8 at *
      repeat' (first | ((with_reducible apply T.mv); apply rfl; apply rfl) | ((with_reducible apply T.asn); apply rfl; apply rfl) | ((with_reducible apply T.extract); apply rfl; apply rfl; apply rfl) | ((with_reducible apply T.notB); apply rfl; apply rfl) | ((with_reducible apply T.sliceHK); apply rfl; apply rfl; omega; apply rfl) | with_reducible refine Sr.nil ?_ | with_reducible refine S.seq ?_ | with_reducible refine S.reg ?_ | ((with_reducible apply T.ung); apply rfl) | (with_reducible apply T.ofRet) | fail)
      refine T.call rfl rfl (sumF_spec (l := l) hp hl) ?_
      rintro _ _ ⟨rfl, rfl⟩
      generalize fnv (l.take p) = ff at *
      repeat' (first | ((with_reducible apply T.mv); apply rfl; apply rfl) | ((with_reducible apply T.asn); apply rfl; apply rfl) | ((with_reducible apply T.neq); apply rfl; apply rfl; apply rfl) | ((with_reducible apply T.pickF); apply rfl; apply rfl; apply rfl) | with_reducible refine Sr.nil ?_ | with_reducible refine S.seq ?_ | with_reducible refine S.reg ?_ | ((with_reducible apply T.ung); apply rfl) | ((with_reducible apply T.retW); apply rfl) | (with_reducible apply T.ofRet) | ((with_reducible apply S.condQ); apply rfl; all_goals (intro _; try (exfalso; omega))) | fail)
      exact ⟨H, by ((repeat (first | dsimp only [List.set_cons_zero] | dsimp only [List.set_cons_succ])); repeat' first | exact PSub.refl _ | exact PSub.nil | ((with_reducible apply PSub.take); (repeat' first | (with_reducible exact pick_hd) | (with_reducible apply pick_tl))) | (with_reducible apply PSub.drop) | ((apply PSub.take); (repeat' first | exact pick_hd | (apply pick_tl)))), rfl, rfl⟩
end Go.Proofs.Ytcojlgkfkifhmaa
