/- Texts put together by a program: DecB DecC JsnG Row JsnH JsnI JsnJ JsnL MapE JsnN JsnO JsnV JsnW JsnX JsnY RowN Tree TreeB TreeC TreeD NodA ShpP TreeE SplP Bld. -/
import Derived.Test.YtnimcchalinihaaDoorMa
import Derived.Test.YtnimcchalinihaaDoorMore
import Derived.Lib.ValidU
import Derived.Lib.Builder
import Derived.Lib.MakeNoZero
import Derived.Lib.UnsafeStr
import Derived.Laws.Externs
import Derived.Laws.CopyRow
/- The walks of the program's numbers: read. -/
namespace Go.Proofs.YtnimcchalinihaaDoor
open Sg Go.IntWalk
set_option maxRecDepth 100000
set_option maxHeartbeats 4000000
section
variable {F : World} {M : List Nat} {H : List Res}
/-- A number's cells. -/
abbrev numV (mi : Bool) (w d : List UInt8) (pt : Int) (pl dn : Bool) (ex : List UInt8) : List Value := [.bool mi, sV w, sV d, .int .i64 pt, .bool pl, .bool dn, sV ex]
theorem len_nil {s : List UInt8} (h : s.length = 0) : s = [] := List.length_eq_zero_iff.1 h
theorem expP_yes {s : List UInt8} (h : s.getD 0 0 ||| 32 = 101) : expP s = if signP (s.drop 1) = [] ∨ runD (signP (s.drop 1)) ≠ (signP (s.drop 1)).length then none else some ([], false) := by
  cases s with
  | nil => exact absurd h (by decide)
  | cons x r =>
    have h1 := (or32_iff x).1 h
    unfold expP
    simp only [h1, if_true]
    rfl
theorem expP_no {s : List UInt8} (h : ¬ s.getD 0 0 ||| 32 = 101) : expP s = some (s, true) := by
  cases s with
  | nil => rfl
  | cons x r =>
    have h1 : ¬ (x = 101 ∨ x = 69) := fun h2 => h ((or32_iff x).2 h2)
    unfold expP
    simp only [h1, if_false]
theorem signP_yes {s : List UInt8} (h : (s.getD 0 0).toNat = 43 ∨ (s.getD 0 0).toNat = 45) : signP s = s.drop 1 := by
  cases s with
  | nil => rfl
  | cons x r =>
    have h1 : x = 43 ∨ x = 45 := h.imp (fun h => UInt8.toNat_inj.1 h) (fun h => UInt8.toNat_inj.1 h)
    unfold signP
    simp only [h1, if_true]
    rfl
theorem signP_no {s : List UInt8} (h : ¬ ((s.getD 0 0).toNat = 43 ∨ (s.getD 0 0).toNat = 45)) : signP s = s := by
  cases s with
  | nil => rfl
  | cons x r =>
    have h1 : ¬ (x = 43 ∨ x = 45) := fun h2 => h (h2.imp (fun h => by rw [List.getD_cons_zero, h]; rfl) (fun h => by rw [List.getD_cons_zero, h]; rfl))
    unfold signP
    simp only [h1, if_false]
theorem read_spec {t : List UInt8} (hl : t.length ≤ 1100000) : Meets Tryd.prog 108 [sV t, .int .i64 0] F M H (fun e H' => ∃ (mi : Bool) (w d : List UInt8) (pt : Int) (pl dn : Bool) (ex : List UInt8), e = .returned (.tuple ⟨[.agg ⟨numV mi w d pt pl dn ex⟩, .bool (numP t).isSome]⟩) ∧ H' = H ∧ ∀ x, numP t = some x → x = (mi, w, pl)) := by
  refine Meets.enter Tryd.func108 rfl rfl ?_
  have hc1 := cutP_len 45 t
  have hN : numP t = if intBad (cutP 45 t).1 = true then none else
      match fracP ((cutP 45 t).1.drop (runD (cutP 45 t).1)) with
      | none => none
      | some (s3, p1) => match expP s3 with
        | none => none
        | some (s6, p2) => if s6 = [] then some ((cutP 45 t).2, (cutP 45 t).1.take (runD (cutP 45 t).1), p1 && p2) else none := rfl
  generalize numP t = np at *
  refine S.seq ?_
  repeat' (first | (apply T.asn; apply rfl; apply rfl) | (apply T.alloc; apply rfl; intro nb) | with_reducible refine Sr.nil ?_ | with_reducible refine S.reg ?_ | fail)
  revert nb
  intro b4
  refine S.seq ?_
  repeat' (first | (apply T.buildL; apply rfl; apply rfl; apply rfl) | (apply T.storeW; apply rfl; apply rfl; infer_instance; (first | rfl | (simp only [List.length_append, List.length_map, List.length_set, List.length_replicate, List.length_cons, List.length_nil]; first | done | omega)); (first | rfl | (simp only [List.length_append, List.length_map, List.length_set, List.length_replicate, List.length_cons, List.length_nil]; first | done | omega)); (first | rfl | (repeat' first | apply all_nV | apply all_bV | apply all_iV | rfl | apply all_app))) | (apply T.alloc; apply rfl; intro nb) | with_reducible refine Sr.nil ?_ | with_reducible refine S.reg ?_ | fail)
  revert nb
  intro b6
  refine S.seq ?_
  repeat' (first | (apply T.asn; apply rfl; apply rfl) | with_reducible refine Sr.nil ?_ | with_reducible refine S.reg ?_ | fail)
  refine S.seq ?_
  refine S.seq ?_
  repeat' (first | (apply T.mv; apply rfl; apply rfl) | with_reducible refine Sr.nil ?_ | with_reducible refine S.reg ?_ | fail)
  refine S.cut (fun H' e' => ∃ (mi : Bool) (w s6 bh : List UInt8) (pl dn : Bool) (ex : List UInt8), H' = .blk b6 (numV mi w [] 0 pl dn ex) 155 :: .blk b4 (numV false [] [] 0 false false []) 155 :: H ∧ e' = [(0, sV s6), (4, .pointer (some ⟨b4, 0, none⟩)), (6, .pointer (some ⟨b6, 0, none⟩)), (7, sV bh), (5, .bool false)] ∧ w.length ≤ 1100000 ∧ bh.length ≤ 1100000 ∧ ex.length ≤ 1100000 ∧ np = if s6 = [] then some (mi, w, pl) else none) ?_ ?_
  · intro k' hrest
    refine S.block ?_
    refine S.seq ?_
    refine S.cut (fun H' e' => ∃ (mi : Bool) (w s3 bh : List UInt8) (pl : Bool), H' = .blk b6 (numV mi w [] 0 pl false []) 155 :: .blk b4 (numV false [] [] 0 false false []) 155 :: H ∧ e' = [(0, sV s3), (4, .pointer (some ⟨b4, 0, none⟩)), (6, .pointer (some ⟨b6, 0, none⟩)), (7, sV bh), (5, .bool false)] ∧ w.length ≤ 1100000 ∧ bh.length ≤ 1100000 ∧ s3.length ≤ 1100000 ∧ np = match expP s3 with
      | none => none
      | some (s6, p2) => if s6 = [] then some (mi, w, pl && p2) else none) ?_ ?_
    · intro k'' hmid
      repeat' (first | (apply T.mv; apply rfl; apply rfl) | (apply T.asn; apply rfl; apply rfl) | (apply T.eql; apply rfl; apply rfl; apply rfl) | with_reducible refine Sr.nil ?_ | with_reducible refine S.seq ?_ | with_reducible refine S.block ?_ | with_reducible refine S.reg ?_ | (apply S.exit; apply rfl) | (apply S.condTV; apply rfl; (first | with_reducible rfl | decide)) | fail)
      refine T.call rfl rfl (cutPrefix1_spec (pr := [45]) (c := 45) rfl (by omega)) ?_
      rintro _ _ ⟨rfl, hH⟩
      have hH2 := hH.symm
      subst hH2
      generalize (cutP 45 t).1 = s1 at *
      generalize (cutP 45 t).2 = mi at *
      have hk := runD_le s1
      have u0 : (s1.getD 0 0).toNat = bAt s1 0 := rfl
      repeat' (first | (apply T.mv; apply rfl; apply rfl) | (apply T.asn; apply rfl; apply rfl) | (apply T.fieldAddrZ; apply rfl; apply rfl) | (apply T.extract; apply rfl; apply rfl; apply rfl) | (apply T.store; apply rfl; apply rfl; infer_instance; (first | decide | (simp; omega) | simp); apply rfl) | with_reducible refine Sr.nil ?_ | with_reducible refine S.seq ?_ | with_reducible refine S.reg ?_ | with_reducible refine S.inBlock ?_ | (with_reducible apply T.ofRet) | fail)
      refine T.call rfl rfl (run_spec (s := s1) (by omega)) ?_
      rintro _ _ ⟨rfl, hH⟩
      have hH2 := hH.symm
      subst hH2
      by_cases hb : intBad s1 = true
      · have hb' : runD s1 = 0 ∨ (1 < runD s1 ∧ bAt s1 0 = 48) := by simpa [intBad] using hb
        rw [if_pos hb] at hN
        subst hN
        repeat' (first | (refine T.sidx (i := 0) rfl rfl (by omega) rfl ?_) | (apply T.mv; apply rfl; apply rfl) | (apply T.asn; apply rfl; apply rfl) | (apply T.gtr; apply rfl; apply rfl; apply rfl) | (apply T.eql; apply rfl; apply rfl; apply rfl) | (apply T.pickT; apply rfl; apply rfl; apply rfl) | (apply T.pickF; apply rfl; apply rfl; apply rfl) | (apply T.loadW; apply rfl; apply rfl; infer_instance; (first | rfl | (simp only [List.length_append, List.length_map, List.length_set, List.length_replicate, List.length_cons, List.length_nil]; first | done | omega)); apply rfl) | (apply T.storeW; apply rfl; apply rfl; infer_instance; (first | rfl | (simp only [List.length_append, List.length_map, List.length_set, List.length_replicate, List.length_cons, List.length_nil]; first | done | omega)); (first | rfl | (simp only [List.length_append, List.length_map, List.length_set, List.length_replicate, List.length_cons, List.length_nil]; first | done | omega)); (first | rfl | (repeat' first | apply all_nV | apply all_bV | apply all_iV | rfl | apply all_app))) | with_reducible refine Sr.nil ?_ | with_reducible refine S.seq ?_ | with_reducible refine S.reg ?_ | (apply T.ungV; apply rfl; (first | with_reducible rfl | decide)) | (apply T.skip; apply rfl; (first | with_reducible rfl | decide); apply rfl) | (apply T.skipU; apply rfl; apply rfl) | (apply S.condTV; apply rfl; (first | with_reducible rfl | decide)) | (apply S.condQ; apply rfl; all_goals (intro _; try (exfalso; first | omega | with_reducible contradiction))) | (apply T.gcase; apply rfl; apply rfl; all_goals (intro _; try (exfalso; first | omega | with_reducible contradiction))) | (with_reducible apply T.ofRet) | (apply T.retC; apply rfl; ((repeat' first | apply RV.nil | (apply RV.tmp; apply rfl) | (apply RV.cellW; apply rfl; apply rfl; infer_instance; (first | rfl | (simp only [List.length_append, List.length_map, List.length_set, List.length_replicate, List.length_cons, List.length_nil]; first | done | omega))) | (apply RV.cellP; apply rfl; apply rfl; infer_instance; apply rfl))); apply rfl) | fail)
        all_goals (exact ⟨_, PSub.drop (PSub.drop (PSub.refl _)), _, _, _, _, _, _, _, rfl, rfl, fun x hx => by cases hx⟩)
      have hb' : ¬ (runD s1 = 0 ∨ (1 < runD s1 ∧ bAt s1 0 = 48)) := by simpa [intBad] using hb
      rw [if_neg hb] at hN
      clear hb
      have hl2 : (s1.drop (runD s1)).length = s1.length - runD s1 := List.length_drop
      repeat' (first | (refine T.sidx (i := 0) rfl rfl (by omega) rfl ?_) | (apply T.mv; apply rfl; apply rfl) | (apply T.asn; apply rfl; apply rfl) | (apply T.gtr; apply rfl; apply rfl; apply rfl) | (apply T.eql; apply rfl; apply rfl; apply rfl) | (apply T.pickT; apply rfl; apply rfl; apply rfl) | (apply T.pickF; apply rfl; apply rfl; apply rfl) | with_reducible refine Sr.nil ?_ | with_reducible refine S.seq ?_ | with_reducible refine S.reg ?_ | with_reducible refine S.skip ?_ | (apply T.ungV; apply rfl; (first | with_reducible rfl | decide)) | (apply T.skip; apply rfl; (first | with_reducible rfl | decide); apply rfl) | (apply S.condFV; apply rfl; (first | with_reducible rfl | decide)) | (apply S.condQ; apply rfl; all_goals (intro _; try (exfalso; first | omega | with_reducible contradiction))) | (apply T.gcase; apply rfl; apply rfl; all_goals (intro _; try (exfalso; first | omega | with_reducible contradiction))) | (with_reducible apply T.ofRet) | fail)
      all_goals
        (apply S.draw; (case Hs => exact H); (case es => exact  [7]); (case n => exact  9); (case hn => rfl))
        repeat' (first | (apply T.ssliceH; apply rfl; apply rfl; omega; apply rfl) | (apply T.ssliceL; apply rfl; apply rfl; omega; apply rfl) | (apply T.mv; apply rfl; apply rfl) | (apply T.asn; apply rfl; apply rfl) | (apply T.fieldAddrZ; apply rfl; apply rfl) | (apply T.store; apply rfl; apply rfl; infer_instance; (first | decide | (simp; omega) | simp); apply rfl) | with_reducible refine Sr.nil ?_ | with_reducible refine S.seq ?_ | with_reducible refine S.reg ?_ | with_reducible refine S.inBlock ?_ | (apply SA.qn; apply rfl; apply rfl; apply rfl; apply rfl; kernel_rfl) | (apply SA.qz; apply rfl; apply rfl; apply rfl; apply rfl; kernel_rfl) | (apply SA.qsn; apply rfl; apply rfl; apply rfl; kernel_rfl; (first | exact fun _ h => h | exact fun _ h => St.psub h (by ((repeat (first | dsimp only [List.set_cons_zero] | dsimp only [List.set_cons_succ])); repeat' first | exact PSub.refl _ | exact PSub.nil | (apply PSub.take; (repeat' first | (with_reducible exact pick_hd) | (with_reducible apply pick_tl))) | (with_reducible apply PSub.drop) | ((apply PSub.take); (repeat' first | exact pick_hd | (apply pick_tl))))))) | (apply SA.en; apply rfl; apply rfl; kernel_rfl) | (apply SA.done; apply rfl; kernel_rfl) | (apply SK.intro; (first | exact fun _ h => h | exact fun _ h => St.psub h (by ((repeat (first | dsimp only [List.set_cons_zero] | dsimp only [List.set_cons_succ])); repeat' first | exact PSub.refl _ | exact PSub.nil | (apply PSub.take; (repeat' first | (with_reducible exact pick_hd) | (with_reducible apply pick_tl))) | (with_reducible apply PSub.drop) | ((apply PSub.take); (repeat' first | exact pick_hd | (apply pick_tl))))))) | fail)
        refine T.call rfl rfl (cutPrefix1_spec (s := s1.drop (runD s1)) (pr := [46]) (c := 46) rfl (by omega)) ?_
        rintro _ _ ⟨rfl, hH⟩
        have hH2 := hH.symm
        subst hH2
        generalize s1.drop (runD s1) = s2 at *
        have hc2 := cutP_len 46 s2
        unfold fracP at hN
        cases hc46 : (cutP 46 s2).2 with
        | true =>
          rw [hc46, if_pos rfl] at hN
          generalize (cutP 46 s2).1 = rs at *
          have hkr := runD_le rs
          repeat' (first | (apply T.mv; apply rfl; apply rfl) | (apply T.asn; apply rfl; apply rfl) | (apply T.extract; apply rfl; apply rfl; apply rfl) | with_reducible refine Sr.nil ?_ | with_reducible refine S.seq ?_ | with_reducible refine S.reg ?_ | (apply S.condTV; apply rfl; (first | with_reducible rfl | decide)) | (with_reducible apply T.ofRet) | fail)
          refine T.call rfl rfl (run_spec (s := rs) (by omega)) ?_
          rintro _ _ ⟨rfl, hH⟩
          have hH2 := hH.symm
          subst hH2
          by_cases hk0 : runD rs = 0
          · rw [if_pos hk0] at hN
            subst hN
            repeat' (first | (apply T.mv; apply rfl; apply rfl) | (apply T.asn; apply rfl; apply rfl) | (apply T.eql; apply rfl; apply rfl; apply rfl) | (apply T.loadW; apply rfl; apply rfl; infer_instance; (first | rfl | (simp only [List.length_append, List.length_map, List.length_set, List.length_replicate, List.length_cons, List.length_nil]; first | done | omega)); apply rfl) | (apply T.storeW; apply rfl; apply rfl; infer_instance; (first | rfl | (simp only [List.length_append, List.length_map, List.length_set, List.length_replicate, List.length_cons, List.length_nil]; first | done | omega)); (first | rfl | (simp only [List.length_append, List.length_map, List.length_set, List.length_replicate, List.length_cons, List.length_nil]; first | done | omega)); (first | rfl | (repeat' first | apply all_nV | apply all_bV | apply all_iV | rfl | apply all_app))) | with_reducible refine Sr.nil ?_ | with_reducible refine S.seq ?_ | with_reducible refine S.reg ?_ | (apply S.condQ; apply rfl; all_goals (intro _; try (exfalso; first | omega | with_reducible contradiction))) | (with_reducible apply T.ofRet) | (apply T.retC; apply rfl; ((repeat' first | apply RV.nil | (apply RV.tmp; apply rfl) | (apply RV.cellW; apply rfl; apply rfl; infer_instance; (first | rfl | (simp only [List.length_append, List.length_map, List.length_set, List.length_replicate, List.length_cons, List.length_nil]; first | done | omega))) | (apply RV.cellP; apply rfl; apply rfl; infer_instance; apply rfl))); apply rfl) | fail)
            (exact ⟨_, PSub.drop (PSub.drop (PSub.refl _)), _, _, _, _, _, _, _, rfl, rfl, fun x hx => by cases hx⟩)
          · rw [if_neg hk0] at hN
            have hl3 : (rs.drop (runD rs)).length = rs.length - runD rs := List.length_drop
            repeat' (first | (apply T.mv; apply rfl; apply rfl) | (apply T.asn; apply rfl; apply rfl) | (apply T.eql; apply rfl; apply rfl; apply rfl) | with_reducible refine Sr.nil ?_ | with_reducible refine S.seq ?_ | with_reducible refine S.reg ?_ | with_reducible refine S.skip ?_ | (apply S.condQ; apply rfl; all_goals (intro _; try (exfalso; first | omega | with_reducible contradiction))) | (with_reducible apply T.ofRet) | fail)
            (apply S.draw; (case Hs => exact H); (case es => exact  [7]); (case n => exact  10); (case hn => rfl))
            repeat' (first | (apply T.ssliceH; apply rfl; apply rfl; omega; apply rfl) | (apply T.ssliceL; apply rfl; apply rfl; omega; apply rfl) | (apply T.mv; apply rfl; apply rfl) | (apply T.asn; apply rfl; apply rfl) | (apply T.fieldAddrZ; apply rfl; apply rfl) | (apply T.store; apply rfl; apply rfl; infer_instance; (first | decide | (simp; omega) | simp); apply rfl) | with_reducible refine Sr.nil ?_ | with_reducible refine S.inBlock ?_ | (apply SA.qn; apply rfl; apply rfl; apply rfl; apply rfl; kernel_rfl) | (apply SA.qz; apply rfl; apply rfl; apply rfl; apply rfl; kernel_rfl) | (apply SA.qsn; apply rfl; apply rfl; apply rfl; kernel_rfl; (first | exact fun _ h => h | exact fun _ h => St.psub h (by ((repeat (first | dsimp only [List.set_cons_zero] | dsimp only [List.set_cons_succ])); repeat' first | exact PSub.refl _ | exact PSub.nil | (apply PSub.take; (repeat' first | (with_reducible exact pick_hd) | (with_reducible apply pick_tl))) | (with_reducible apply PSub.drop) | ((apply PSub.take); (repeat' first | exact pick_hd | (apply pick_tl))))))) | (apply SA.en; apply rfl; apply rfl; kernel_rfl) | (apply SA.done; apply rfl; kernel_rfl) | (apply SK.intro; (first | exact fun _ h => h | exact fun _ h => St.psub h (by ((repeat (first | dsimp only [List.set_cons_zero] | dsimp only [List.set_cons_succ])); repeat' first | exact PSub.refl _ | exact PSub.nil | (apply PSub.take; (repeat' first | (with_reducible exact pick_hd) | (with_reducible apply pick_tl))) | (with_reducible apply PSub.drop) | ((apply PSub.take); (repeat' first | exact pick_hd | (apply pick_tl))))))) | fail)
            exact hmid _ _ _ ⟨mi, s1.take (runD s1), rs.drop (runD rs), rs.take (runD rs), false, rfl, rfl, by rw [List.length_take]; omega, by rw [List.length_take]; omega, by omega, hN⟩ (by repeat' first | exact trivial | refine And.intro rfl ?_)
        | false =>
          have hs2 : s2.length ≤ 1100000 := by omega
          rw [hc46, if_neg (by simp)] at hN
          repeat' (first | (apply T.mv; apply rfl; apply rfl) | (apply T.asn; apply rfl; apply rfl) | (apply T.extract; apply rfl; apply rfl; apply rfl) | with_reducible refine Sr.nil ?_ | with_reducible refine S.seq ?_ | with_reducible refine S.reg ?_ | with_reducible refine S.skip ?_ | with_reducible refine S.inBlock ?_ | (apply S.condFV; apply rfl; (first | with_reducible rfl | decide)) | (with_reducible apply T.ofRet) | fail)
          exact hmid _ _ _ ⟨mi, s1.take (runD s1), s2, [], true, rfl, rfl, by rw [List.length_take]; omega, by simp, hs2, hN⟩ (by repeat' first | exact trivial | refine And.intro rfl ?_)
    · rintro _ _ ⟨mi, w, s3, bh, pl, rfl, rfl, hw, hbh, hs3, hN⟩
      by_cases he : s3.getD 0 0 ||| 32 = 101
      · have hl3 : 0 < s3.length := by
          rcases Nat.eq_zero_or_pos s3.length with h | h
          · rw [len_nil h] at he
            exact absurd he (by decide)
          · exact h
        have hn3 : ¬ s3 = [] := fun h => by rw [h] at hl3; exact absurd hl3 (by decide)
        have he' : ((s3.getD 0 0 ||| 32).toNat : Int) = 101 := by rw [he]; rfl
        rw [expP_yes he] at hN
        have hl4 : (s3.drop 1).length = s3.length - 1 := List.length_drop
        obtain ⟨s4, e4⟩ : ∃ s4, s3.drop 1 = s4 := ⟨_, rfl⟩
        rw [e4] at hN hl4
        by_cases hs : (s4.getD 0 0).toNat = 43 ∨ (s4.getD 0 0).toNat = 45
        · have h04 : 0 < s4.length := by
            rcases Nat.eq_zero_or_pos s4.length with h | h
            · rw [len_nil h] at hs
              exact absurd hs (by decide)
            · exact h
          have hn4 : ¬ s4 = [] := fun h => by rw [h] at h04; exact absurd h04 (by decide)
          rw [signP_yes hs] at hN
          obtain ⟨s5, e5⟩ : ∃ s5, s4.drop 1 = s5 := ⟨_, rfl⟩
          have hl5 : s5.length = s4.length - 1 := by rw [← e5]; exact List.length_drop
          rw [e5] at hN
          by_cases h5 : s5 = []
          · rw [if_pos (.inl h5)] at hN
            subst hN
            repeat' (first | (refine T.sidx (i := 0) rfl rfl (by omega) rfl ?_) | (refine T.ssliceL (i := 1) rfl rfl (by omega) rfl ?_; rw [e4]) | (refine T.bor (b := 32) _ rfl rfl rfl ?_) | (apply T.sneq; apply rfl; apply rfl; apply rfl) | (apply T.mv; apply rfl; apply rfl) | (apply T.asn; apply rfl; apply rfl) | (apply T.eql; apply rfl; apply rfl; apply rfl) | (apply T.pickT; apply rfl; apply rfl; apply rfl) | (apply T.pickF; apply rfl; apply rfl; apply rfl) | with_reducible refine Sr.nil ?_ | with_reducible refine S.seq ?_ | with_reducible refine S.reg ?_ | (apply T.ungV; apply rfl; (first | with_reducible rfl | decide)) | (apply T.skip; apply rfl; (first | with_reducible rfl | decide); apply rfl) | (apply S.condTV; apply rfl; (first | with_reducible rfl | decide)) | (apply S.condQ; apply rfl; all_goals (intro _; try (exfalso; first | omega | with_reducible contradiction))) | (apply T.gcase; apply rfl; apply rfl; all_goals (intro _; try (exfalso; first | omega | with_reducible contradiction))) | fail)
            all_goals
              (apply S.draw; (case Hs => exact H); (case es => exact  [6]); (case n => exact  8); (case hn => rfl))
              repeat' (first | (refine T.sidx (i := 0) rfl rfl (by omega) rfl ?_) | (refine T.ssliceL (i := 1) rfl rfl (by omega) rfl ?_; rw [e5]) | (apply T.seql; apply rfl; apply rfl; apply rfl) | (apply T.mv; apply rfl; apply rfl) | (apply T.asn; apply rfl; apply rfl) | (apply T.fieldAddrZ; apply rfl; apply rfl) | (apply T.eql; apply rfl; apply rfl; apply rfl) | (apply T.pickT; apply rfl; apply rfl; apply rfl) | (apply T.loadW; apply rfl; apply rfl; infer_instance; (first | rfl | (simp only [List.length_append, List.length_map, List.length_set, List.length_replicate, List.length_cons, List.length_nil]; first | done | omega)); apply rfl) | (apply T.storeW; apply rfl; apply rfl; infer_instance; (first | rfl | (simp only [List.length_append, List.length_map, List.length_set, List.length_replicate, List.length_cons, List.length_nil]; first | done | omega)); (first | rfl | (simp only [List.length_append, List.length_map, List.length_set, List.length_replicate, List.length_cons, List.length_nil]; first | done | omega)); (first | rfl | (repeat' first | apply all_nV | apply all_bV | apply all_iV | rfl | apply all_app))) | (apply T.store; apply rfl; apply rfl; infer_instance; (first | decide | (simp; omega) | simp); apply rfl) | with_reducible refine Sr.nil ?_ | with_reducible refine S.seq ?_ | with_reducible refine S.reg ?_ | (apply T.skip; apply rfl; (first | with_reducible rfl | decide); apply rfl) | (apply S.condTV; apply rfl; (first | with_reducible rfl | decide)) | (apply T.gcase; apply rfl; apply rfl; all_goals (intro _; try (exfalso; first | omega | with_reducible contradiction))) | (apply T.retC; apply rfl; ((repeat' first | apply RV.nil | (apply RV.tmp; apply rfl) | (apply RV.cellW; apply rfl; apply rfl; infer_instance; (first | rfl | (simp only [List.length_append, List.length_map, List.length_set, List.length_replicate, List.length_cons, List.length_nil]; first | done | omega))) | (apply RV.cellP; apply rfl; apply rfl; infer_instance; apply rfl))); apply rfl) | (apply SA.qn; apply rfl; apply rfl; apply rfl; apply rfl; kernel_rfl) | (apply SA.qz; apply rfl; apply rfl; apply rfl; apply rfl; kernel_rfl) | (apply SA.qsn; apply rfl; apply rfl; apply rfl; kernel_rfl; (first | exact fun _ h => h | exact fun _ h => St.psub h (by ((repeat (first | dsimp only [List.set_cons_zero] | dsimp only [List.set_cons_succ])); repeat' first | exact PSub.refl _ | exact PSub.nil | (apply PSub.take; (repeat' first | (with_reducible exact pick_hd) | (with_reducible apply pick_tl))) | (with_reducible apply PSub.drop) | ((apply PSub.take); (repeat' first | exact pick_hd | (apply pick_tl))))))) | (apply SA.en; apply rfl; apply rfl; kernel_rfl) | (apply SA.done; apply rfl; kernel_rfl) | (apply SK.intro; (first | exact fun _ h => h | exact fun _ h => St.psub h (by ((repeat (first | dsimp only [List.set_cons_zero] | dsimp only [List.set_cons_succ])); repeat' first | exact PSub.refl _ | exact PSub.nil | (apply PSub.take; (repeat' first | (with_reducible exact pick_hd) | (with_reducible apply pick_tl))) | (with_reducible apply PSub.drop) | ((apply PSub.take); (repeat' first | exact pick_hd | (apply pick_tl))))))) | fail)
              (exact ⟨_, PSub.drop (PSub.drop (PSub.refl _)), _, _, _, _, _, _, _, rfl, rfl, fun x hx => by cases hx⟩)
          · have h05 : 0 < s5.length := by
              rcases Nat.eq_zero_or_pos s5.length with h | h
              · exact absurd (len_nil h) h5
              · exact h
            have hr5 := runD_le s5
            repeat' (first | (refine T.sidx (i := 0) rfl rfl (by omega) rfl ?_) | (refine T.ssliceL (i := 1) rfl rfl (by omega) rfl ?_; rw [e4]) | (refine T.bor (b := 32) _ rfl rfl rfl ?_) | (apply T.sneq; apply rfl; apply rfl; apply rfl) | (apply T.mv; apply rfl; apply rfl) | (apply T.asn; apply rfl; apply rfl) | (apply T.eql; apply rfl; apply rfl; apply rfl) | (apply T.pickT; apply rfl; apply rfl; apply rfl) | (apply T.pickF; apply rfl; apply rfl; apply rfl) | with_reducible refine Sr.nil ?_ | with_reducible refine S.seq ?_ | with_reducible refine S.reg ?_ | (apply T.ungV; apply rfl; (first | with_reducible rfl | decide)) | (apply T.skip; apply rfl; (first | with_reducible rfl | decide); apply rfl) | (apply S.condTV; apply rfl; (first | with_reducible rfl | decide)) | (apply S.condQ; apply rfl; all_goals (intro _; try (exfalso; first | omega | with_reducible contradiction))) | (apply T.gcase; apply rfl; apply rfl; all_goals (intro _; try (exfalso; first | omega | with_reducible contradiction))) | fail)
            all_goals
              (apply S.draw; (case Hs => exact H); (case es => exact  [6]); (case n => exact  8); (case hn => rfl))
              repeat' (first | (refine T.sidx (i := 0) rfl rfl (by omega) rfl ?_) | (refine T.ssliceL (i := 1) rfl rfl (by omega) rfl ?_; rw [e5]) | (apply T.seql; apply rfl; apply rfl; apply rfl) | (apply T.mv; apply rfl; apply rfl) | (apply T.asn; apply rfl; apply rfl) | (apply T.fieldAddrZ; apply rfl; apply rfl) | (apply T.eql; apply rfl; apply rfl; apply rfl) | (apply T.store; apply rfl; apply rfl; infer_instance; (first | decide | (simp; omega) | simp); apply rfl) | with_reducible refine Sr.nil ?_ | with_reducible refine S.seq ?_ | with_reducible refine S.reg ?_ | (apply T.ungV; apply rfl; (first | with_reducible rfl | decide)) | (apply T.gcase; apply rfl; apply rfl; all_goals (intro _; try (exfalso; first | omega | with_reducible contradiction))) | (apply SA.qn; apply rfl; apply rfl; apply rfl; apply rfl; kernel_rfl) | (apply SA.qz; apply rfl; apply rfl; apply rfl; apply rfl; kernel_rfl) | (apply SA.qsn; apply rfl; apply rfl; apply rfl; kernel_rfl; (first | exact fun _ h => h | exact fun _ h => St.psub h (by ((repeat (first | dsimp only [List.set_cons_zero] | dsimp only [List.set_cons_succ])); repeat' first | exact PSub.refl _ | exact PSub.nil | (apply PSub.take; (repeat' first | (with_reducible exact pick_hd) | (with_reducible apply pick_tl))) | (with_reducible apply PSub.drop) | ((apply PSub.take); (repeat' first | exact pick_hd | (apply pick_tl))))))) | (apply SA.en; apply rfl; apply rfl; kernel_rfl) | (apply SA.done; apply rfl; kernel_rfl) | (apply SK.intro; (first | exact fun _ h => h | exact fun _ h => St.psub h (by ((repeat (first | dsimp only [List.set_cons_zero] | dsimp only [List.set_cons_succ])); repeat' first | exact PSub.refl _ | exact PSub.nil | (apply PSub.take; (repeat' first | (with_reducible exact pick_hd) | (with_reducible apply pick_tl))) | (with_reducible apply PSub.drop) | ((apply PSub.take); (repeat' first | exact pick_hd | (apply pick_tl))))))) | fail)
              refine T.call rfl rfl (run_spec (s := s5) (by omega)) ?_
              rintro _ _ ⟨rfl, hH⟩
              have hH2 := hH.symm
              subst hH2
              by_cases h6 : runD s5 = s5.length
              · rw [if_neg (fun h => h.elim h5 (fun h => h h6))] at hN
                repeat' (first | (apply T.slen; apply rfl; apply rfl) | (apply T.mv; apply rfl; apply rfl) | (apply T.neq; apply rfl; apply rfl; apply rfl) | (apply T.pickF; apply rfl; apply rfl; apply rfl) | with_reducible refine Sr.nil ?_ | with_reducible refine S.reg ?_ | with_reducible refine S.skip ?_ | (apply T.ungV; apply rfl; (first | with_reducible rfl | decide)) | (apply S.condQ; apply rfl; all_goals (intro _; try (exfalso; first | omega | with_reducible contradiction))) | (with_reducible apply T.ofRet) | fail)
                refine T.call rfl rfl (trimLeft1_spec (pr := [48]) (c := 48) rfl (by decide) (by omega)) ?_
                rintro _ _ ⟨r, rfl, hH, hr⟩
                have hH2 := hH.symm
                subst hH2
                repeat' (first | (apply T.asn; apply rfl; apply rfl) | (apply T.fieldAddrZ; apply rfl; apply rfl) | (apply T.store; apply rfl; apply rfl; infer_instance; (first | decide | (simp; omega) | simp); apply rfl) | with_reducible refine Sr.nil ?_ | (apply S.exit; apply rfl) | (with_reducible apply T.ofRet) | fail)
                exact hrest _ _ _ ⟨mi, w, [], bh, false, _, r, rfl, rfl, hw, hbh, by omega, by rw [hN]; simp⟩ (by repeat' first | exact trivial | refine And.intro rfl ?_)
              · rw [if_pos (.inr h6)] at hN
                subst hN
                repeat' (first | (apply T.slen; apply rfl; apply rfl) | (apply T.mv; apply rfl; apply rfl) | (apply T.asn; apply rfl; apply rfl) | (apply T.neq; apply rfl; apply rfl; apply rfl) | (apply T.pickF; apply rfl; apply rfl; apply rfl) | (apply T.loadW; apply rfl; apply rfl; infer_instance; (first | rfl | (simp only [List.length_append, List.length_map, List.length_set, List.length_replicate, List.length_cons, List.length_nil]; first | done | omega)); apply rfl) | (apply T.storeW; apply rfl; apply rfl; infer_instance; (first | rfl | (simp only [List.length_append, List.length_map, List.length_set, List.length_replicate, List.length_cons, List.length_nil]; first | done | omega)); (first | rfl | (simp only [List.length_append, List.length_map, List.length_set, List.length_replicate, List.length_cons, List.length_nil]; first | done | omega)); (first | rfl | (repeat' first | apply all_nV | apply all_bV | apply all_iV | rfl | apply all_app))) | with_reducible refine Sr.nil ?_ | with_reducible refine S.seq ?_ | with_reducible refine S.reg ?_ | (apply T.ungV; apply rfl; (first | with_reducible rfl | decide)) | (apply S.condQ; apply rfl; all_goals (intro _; try (exfalso; first | omega | with_reducible contradiction))) | (with_reducible apply T.ofRet) | (apply T.retC; apply rfl; ((repeat' first | apply RV.nil | (apply RV.tmp; apply rfl) | (apply RV.cellW; apply rfl; apply rfl; infer_instance; (first | rfl | (simp only [List.length_append, List.length_map, List.length_set, List.length_replicate, List.length_cons, List.length_nil]; first | done | omega))) | (apply RV.cellP; apply rfl; apply rfl; infer_instance; apply rfl))); apply rfl) | fail)
                all_goals (exact ⟨_, PSub.drop (PSub.drop (PSub.refl _)), _, _, _, _, _, _, _, rfl, rfl, fun x hx => by cases hx⟩)
        · rw [signP_no hs] at hN
          have hs' : ¬ ((s4.getD 0 0).toNat = 43) ∧ ¬ ((s4.getD 0 0).toNat = 45) := not_or.1 hs
          obtain ⟨hs1, hs2⟩ := hs'
          by_cases hn4 : s4 = []
          · repeat' (first | (refine T.sidx (i := 0) rfl rfl (by omega) rfl ?_) | (refine T.ssliceL (i := 1) rfl rfl (by omega) rfl ?_; rw [e4]) | (refine T.bor (b := 32) _ rfl rfl rfl ?_) | (apply T.seql; apply rfl; apply rfl; apply rfl) | (apply T.sneq; apply rfl; apply rfl; apply rfl) | (apply T.mv; apply rfl; apply rfl) | (apply T.asn; apply rfl; apply rfl) | (apply T.eql; apply rfl; apply rfl; apply rfl) | (apply T.pickT; apply rfl; apply rfl; apply rfl) | (apply T.pickF; apply rfl; apply rfl; apply rfl) | (apply T.loadW; apply rfl; apply rfl; infer_instance; (first | rfl | (simp only [List.length_append, List.length_map, List.length_set, List.length_replicate, List.length_cons, List.length_nil]; first | done | omega)); apply rfl) | (apply T.storeW; apply rfl; apply rfl; infer_instance; (first | rfl | (simp only [List.length_append, List.length_map, List.length_set, List.length_replicate, List.length_cons, List.length_nil]; first | done | omega)); (first | rfl | (simp only [List.length_append, List.length_map, List.length_set, List.length_replicate, List.length_cons, List.length_nil]; first | done | omega)); (first | rfl | (repeat' first | apply all_nV | apply all_bV | apply all_iV | rfl | apply all_app))) | with_reducible refine Sr.nil ?_ | with_reducible refine S.seq ?_ | with_reducible refine S.reg ?_ | with_reducible refine S.skip ?_ | (apply T.ungV; apply rfl; (first | with_reducible rfl | decide)) | (apply T.skip; apply rfl; (first | with_reducible rfl | decide); apply rfl) | (apply T.skipU; apply rfl; apply rfl) | (apply S.condTV; apply rfl; (first | with_reducible rfl | decide)) | (apply S.condFV; apply rfl; (first | with_reducible rfl | decide)) | (apply S.condQ; apply rfl; all_goals (intro _; try (exfalso; first | omega | with_reducible contradiction))) | (apply T.gcase; apply rfl; apply rfl; all_goals (intro _; try (exfalso; first | omega | with_reducible contradiction))) | (apply T.retC; apply rfl; ((repeat' first | apply RV.nil | (apply RV.tmp; apply rfl) | (apply RV.cellW; apply rfl; apply rfl; infer_instance; (first | rfl | (simp only [List.length_append, List.length_map, List.length_set, List.length_replicate, List.length_cons, List.length_nil]; first | done | omega))) | (apply RV.cellP; apply rfl; apply rfl; infer_instance; apply rfl))); apply rfl) | fail)
            rw [if_pos (.inl hn4)] at hN
            subst hN
            (exact ⟨_, PSub.drop (PSub.drop (PSub.refl _)), _, _, _, _, _, _, _, rfl, rfl, fun x hx => by cases hx⟩)
          · have h04 : 0 < s4.length := by
              rcases Nat.eq_zero_or_pos s4.length with h | h
              · exact absurd (len_nil h) hn4
              · exact h
            have hr7 := runD_le s4
            have h7 := hn4
            repeat' (first | (refine T.sidx (i := 0) rfl rfl (by omega) rfl ?_) | (refine T.ssliceL (i := 1) rfl rfl (by omega) rfl ?_; rw [e4]) | (refine T.bor (b := 32) _ rfl rfl rfl ?_) | (apply T.seql; apply rfl; apply rfl; apply rfl) | (apply T.sneq; apply rfl; apply rfl; apply rfl) | (apply T.mv; apply rfl; apply rfl) | (apply T.asn; apply rfl; apply rfl) | (apply T.eql; apply rfl; apply rfl; apply rfl) | (apply T.pickT; apply rfl; apply rfl; apply rfl) | (apply T.pickF; apply rfl; apply rfl; apply rfl) | with_reducible refine Sr.nil ?_ | with_reducible refine S.seq ?_ | with_reducible refine S.reg ?_ | with_reducible refine S.skip ?_ | (apply T.ungV; apply rfl; (first | with_reducible rfl | decide)) | (apply S.condQ; apply rfl; all_goals (intro _; try (exfalso; first | omega | with_reducible contradiction))) | (apply T.gcase; apply rfl; apply rfl; all_goals (intro _; try (exfalso; first | omega | with_reducible contradiction))) | fail)
            refine T.call rfl rfl (run_spec (s := s4) (by omega)) ?_
            rintro _ _ ⟨rfl, hH⟩
            have hH2 := hH.symm
            subst hH2
            by_cases h6 : runD s4 = s4.length
            · rw [if_neg (fun h => h.elim h7 (fun h => h h6))] at hN
              repeat' (first | (apply T.slen; apply rfl; apply rfl) | (apply T.mv; apply rfl; apply rfl) | (apply T.neq; apply rfl; apply rfl; apply rfl) | (apply T.pickF; apply rfl; apply rfl; apply rfl) | with_reducible refine Sr.nil ?_ | with_reducible refine S.reg ?_ | with_reducible refine S.skip ?_ | (apply T.ungV; apply rfl; (first | with_reducible rfl | decide)) | (apply S.condQ; apply rfl; all_goals (intro _; try (exfalso; first | omega | with_reducible contradiction))) | (with_reducible apply T.ofRet) | fail)
              refine T.call rfl rfl (trimLeft1_spec (pr := [48]) (c := 48) rfl (by decide) (by omega)) ?_
              rintro _ _ ⟨r, rfl, hH, hr⟩
              have hH2 := hH.symm
              subst hH2
              repeat' (first | (apply T.asn; apply rfl; apply rfl) | (apply T.fieldAddrZ; apply rfl; apply rfl) | (apply T.store; apply rfl; apply rfl; infer_instance; (first | decide | (simp; omega) | simp); apply rfl) | with_reducible refine Sr.nil ?_ | (apply S.exit; apply rfl) | (with_reducible apply T.ofRet) | fail)
              exact hrest _ _ _ ⟨mi, w, [], bh, false, _, r, rfl, rfl, hw, hbh, by omega, by rw [hN]; simp⟩ (by repeat' first | exact trivial | refine And.intro rfl ?_)
            · rw [if_pos (.inr h6)] at hN
              subst hN
              repeat' (first | (apply T.slen; apply rfl; apply rfl) | (apply T.mv; apply rfl; apply rfl) | (apply T.asn; apply rfl; apply rfl) | (apply T.neq; apply rfl; apply rfl; apply rfl) | (apply T.pickF; apply rfl; apply rfl; apply rfl) | (apply T.loadW; apply rfl; apply rfl; infer_instance; (first | rfl | (simp only [List.length_append, List.length_map, List.length_set, List.length_replicate, List.length_cons, List.length_nil]; first | done | omega)); apply rfl) | (apply T.storeW; apply rfl; apply rfl; infer_instance; (first | rfl | (simp only [List.length_append, List.length_map, List.length_set, List.length_replicate, List.length_cons, List.length_nil]; first | done | omega)); (first | rfl | (simp only [List.length_append, List.length_map, List.length_set, List.length_replicate, List.length_cons, List.length_nil]; first | done | omega)); (first | rfl | (repeat' first | apply all_nV | apply all_bV | apply all_iV | rfl | apply all_app))) | with_reducible refine Sr.nil ?_ | with_reducible refine S.seq ?_ | with_reducible refine S.reg ?_ | (apply T.ungV; apply rfl; (first | with_reducible rfl | decide)) | (apply S.condQ; apply rfl; all_goals (intro _; try (exfalso; first | omega | with_reducible contradiction))) | (with_reducible apply T.ofRet) | (apply T.retC; apply rfl; ((repeat' first | apply RV.nil | (apply RV.tmp; apply rfl) | (apply RV.cellW; apply rfl; apply rfl; infer_instance; (first | rfl | (simp only [List.length_append, List.length_map, List.length_set, List.length_replicate, List.length_cons, List.length_nil]; first | done | omega))) | (apply RV.cellP; apply rfl; apply rfl; infer_instance; apply rfl))); apply rfl) | fail)
              all_goals (exact ⟨_, PSub.drop (PSub.drop (PSub.refl _)), _, _, _, _, _, _, _, rfl, rfl, fun x hx => by cases hx⟩)
      · have he' : ¬ ((s3.getD 0 0 ||| 32).toNat : Int) = 101 := fun h => he (UInt8.toNat_inj.1 (Int.ofNat.inj h))
        rw [expP_no he] at hN
        by_cases hn3 : s3 = []
        · repeat' (first | (apply T.sneq; apply rfl; apply rfl; apply rfl) | (apply T.mv; apply rfl; apply rfl) | (apply T.pickF; apply rfl; apply rfl; apply rfl) | with_reducible refine Sr.nil ?_ | with_reducible refine S.seq ?_ | with_reducible refine S.reg ?_ | with_reducible refine S.skip ?_ | (apply S.exit; apply rfl) | (apply T.skip; apply rfl; (first | with_reducible rfl | decide); apply rfl) | (apply S.condFV; apply rfl; (first | with_reducible rfl | decide)) | (apply T.gcase; apply rfl; apply rfl; all_goals (intro _; try (exfalso; first | omega | with_reducible contradiction))) | fail)
          exact hrest _ _ _ ⟨mi, w, s3, bh, pl, false, [], rfl, rfl, hw, hbh, by simp, by rw [hN]; simp only [Bool.and_true]⟩ (by repeat' first | exact trivial | refine And.intro rfl ?_)
        · have hl3 : 0 < s3.length := by
            rcases Nat.eq_zero_or_pos s3.length with h | h
            · exact absurd (len_nil h) hn3
            · exact h
          repeat' (first | (refine T.sidx (i := 0) rfl rfl (by omega) rfl ?_) | (refine T.bor (b := 32) _ rfl rfl rfl ?_) | (apply T.sneq; apply rfl; apply rfl; apply rfl) | (apply T.mv; apply rfl; apply rfl) | (apply T.eql; apply rfl; apply rfl; apply rfl) | (apply T.pickT; apply rfl; apply rfl; apply rfl) | with_reducible refine Sr.nil ?_ | with_reducible refine S.seq ?_ | with_reducible refine S.reg ?_ | with_reducible refine S.skip ?_ | (apply S.exit; apply rfl) | (apply T.ungV; apply rfl; (first | with_reducible rfl | decide)) | (apply S.condQ; apply rfl; all_goals (intro _; try (exfalso; first | omega | with_reducible contradiction))) | (apply T.gcase; apply rfl; apply rfl; all_goals (intro _; try (exfalso; first | omega | with_reducible contradiction))) | fail)
          exact hrest _ _ _ ⟨mi, w, s3, bh, pl, false, [], rfl, rfl, hw, hbh, by simp, by rw [hN]; simp only [Bool.and_true]⟩ (by repeat' first | exact trivial | refine And.intro rfl ?_)
  · rintro _ _ ⟨mi, w, s6, bh, pl, dn, ex, rfl, rfl, h1, h2, h3, h4⟩
    repeat' (first | (apply T.sadd; apply rfl; apply rfl; omega; apply rfl) | (apply T.mv; apply rfl; apply rfl) | (apply T.asn; apply rfl; apply rfl) | (apply T.fieldAddrZ; apply rfl; apply rfl) | (apply T.load; apply rfl; apply rfl; infer_instance; apply rfl; apply rfl) | with_reducible refine Sr.nil ?_ | with_reducible refine S.seq ?_ | with_reducible refine S.reg ?_ | fail)
    refine T.call rfl rfl (trimLeft1_spec (c := 48) rfl (by decide) (by rw [List.length_append]; omega)) ?_
    rintro _ _ ⟨d, rfl, rfl, hd⟩
    rw [List.length_append] at hd
    have hla : (w ++ bh).length = w.length + bh.length := List.length_append
    repeat' (first | (apply T.slen; apply rfl; apply rfl) | (apply T.mv; apply rfl; apply rfl) | (apply T.fieldAddrZ; apply rfl; apply rfl) | (apply T.load; apply rfl; apply rfl; infer_instance; apply rfl; apply rfl) | (apply T.subI; apply rfl; apply rfl; omega; apply rfl) | (apply T.store; apply rfl; apply rfl; infer_instance; (first | decide | (simp; omega) | simp); apply rfl) | with_reducible refine Sr.nil ?_ | with_reducible refine S.seq ?_ | with_reducible refine S.reg ?_ | (with_reducible apply T.ofRet) | fail)
    refine T.call rfl rfl (trimRight1_spec (c := 48) rfl (by decide) (by omega)) ?_
    rintro _ _ ⟨d2, rfl, rfl, hd2⟩
    repeat' (first | (apply T.seql; apply rfl; apply rfl; apply rfl) | (apply T.mv; apply rfl; apply rfl) | (apply T.asn; apply rfl; apply rfl) | (apply T.fieldAddrZ; apply rfl; apply rfl) | (apply T.load; apply rfl; apply rfl; infer_instance; apply rfl; apply rfl) | (apply T.loadW; apply rfl; apply rfl; infer_instance; (first | rfl | (simp only [List.length_append, List.length_map, List.length_set, List.length_replicate, List.length_cons, List.length_nil]; first | done | omega)); apply rfl) | (apply T.storeW; apply rfl; apply rfl; infer_instance; (first | rfl | (simp only [List.length_append, List.length_map, List.length_set, List.length_replicate, List.length_cons, List.length_nil]; first | done | omega)); (first | rfl | (simp only [List.length_append, List.length_map, List.length_set, List.length_replicate, List.length_cons, List.length_nil]; first | done | omega)); (first | rfl | (repeat' first | apply all_nV | apply all_bV | apply all_iV | rfl | apply all_app))) | (apply T.store; apply rfl; apply rfl; infer_instance; (first | decide | (simp; omega) | simp); apply rfl) | with_reducible refine Sr.nil ?_ | with_reducible refine S.seq ?_ | with_reducible refine S.reg ?_ | with_reducible refine S.skip ?_ | (apply S.condQ; apply rfl; all_goals (intro _; try (exfalso; first | omega | with_reducible contradiction))) | (with_reducible apply T.ofRet) | (apply T.retC; apply rfl; ((repeat' first | apply RV.nil | (apply RV.tmp; apply rfl) | (apply RV.cellW; apply rfl; apply rfl; infer_instance; (first | rfl | (simp only [List.length_append, List.length_map, List.length_set, List.length_replicate, List.length_cons, List.length_nil]; first | done | omega))) | (apply RV.cellP; apply rfl; apply rfl; infer_instance; apply rfl))); apply rfl) | fail)
    all_goals
      by_cases h5 : s6 = []
      · rw [if_pos h5] at h4
        subst h4
        rw [decide_eq_true h5]
        exact ⟨_, PSub.drop (PSub.drop (PSub.refl _)), mi, w, d2, _, pl, _, ex, rfl, rfl, fun x hx => by cases hx; rfl⟩
      · rw [if_neg h5] at h4
        subst h4
        rw [decide_eq_false h5]
        exact ⟨_, PSub.drop (PSub.drop (PSub.refl _)), mi, w, d2, _, pl, _, ex, rfl, rfl, fun x hx => by cases hx⟩
end
end Go.Proofs.YtnimcchalinihaaDoor
/- The walks of the program's numbers: whole ones, valid ones. -/
namespace Go.Proofs.YtnimcchalinihaaDoor
open Sg Go.IntWalk
set_option maxRecDepth 100000
set_option maxHeartbeats 2000000
section
variable {F : World} {M : List Nat} {H : List Res}
theorem numP_digits {t : List UInt8} {mi pl : Bool} {w : List UInt8} (h : numP t = some (mi, w, pl)) : (∀ j, j < w.length → 48 ≤ bAt w j ∧ bAt w j ≤ 57) ∧ w.length ≤ t.length := by
  have h1 : w = (cutP 45 t).1.take (runD (cutP 45 t).1) := by
    unfold numP at h
    split at h
    · cases h
    · split at h
      · cases h
      · split at h
        · cases h
        · split at h
          · simp only [Option.some.injEq, Prod.mk.injEq] at h
            exact h.2.1.symm
          · cases h
  have h2 := runD_le (cutP 45 t).1
  have h3 := cutP_len 45 t
  subst h1
  refine ⟨fun j hj => ?_, by rw [List.length_take]; omega⟩
  rw [List.length_take] at hj
  have h4 : bAt ((cutP 45 t).1.take (runD (cutP 45 t).1)) j = bAt (cutP 45 t).1 j := by
    unfold bAt
    simp only [List.getD]
    rw [List.getElem?_take_of_lt (by omega)]
  rw [h4]
  exact runD_digit (by omega)
theorem valid_spec {t : List UInt8} (hl : t.length ≤ 1100000) : Meets Tryd.prog 82 [sV t] F M H (fun e H' => e = .returned (.bool (numP t).isSome) ∧ H' = H) := by
  refine Meets.enter Tryd.func82 rfl rfl ?_
  repeat' (first | (apply T.mv; apply rfl; apply rfl) | (apply T.asn; apply rfl; apply rfl) | with_reducible refine Sr.nil ?_ | with_reducible refine S.seq ?_ | with_reducible refine S.reg ?_ | fail)
  refine T.call rfl rfl (read_spec hl) ?_
  rintro _ _ ⟨mi, w, d, pt, pl, dn, ex, rfl, hH, hx⟩
  have hH2 := hH.symm
  subst hH2
  repeat' (first | (apply T.mv; apply rfl; apply rfl) | (apply T.asn; apply rfl; apply rfl) | (apply T.extract; apply rfl; apply rfl; apply rfl) | (apply T.storeW; apply rfl; apply rfl; infer_instance; (first | rfl | (simp only [List.length_append, List.length_map, List.length_set, List.length_replicate, List.length_cons, List.length_nil]; first | done | omega)); (first | rfl | (simp only [List.length_append, List.length_map, List.length_set, List.length_replicate, List.length_cons, List.length_nil]; first | done | omega)); (first | rfl | (repeat' first | apply all_nV | apply all_bV | apply all_iV | rfl | apply all_app))) | (apply T.alloc; apply rfl; intro nb) | with_reducible refine Sr.nil ?_ | with_reducible refine S.seq ?_ | with_reducible refine S.reg ?_ | (apply T.retW; apply rfl) | (with_reducible apply T.ofRet) | fail)
  exact ⟨_, PSub.drop (PSub.refl _), rfl, rfl⟩
theorem whole_spec {t : List UInt8} (hl : t.length ≤ 1100000) : Meets Tryd.prog 81 [sV t] F M H (fun e H' => e = .returned (.tuple ⟨[.int .i64 (wholeX t).1, .bool (wholeX t).2]⟩) ∧ H' = H) := by
  refine Meets.enter Tryd.func81 rfl rfl ?_
  repeat' (first | (apply T.mv; apply rfl; apply rfl) | (apply T.asn; apply rfl; apply rfl) | with_reducible refine Sr.nil ?_ | with_reducible refine S.seq ?_ | with_reducible refine S.reg ?_ | fail)
  refine T.call rfl rfl (read_spec hl) ?_
  rintro _ _ ⟨mi, w, d, pt, pl, dn, ex, rfl, hH, hx⟩
  have hH2 := hH.symm
  subst hH2
  unfold wholeX
  cases hn : numP t with
  | none =>
    repeat' (first | (apply T.mv; apply rfl; apply rfl) | (apply T.asn; apply rfl; apply rfl) | (apply T.extract; apply rfl; apply rfl; apply rfl) | (apply T.notB; apply rfl; apply rfl) | (apply T.pickT; apply rfl; apply rfl; apply rfl) | (apply T.storeW; apply rfl; apply rfl; infer_instance; (first | rfl | (simp only [List.length_append, List.length_map, List.length_set, List.length_replicate, List.length_cons, List.length_nil]; first | done | omega)); (first | rfl | (simp only [List.length_append, List.length_map, List.length_set, List.length_replicate, List.length_cons, List.length_nil]; first | done | omega)); (first | rfl | (repeat' first | apply all_nV | apply all_bV | apply all_iV | rfl | apply all_app))) | (apply T.alloc; apply rfl; intro nb) | with_reducible refine Sr.nil ?_ | with_reducible refine S.seq ?_ | with_reducible refine S.reg ?_ | (apply T.skip; apply rfl; (first | with_reducible rfl | decide); apply rfl) | (apply S.condTV; apply rfl; (first | with_reducible rfl | decide)) | (apply T.retW; apply rfl) | (with_reducible apply T.ofRet) | fail)
    exact ⟨_, PSub.drop (PSub.refl _), rfl, rfl⟩
  | some x =>
    obtain rfl := hx x hn
    obtain ⟨hd, hw⟩ := numP_digits hn
    cases pl with
    | false =>
      repeat' (first | (apply T.mv; apply rfl; apply rfl) | (apply T.asn; apply rfl; apply rfl) | (apply T.fieldAddrZ; apply rfl; apply rfl) | (apply T.load; apply rfl; apply rfl; infer_instance; apply rfl; apply rfl) | (apply T.extract; apply rfl; apply rfl; apply rfl) | (apply T.notB; apply rfl; apply rfl) | (apply T.pickF; apply rfl; apply rfl; apply rfl) | (apply T.storeW; apply rfl; apply rfl; infer_instance; (first | rfl | (simp only [List.length_append, List.length_map, List.length_set, List.length_replicate, List.length_cons, List.length_nil]; first | done | omega)); (first | rfl | (simp only [List.length_append, List.length_map, List.length_set, List.length_replicate, List.length_cons, List.length_nil]; first | done | omega)); (first | rfl | (repeat' first | apply all_nV | apply all_bV | apply all_iV | rfl | apply all_app))) | (apply T.alloc; apply rfl; intro nb) | with_reducible refine Sr.nil ?_ | with_reducible refine S.seq ?_ | with_reducible refine S.reg ?_ | (apply S.condTV; apply rfl; (first | with_reducible rfl | decide)) | (apply T.retW; apply rfl) | (with_reducible apply T.ofRet) | (apply T.ung; apply rfl) | fail)
      exact ⟨_, PSub.drop (PSub.refl _), rfl, rfl⟩
    | true =>
      simp only
      repeat' (first | (apply T.slen; apply rfl; apply rfl) | (apply T.mv; apply rfl; apply rfl) | (apply T.asn; apply rfl; apply rfl) | (apply T.fieldAddrZ; apply rfl; apply rfl) | (apply T.load; apply rfl; apply rfl; infer_instance; apply rfl; apply rfl) | (apply T.extract; apply rfl; apply rfl; apply rfl) | (apply T.notB; apply rfl; apply rfl) | (apply T.pickF; apply rfl; apply rfl; apply rfl) | (apply T.storeW; apply rfl; apply rfl; infer_instance; (first | rfl | (simp only [List.length_append, List.length_map, List.length_set, List.length_replicate, List.length_cons, List.length_nil]; first | done | omega)); (first | rfl | (simp only [List.length_append, List.length_map, List.length_set, List.length_replicate, List.length_cons, List.length_nil]; first | done | omega)); (first | rfl | (repeat' first | apply all_nV | apply all_bV | apply all_iV | rfl | apply all_app))) | (apply T.alloc; apply rfl; intro nb) | with_reducible refine Sr.nil ?_ | with_reducible refine S.seq ?_ | with_reducible refine S.block ?_ | with_reducible refine S.reg ?_ | with_reducible refine S.skip ?_ | (apply S.condFV; apply rfl; (first | with_reducible rfl | decide)) | (with_reducible apply T.ofRet) | (apply T.ung; apply rfl) | fail)
      refine S.loopE 1 [0, 4, 5, 23] (fun R b' μ H' e => ∃ i : Nat, H' = .blk nb (numV mi w d pt true dn ex) 155 :: R ∧ e = (6, .int .u64 (decV (w.take i) : Nat)) :: (24, .int .i64 i) :: b' ∧ (i ≤ w.length ∧ decV (w.take i) ≤ 9223372036854775808) ∧ μ = w.length - i) rfl rfl ?_ _ _ ⟨0, rfl, rfl, ⟨Nat.zero_le _, by simp [decV]⟩, rfl⟩ (by repeat' first | exact trivial | refine And.intro rfl ?_)
      rintro _ _ _ ⟨i, rfl, rfl, ⟨h1, h2⟩, rfl⟩ ih
      by_cases h3 : i < w.length
      · have hdi := hd i h3
        have hb : (w.getD i 0).toNat = bAt w i := rfl
        have hstep : decV (w.take (i + 1)) = 10 * decV (w.take i) + (bAt w i - 48) := by
          have hg : w[i] = w.getD i 0 := by simp [List.getD, h3]
          rw [List.take_succ_eq_append_getElem h3, decV_snoc, hg, hb]
        have hmono := decV_mono (l := w) (i := i + 1) (by omega)
        by_cases h4 : decV (w.take (i + 1)) ≤ 9223372036854775808
        · have e9 : (10 * decV (w.take i) + ((w.getD i 0).toNat - 48) : Nat) = decV (w.take (i + 1)) := by rw [hstep, hb]
          repeat' (first | ((with_reducible apply T.subU8N (n := 48)); apply rfl; apply rfl; omega; apply rfl) | (refine T.subU64N (m := 9223372036854775808) rfl rfl (by omega) rfl ?_) | (refine T.quoU64 10 rfl rfl (by omega) rfl ?_) | (refine T.mulU64N (m := 10) rfl rfl (by omega) rfl ?_) | (refine T.addU64N rfl rfl (by omega) rfl ?_; rw [e9]) | (apply T.sidx; apply rfl; apply rfl; omega; apply rfl) | (apply T.mv; apply rfl; apply rfl) | (apply T.asn; apply rfl; apply rfl) | (apply T.fieldAddrZ; apply rfl; apply rfl) | (apply T.load; apply rfl; apply rfl; infer_instance; apply rfl; apply rfl) | (apply T.lss; apply rfl; apply rfl; apply rfl) | (apply T.gtr; apply rfl; apply rfl; apply rfl) | (apply T.addI; apply rfl; apply rfl; omega; apply rfl) | (apply T.convU64; apply rfl; omega; apply rfl) | with_reducible refine Sr.nil ?_ | with_reducible refine S.seq ?_ | with_reducible refine S.block ?_ | with_reducible refine S.reg ?_ | with_reducible refine S.skip ?_ | with_reducible refine S.inBlock ?_ | (apply S.condQ; apply rfl; all_goals (intro _; try (exfalso; first | omega | with_reducible contradiction))) | fail)
          exact ih _ _ _ _ ⟨i + 1, rfl, rfl, ⟨by omega, h4⟩, rfl⟩ (by omega) (by repeat' first | exact trivial | refine And.intro rfl ?_)
        · have hv : whole64 mi (decV w) = (0, false) := by
            unfold whole64
            cases mi
            · rw [if_neg (by simp), if_neg (by omega)]
            · rw [if_pos rfl, if_neg (by omega)]
          rw [hv]
          repeat' (first | ((with_reducible apply T.subU8N (n := 48)); apply rfl; apply rfl; omega; apply rfl) | (refine T.subU64N (m := 9223372036854775808) rfl rfl (by omega) rfl ?_) | (refine T.quoU64 10 rfl rfl (by omega) rfl ?_) | (apply T.sidx; apply rfl; apply rfl; omega; apply rfl) | (apply T.mv; apply rfl; apply rfl) | (apply T.asn; apply rfl; apply rfl) | (apply T.fieldAddrZ; apply rfl; apply rfl) | (apply T.load; apply rfl; apply rfl; infer_instance; apply rfl; apply rfl) | (apply T.lss; apply rfl; apply rfl; apply rfl) | (apply T.gtr; apply rfl; apply rfl; apply rfl) | (apply T.convU64; apply rfl; omega; apply rfl) | with_reducible refine Sr.nil ?_ | with_reducible refine S.seq ?_ | with_reducible refine S.block ?_ | with_reducible refine S.reg ?_ | with_reducible refine S.skip ?_ | (apply S.condQ; apply rfl; all_goals (intro _; try (exfalso; first | omega | with_reducible contradiction))) | (apply T.retW; apply rfl) | fail)
          exact ⟨_, PSub.drop (PSub.refl _), rfl, rfl⟩
      · obtain rfl : i = w.length := by omega
        rw [List.take_length] at h2 ⊢
        unfold whole64
        cases mi with
        | true =>
          rw [if_pos rfl, if_pos h2]
          repeat' (first | (apply T.negU64; apply rfl; apply rfl) | (refine T.convNeg rfl h2 rfl ?_) | (apply T.mv; apply rfl; apply rfl) | (apply T.asn; apply rfl; apply rfl) | (apply T.fieldAddrZ; apply rfl; apply rfl) | (apply T.load; apply rfl; apply rfl; infer_instance; apply rfl; apply rfl) | (apply T.lss; apply rfl; apply rfl; apply rfl) | (apply T.notB; apply rfl; apply rfl) | (apply T.pickF; apply rfl; apply rfl; apply rfl) | with_reducible refine Sr.nil ?_ | with_reducible refine S.seq ?_ | with_reducible refine S.reg ?_ | with_reducible refine S.skip ?_ | (apply S.exit; apply rfl) | (apply T.skip; apply rfl; (first | with_reducible rfl | decide); apply rfl) | (apply S.condTV; apply rfl; (first | with_reducible rfl | decide)) | (apply S.condFV; apply rfl; (first | with_reducible rfl | decide)) | (apply S.condQ; apply rfl; all_goals (intro _; try (exfalso; first | omega | with_reducible contradiction))) | (apply T.retW; apply rfl) | fail)
          exact ⟨_, PSub.drop (PSub.refl _), rfl, rfl⟩
        | false =>
          rw [if_neg (by simp)]
          by_cases h5 : decV w < 9223372036854775808
          · rw [if_pos h5]
            repeat' (first | (apply T.mv; apply rfl; apply rfl) | (apply T.asn; apply rfl; apply rfl) | (apply T.fieldAddrZ; apply rfl; apply rfl) | (apply T.load; apply rfl; apply rfl; infer_instance; apply rfl; apply rfl) | (apply T.lss; apply rfl; apply rfl; apply rfl) | (apply T.eql; apply rfl; apply rfl; apply rfl) | (apply T.notB; apply rfl; apply rfl) | (apply T.pickT; apply rfl; apply rfl; apply rfl) | (apply T.convI64; apply rfl; omega; apply rfl) | with_reducible refine Sr.nil ?_ | with_reducible refine S.seq ?_ | with_reducible refine S.reg ?_ | with_reducible refine S.skip ?_ | (apply S.exit; apply rfl) | (apply T.ungV; apply rfl; (first | with_reducible rfl | decide)) | (apply S.condFV; apply rfl; (first | with_reducible rfl | decide)) | (apply S.condQ; apply rfl; all_goals (intro _; try (exfalso; first | omega | with_reducible contradiction))) | (apply T.retW; apply rfl) | fail)
            exact ⟨_, PSub.drop (PSub.refl _), rfl, rfl⟩
          · rw [if_neg h5]
            repeat' (first | (apply T.mv; apply rfl; apply rfl) | (apply T.asn; apply rfl; apply rfl) | (apply T.fieldAddrZ; apply rfl; apply rfl) | (apply T.load; apply rfl; apply rfl; infer_instance; apply rfl; apply rfl) | (apply T.lss; apply rfl; apply rfl; apply rfl) | (apply T.eql; apply rfl; apply rfl; apply rfl) | (apply T.notB; apply rfl; apply rfl) | (apply T.pickT; apply rfl; apply rfl; apply rfl) | with_reducible refine Sr.nil ?_ | with_reducible refine S.seq ?_ | with_reducible refine S.reg ?_ | (apply S.exit; apply rfl) | (apply T.ungV; apply rfl; (first | with_reducible rfl | decide)) | (apply S.condQ; apply rfl; all_goals (intro _; try (exfalso; first | omega | with_reducible contradiction))) | (apply T.retW; apply rfl) | fail)
            exact ⟨_, PSub.drop (PSub.refl _), rfl, rfl⟩
end
end Go.Proofs.YtnimcchalinihaaDoor
/- The walks of the program's reader of JSON: nodes put down, lists and objects opened and closed. -/
namespace Go.Proofs.YtnimcchalinihaaDoor
open Sg Go.IntWalk
set_option maxRecDepth 100000
set_option maxHeartbeats 4000000
instance : Inhabited Nd := ⟨nd 0⟩
abbrev ndV (n : Nd) : List Value := [.int .i64 n.kind, sV n.key, sV n.text, .bool n.whole, .int .i64 n.int, .int .i64 n.kids]
section
variable {F : World} {M : List Nat} {H : List Res} {p : Nat} {t : List UInt8} {m : Value} {a s : Nat} {k : List UInt8} {c b : Int}
end
end Go.Proofs.YtnimcchalinihaaDoor
/- A row of the call's own, made shorter. -/
namespace Sg
open Go Go.RowKit
theorem shrink_owns {w : World} {E : TypeId} {n cp : Nat} {a : Option Addr} {xs : List Value} {v : Value} (h : w.ownsRow 0 E 1 (.slice a (n + 1) cp) (n + 1) (xs ++ [v])) : w.ownsRow 0 E 1 (.slice a n cp) n xs := by
  obtain ⟨h1, h2⟩ := h
  have h3 : xs.length = n := by simpa using h1
  refine ⟨by omega, ?_⟩
  rcases h2 with ⟨_, h0⟩ | ⟨g, cap, cur, hv, hg, hh, hn, hm, hs, ht⟩
  · omega
  · simp only [Value.slice.injEq] at hv
    obtain ⟨rfl, _, rfl⟩ := hv
    refine .inr ⟨g, cp, cur, rfl, hg, hh, by omega, hm, hs, ?_⟩
    rw [Nat.mul_one] at ht ⊢
    have := congrArg (List.take n) ht
    rw [List.take_take, Nat.min_eq_left (Nat.le_succ n)] at this
    rw [this, List.take_append_of_le_length (by omega), List.take_of_length_le (by omega)]
theorem St.shrink {F : World} {M : List Nat} {w : World} {H : List Res} {a : Option Addr} {cp n : Nat} {E : TypeId} {xs : List Value} {v : Value} (h : St F M w (.row a cp E 1 (n + 1) (xs ++ [v]) :: H)) : St F M w (.row a cp E 1 n xs :: H) :=
  h.turn rfl rfl rfl (Nat.le_refl _) (fun _ _ _ => rfl) (shrink_owns (h.res _ (List.mem_cons_self ..))) (fun b hb => .inl hb) (by cases a <;> simp [Res.foot])
theorem St.midDrop {F : World} {M : List Nat} {w : World} {A C : List Res} {q : Res} (h : St F M w (A ++ q :: C)) : St F M w (A ++ C) := (h.perm List.perm_middle).tail
section
variable {c : Ctx} {dr : Bool} {ds : List Deferred} {H : List Res} {k : List Item} {e : Env} {ops : Array Oper} {l : List Oper} {κ : List Res → Env → Prop}
theorem S.shrink {a : Option Addr} {cp n : Nat} {E : TypeId} {xs : List Value} {v : Value} (h : S c ds (.row a cp E 1 n xs :: H) k e) : S c ds (.row a cp E 1 (n + 1) (xs ++ [v]) :: H) k e := h.weaken fun _ hw => hw.shrink
end
end Sg
/- The walks of the program's reader of JSON: its whole state; lists and objects opened and closed. -/
namespace Go.Proofs.YtnimcchalinihaaDoor
open Sg Go.IntWalk
set_option maxRecDepth 100000
set_option maxHeartbeats 4000000
/-- What is open: the place of its node; of an object its map. -/
abbrev Stk := List (Nat × Option (Nat × Ents))
def mpV (x : Nat × Option (Nat × Ents)) : Value := match x.2 with
  | none => .map none
  | some y => .map (some y.1)
abbrev mpR (mb : Nat) (m : Ents) : Res := .ex mb (mapQ Tryd.prog 9 3 m.length (mapD m))
def mapsR : Stk → List Res → List Res
  | [], H => H
  | (_, none) :: r, H => mapsR r H
  | (_, some y) :: r, H => mpR y.1 y.2 :: mapsR r H
/-- The reader's whole state. -/
structure Jc where
  oa : Option Addr
  oc : Nat
  na : Option Addr
  nc : Nat
  ma : Option Addr
  mc : Nat
  out : List Nd
  st : Stk
  a : Nat
  s : Nat
  k : List UInt8
section
variable {F : World} {M : List Nat} {H : List Res} {p : Nat} {t : List UInt8} {o : Value} {a s : Nat} {k : List UInt8} {c b : Int}
end
end Go.Proofs.YtnimcchalinihaaDoor
/- The walks of the program's reader of JSON: words and numbers put down. -/
namespace Go.Proofs.YtnimcchalinihaaDoor
open Sg Go.IntWalk
set_option maxRecDepth 100000
set_option maxHeartbeats 4000000
section
variable {F : World} {M : List Nat} {H : List Res} {p : Nat} {t : List UInt8} {m : Value} {a s : Nat} {k : List UInt8} {c b : Int} {oa na : Option Addr} {oc nc : Nat} {out : List Nd} {is : List Nat}
end
end Go.Proofs.YtnimcchalinihaaDoor
/- The walks of the program's reader of JSON: numbers put down. -/
namespace Go.Proofs.YtnimcchalinihaaDoor
open Sg Go.IntWalk
set_option maxRecDepth 100000
set_option maxHeartbeats 4000000
section
variable {F : World} {M : List Nat} {H : List Res} {p : Nat} {t : List UInt8} {m : Value} {a s : Nat} {k : List UInt8} {c b : Int} {oa na : Option Addr} {oc nc : Nat} {out : List Nd} {is : List Nat}
end
end Go.Proofs.YtnimcchalinihaaDoor
/- The walks of the program's reader of JSON: its state and the plain machine's. -/
namespace Go.Proofs.YtnimcchalinihaaDoor
open Sg Go.IntWalk
set_option maxRecDepth 100000
set_option maxHeartbeats 4000000
def OptR : Option (Nat × Ents) → Option (List (List UInt8)) → Prop
  | none, none => True
  | some y, some ns => ∀ x, eget y.2 x = if x ∈ ns then some 1 else none
  | _, _ => False
def StR : Stk → List (Nat × Option (List (List UInt8))) → Prop
  | [], [] => True
  | x :: r, z :: q => x.1 = z.1 ∧ OptR x.2 z.2 ∧ StR r q
  | _, _ => False
/-- What holds of the reader's state. -/
structure Inv (t : List UInt8) (C : Jc) : Prop where
  at_ : C.a ≤ t.length
  outl : C.out.length ≤ C.a
  kids : ∀ x ∈ C.out, 0 ≤ x.kids ∧ x.kids ≤ C.out.length
  idx : ∀ x ∈ C.st, x.1 < C.out.length
  kind : ∀ x ∈ C.st, (C.out.getD x.1 default).kind = if x.2.isSome = true then 7 else 6
  maps : ∀ x ∈ C.st, ∀ y, x.2 = some y → y.2.length ≤ C.a
  dep : C.st.length ≤ 32
structure Rel (C : Jc) (c : Cf) : Prop where
  p : C.a = c.p
  s : C.s = c.s
  out : C.out = c.out
  key : C.k = c.key
  stk : StR C.st c.stk
section
variable {F : World} {M : List Nat} {H : List Res} {p : Nat} {t : List UInt8} {C : Jc} {c : Cf}
end
end Go.Proofs.YtnimcchalinihaaDoor
/- Entries put into a map: what it says then, in plain Lean. -/
namespace Sg
theorem eget_eins (x : List UInt8 × Int) (n : List UInt8) : ∀ m : Ents, (∀ p ∈ m, p.1 ≠ x.1) → eget (eins x m) n = if x.1 = n then some x.2 else eget m n
  | [], _ => by
    unfold eins eget
    by_cases h : x.1 = n <;> simp [h]
  | q :: r, hm => by
    have hq : q.1 ≠ x.1 := hm q (List.mem_cons_self ..)
    have ih := eget_eins x n r (fun p hp => hm p (List.mem_cons_of_mem _ hp))
    unfold eins
    split
    · unfold eget
      by_cases h : x.1 = n
      · simp [h]
      · simp [h]
    · by_cases h2 : q.1 = n
      · have h3 : ¬ x.1 = n := fun e => hq (h2.trans e.symm)
        rw [if_neg h3]
        unfold eget
        simp [h2]
      · have e1 : ∀ l : Ents, eget (q :: l) n = eget l n := fun l => by
          unfold eget
          simp [h2]
        rw [e1, e1, ih]
theorem eget_edel (k n : List UInt8) (m : Ents) (h : k ≠ n) : eget (edel m k) n = eget m n := by
  unfold eget edel
  induction m with
  | nil => rfl
  | cons q r ih =>
    by_cases hq : q.1 = k
    · have : ¬ q.1 = n := fun e => h (hq.symm.trans e)
      rw [List.filter_cons_of_neg (by simp [hq]), ih]
      simp [this]
    · rw [List.filter_cons_of_pos (by simp [hq])]
      by_cases h2 : q.1 = n
      · simp [h2]
      · rw [List.find?_cons_of_neg (by simp [h2]), List.find?_cons_of_neg (by simp [h2]), ih]
theorem eget_put (m : Ents) (k n : List UInt8) (v : Int) : eget (eput m k v) n = if k = n then some v else eget m n := by
  unfold eput
  rw [eget_eins (k, v) n (edel m k) (fun p hp => by
    unfold edel at hp
    rw [List.mem_filter] at hp
    simpa using hp.2)]
  by_cases h : k = n
  · rw [if_pos h, if_pos h]
  · rw [if_neg h, if_neg h]
    exact eget_edel k n m h
theorem eins_length (x : List UInt8 × Int) : ∀ m : Ents, (eins x m).length = m.length + 1
  | [] => rfl
  | q :: r => by
    unfold eins
    split
    · rfl
    · rw [List.length_cons, eins_length x r]
      rfl
theorem eput_length (m : Ents) (k : List UInt8) (v : Int) : (eput m k v).length ≤ m.length + 1 := by
  unfold eput
  rw [eins_length]
  have : (edel m k).length ≤ m.length := List.length_filter_le _ _
  omega
end Sg
/- The walks of the program's reader of JSON: single steps. -/
namespace Go.Proofs.YtnimcchalinihaaDoor
open Sg Go.IntWalk
set_option maxRecDepth 100000
set_option maxHeartbeats 4000000
section
variable {F : World} {M : List Nat} {H : List Res} {p : Nat} {t : List UInt8} {C : Jc} {c : Cf}
end
end Go.Proofs.YtnimcchalinihaaDoor
/- The walks of the program's reader of JSON: values. -/
namespace Go.Proofs.YtnimcchalinihaaDoor
open Sg Go.IntWalk
set_option maxRecDepth 100000
set_option maxHeartbeats 4000000
section
variable {F : World} {M : List Nat} {H : List Res} {p : Nat} {t : List UInt8} {C : Jc} {c : Cf}
end
end Go.Proofs.YtnimcchalinihaaDoor
/- The walks of the program's reader of JSON: names. -/
namespace Go.Proofs.YtnimcchalinihaaDoor
open Sg Go.IntWalk
set_option maxRecDepth 100000
set_option maxHeartbeats 4000000
section
variable {F : World} {M : List Nat} {H : List Res} {p : Nat} {t : List UInt8} {C : Jc} {c : Cf}
end
end Go.Proofs.YtnimcchalinihaaDoor
/- The walks of the program's reader of JSON: names and what stands behind an item, as steps. -/
namespace Go.Proofs.YtnimcchalinihaaDoor
open Sg Go.IntWalk
set_option maxRecDepth 100000
set_option maxHeartbeats 4000000
section
variable {F : World} {M : List Nat} {H : List Res} {p : Nat} {t : List UInt8} {C : Jc} {c : Cf}
end
end Go.Proofs.YtnimcchalinihaaDoor
/- The walks of the program's reader of JSON: a step. -/
namespace Sg
/-- What stands on the stack where a state needs it. -/
structure GoodC (c : Cf) : Prop where
  one : c.s = 1 ∨ c.s = 3 ∨ c.s = 5 → c.stk ≠ []
  top : c.s = 2 ∨ c.s = 3 → topObj c.stk = true
  le : c.s ≤ 6
section
variable {wh : List UInt8 → Int × Bool} {t : List UInt8} {c c' : Cf} {ch : UInt8}
end
end Sg
namespace Go.Proofs.YtnimcchalinihaaDoor
open Sg Go.IntWalk
set_option maxRecDepth 100000
set_option maxHeartbeats 4000000
section
variable {F : World} {M : List Nat} {H : List Res} {p : Nat} {t : List UInt8} {C : Jc} {c : Cf}
end
end Go.Proofs.YtnimcchalinihaaDoor
/- The walks of the program's reader of JSON: it says what going down says. -/
namespace Go.Proofs.YtnimcchalinihaaDoor
open Sg Go.IntWalk
set_option maxRecDepth 100000
set_option maxHeartbeats 4000000
section
variable {F : World} {M : List Nat} {H : List Res} {p : Nat} {t : List UInt8} {C : Jc} {c : Cf}
end
end Go.Proofs.YtnimcchalinihaaDoor
/- A literal of records is a growable row. -/
namespace Sg
open Go Go.RowKit
theorem St.blkRowN {F : World} {M : List Nat} {w : World} {H : List Res} {b n sz : Nat} {vs : List Value} {E : TypeId} (h : St F M w (.blk b vs E :: H)) (hn : vs.length = n * sz) (hm : n ≤ maxLen) : St F M w (.row (some ⟨b, 0, none⟩) n E sz n vs :: H) := by
  refine h.weakB (fun _ h => h) h.nd (fun r hr => ?_)
  rcases List.mem_cons.1 hr with rfl | hr
  · have hb : w.heap[b]? = some (.cells ⟨vs⟩ E (0, 0)) := h.res _ (List.mem_cons_self ..)
    exact ⟨hn, .inr ⟨b, n, ⟨vs⟩, rfl, Nat.zero_le _, hb, Nat.le_refl _, hm, by simp [hn], by (try dsimp only); rw [← hn]; exact List.take_length⟩⟩
  · exact h.res r (List.mem_cons_of_mem _ hr)
section
variable {c : Ctx} {dr : Bool} {ds : List Deferred} {H : List Res} {e : Env} {ops : Array Oper} {l : List Oper} {κ : List Res → Env → Prop}
theorem S.rowOfN {k : List Item} {b n sz : Nat} {vs : List Value} {E : TypeId} (hn : vs.length = n * sz) (hm : n ≤ maxLen) (h : S c ds (.row (some ⟨b, 0, none⟩) n E sz n vs :: H) k e) : S c ds (.blk b vs E :: H) k e := h.weaken fun _ hw => hw.blkRowN hn hm
end
end Sg
/- Nodes in a row that stand for values: forests; what has been read from a text is one value. -/
namespace Sg
/-- So many values, one behind the other. -/
inductive Fo : Nat → List Nd → Prop
  | nil : Fo 0 []
  | node {n : Nd} {m k : Nat} {a b : List Nd} : n.kids = (m : Int) → Fo m a → Fo k b → Fo (k + 1) (n :: (a ++ b))
theorem Fo.app {j : Nat} {a : List Nd} (h : Fo j a) {k : Nat} {b : List Nd} (hb : Fo k b) : Fo (j + k) (a ++ b) := by
  induction h with
  | nil => simpa using hb
  | @node n m i x y hn hx _ _ ih =>
    have := Fo.node (n := n) hn hx ih
    rw [List.cons_append, List.append_assoc, show i + 1 + k = i + k + 1 by omega]
    exact this
theorem Fo.one {n : Nd} {m : Nat} {a : List Nd} (hn : n.kids = (m : Int)) (ha : Fo m a) : Fo 1 (n :: a) := by
  have := Fo.node hn ha Fo.nil
  simpa using this
theorem Fo.one_inv {l : List Nd} (h : Fo 1 l) : ∃ (n : Nd) (m : Nat) (a : List Nd), l = n :: a ∧ n.kids = (m : Int) ∧ Fo m a := by
  cases h with
  | node hn ha hb =>
    cases hb
    exact ⟨_, _, _, by simp, hn, ha⟩
theorem Fo.le {k : Nat} {l : List Nd} (h : Fo k l) : k ≤ l.length := by
  induction h with
  | nil => exact Nat.le_refl _
  | node _ _ _ _ ih => simp only [List.length_cons, List.length_append]; omega
theorem Fo.list {k : Nat} {l : List Nd} (h : Fo k l) : ∃ xs : List (List Nd), xs.length = k ∧ l = xs.flatten ∧ ∀ x ∈ xs, Fo 1 x := by
  induction h with
  | nil => exact ⟨[], rfl, rfl, fun x hx => by cases hx⟩
  | @node n m i x y hn hx _ _ ih =>
    obtain ⟨xs, h1, h2, h3⟩ := ih
    refine ⟨(n :: x) :: xs, by simp [h1], by simp [h2], fun z hz => ?_⟩
    rcases List.mem_cons.1 hz with rfl | hz
    · exact Fo.one hn hx
    · exact h3 z hz
theorem Fo.of : ∀ {xs : List (List Nd)}, (∀ x ∈ xs, Fo 1 x) → Fo xs.length xs.flatten
  | [], _ => Fo.nil
  | x :: r, h => by
    have h1 := Fo.app (h x (List.mem_cons_self ..)) (Fo.of fun y hy => h y (List.mem_cons_of_mem _ hy))
    rw [List.flatten_cons, List.length_cons, show r.length + 1 = 1 + r.length by omega]
    exact h1
/-- Where values stand that follow one another from a place on. -/
def offs : Nat → List (List Nd) → List Nat
  | _, [] => []
  | p, x :: r => p :: offs (p + x.length) r
theorem offs_len : ∀ (p : Nat) (xs : List (List Nd)), (offs p xs).length = xs.length
  | _, [] => rfl
  | p, x :: r => by simp [offs, offs_len]
def headN (x : List Nd) : Nd := match x with
  | n :: _ => n
  | [] => nd 0
end Sg
/- What has been read from a text: how long it is, its texts and kinds. -/
namespace Sg
/-- The bounds of a node. -/
structure NdOk (B : Nat) (n : Nd) : Prop where
  text : n.text.length ≤ B
  key : n.key.length ≤ B
  kind : 1 ≤ n.kind ∧ n.kind ≤ 7
/-- What is said of values: their length, their nodes' bounds. -/
def ValSz (t : List UInt8) (p a : Nat) (l : List Nd) : Prop := p + l.length ≤ a ∧ a ≤ t.length ∧ (∀ n ∈ l, NdOk (4 * t.length) n)
end Sg
/- Faults of what is read from a text are never 0; a list's names are not asked. -/
namespace Sg
/-- Faults are none of them 0. -/
def Gt.named {α : Type} (g : Gt α) : Prop := ∀ c b, g = .bad c b → c ≠ 0
/-- A reader of values as it should be. -/
structure ValR (t : List UInt8) (val : Nat → Gt (List Nd)) : Prop where
  fits : ∀ p, p ≤ t.length → (val p).fits (p + 1) t.length
  sz : ∀ {p a l}, p ≤ t.length → val p = .ok a l → ValSz t p a l
  fo : ∀ {p a l}, val p = .ok a l → Fo 1 l
  named : ∀ p, p ≤ t.length → (val p).named
end Sg
/- Where the values in a list or an object stand. -/
namespace Sg
theorem drop_split {α : Type} {v a b : List α} {p : Nat} (h : v.drop p = a ++ b) : v.drop (p + a.length) = b := by
  rw [← List.drop_drop, h, List.drop_left]
theorem drop_le {α : Type} {v a b : List α} {p : Nat} (h : v.drop p = a ++ b) (ha : 0 < a.length) : p + a.length + b.length = v.length := by
  have := congrArg List.length h
  rw [List.length_drop, List.length_append] at this
  omega
theorem drop_head [Inhabited Nd] {v b : List Nd} {n : Nd} {p : Nat} (h : v.drop p = n :: b) : v.getD p default = n ∧ p < v.length := by
  have h1 : p < v.length := by
    rcases Nat.lt_or_ge p v.length with h1 | h1
    · exact h1
    · rw [List.drop_eq_nil_of_le h1] at h
      cases h
  rw [List.drop_eq_getElem_cons h1] at h
  injection h with h2 _
  exact ⟨by simp [List.getD, h1, h2], h1⟩
theorem Fo.pos {l : List Nd} (h : Fo 1 l) : 0 < l.length := h.le
theorem offs_snoc : ∀ (p : Nat) (xs : List (List Nd)) (x : List Nd), offs p (xs ++ [x]) = offs p xs ++ [p + xs.flatten.length]
  | p, [], x => by simp [offs]
  | p, y :: r, x => by
    rw [List.cons_append, offs, offs, offs_snoc]
    simp [Nat.add_assoc]
theorem offs_get : ∀ {p : Nat} {xs : List (List Nd)} {i : Nat}, i < xs.length → (offs p xs).getD i 0 = p + (xs.take i).flatten.length
  | p, x :: r, 0, _ => by simp [offs]
  | p, x :: r, i + 1, h => by
    have := offs_get (p := p + x.length) (xs := r) (i := i) (by simpa using h)
    rw [offs, List.getD_cons_succ, this, List.take_succ_cons, List.flatten_cons, List.length_append, Nat.add_assoc]
/-- A value at a place: its node and what stands in it. -/
structure At (v : List Nd) (p : Nat) (n : Nd) (xs : List (List Nd)) (r : List Nd) : Prop where
  drop : v.drop p = n :: (xs.flatten ++ r)
  kids : n.kids = (xs.length : Int)
  fo : ∀ x ∈ xs, Fo 1 x
theorem At.of_fo {v x r : List Nd} {p : Nat} (h : v.drop p = x ++ r) (hx : Fo 1 x) : ∃ n xs, x = n :: xs.flatten ∧ At v p n xs r := by
  obtain ⟨n, m, a, rfl, h1, h2⟩ := hx.one_inv
  obtain ⟨xs, h3, rfl, h4⟩ := h2.list
  exact ⟨n, xs, rfl, ⟨by simpa using h, by rw [h1, h3], h4⟩⟩
/-- The values in a value, each at its place. -/
theorem At.kid {v r : List Nd} {p i : Nat} {n : Nd} {xs : List (List Nd)} (h : At v p n xs r) (hi : i < xs.length) : v.drop (p + 1 + (xs.take i).flatten.length) = xs[i] ++ ((xs.drop (i + 1)).flatten ++ r) := by
  have h1 : v.drop (p + 1) = xs.flatten ++ r := by
    rw [← List.drop_drop, h.drop]
    rfl
  have h2 : xs.flatten = (xs.take i).flatten ++ (xs.drop i).flatten := by rw [← List.flatten_append, List.take_append_drop]
  rw [h2, List.append_assoc] at h1
  rw [drop_split h1, List.drop_eq_getElem_cons hi, List.flatten_cons, List.append_assoc]
theorem take_flat_succ {xs : List (List Nd)} {i : Nat} (hi : i < xs.length) : (xs.take (i + 1)).flatten.length = (xs.take i).flatten.length + xs[i].length := by
  rw [List.take_succ_eq_append_getElem hi, List.flatten_append, List.length_append]
  simp only [List.flatten_cons, List.flatten_nil, List.append_nil]
end Sg
/- The walks of the program's looks at nodes: what stands behind a value, what stands in it, its members. -/
namespace Go.Proofs.YtnimcchalinihaaDoor
open Sg Go.IntWalk
set_option maxRecDepth 100000
set_option maxHeartbeats 4000000
section
variable {F : World} {M : List Nat} {H : List Res} {v : List Nd} {p : Nat} {oa : Option Addr} {oc n : Nat}
end
end Go.Proofs.YtnimcchalinihaaDoor
/- Well shaped values, in plain Lean: by going down; and by a stack, node after node; both say the same. -/
namespace Sg
/-- May a node stand there, its children and its name apart? (ok: is it well formed UTF-8?) -/
def plainX (ok : List UInt8 → Bool) (n : Nd) : Bool :=
  if n.kind < 1 ∨ 7 < n.kind ∨ n.kids < 0 ∨ (0 < n.kids ∧ n.kind ≠ 6 ∧ n.kind ≠ 7) then false else
  if n.kind = 4 then (numP n.text).isSome && (n.whole == (wholeX n.text).2) && decide (n.int = (wholeX n.text).1) else
  if n.whole = true ∨ n.int ≠ 0 then false else
  if n.kind = 5 then ok n.text else decide (n.text = [])
def isRow (n : Nd) : Prop := n.kind = 6 ∨ n.kind = 7
instance (n : Nd) : Decidable (isRow n) := inferInstanceAs (Decidable (_ ∨ _))
/-- Is the name one of the names? -/
def hasN (nm : Option (List (List UInt8))) (k : List UInt8) : Bool := match nm with
  | some ns => decide (k ∈ ns)
  | none => false
/-- By going down: what stands behind so many values of a list or an object; d: so many more may be opened; names: of an object. -/
def takeK (ok : List UInt8 → Bool) : Nat → Nat → Option (List (List UInt8)) → Nat → List Nd → Option (List Nd)
  | _, _, _, 0, l => some l
  | 0, _, _, _ + 1, _ => none
  | f + 1, d, nm, k + 1, l => match l with
    | [] => none
    | n :: r =>
      if plainX ok n = false ∨ ok n.key = false ∨ (nm = none ∧ n.key ≠ []) ∨ (isRow n ∧ d = 0) then none else
      match takeK ok f (d - 1) (if n.kind = 7 then some [] else none) n.kids.toNat r with
      | none => none
      | some r' => if hasN nm n.key = true then none else takeK ok f d (nm.map (n.key :: ·)) k r'
/-- The stack: how many values are to come, the names so far. -/
abbrev Lv := Nat × Option (List (List UInt8))
def popL : List Lv → List Lv
  | [] => []
  | (k, nm) :: s => if k = 0 then popL s else (k, nm) :: s
def shM (ok : List UInt8 → Bool) : List Nd → List Lv → Bool
  | [], st => st.isEmpty
  | n :: r, st => match st with
    | [] => false
    | (k, nm) :: s =>
      if plainX ok n = false then false else
      if (nm = none ∧ n.key ≠ []) ∨ hasN nm n.key = true ∨ ok n.key = false then false else
      if isRow n then (if 32 < s.length + 1 then false else shM ok r (popL ((n.kids.toNat, if n.kind = 7 then some [] else none) :: (k - 1, nm.map (n.key :: ·)) :: s)))
      else shM ok r (popL ((k - 1, nm.map (n.key :: ·)) :: s))
/-- All of a list is one value. -/
def shapedX (ok : List UInt8 → Bool) (v : List Nd) : Bool := shM ok v [(1, none)]
theorem popL_zero (nm : Option (List (List UInt8))) (s : List Lv) : popL ((0, nm) :: s) = popL s := rfl
theorem popL_succ (k : Nat) (nm : Option (List (List UInt8))) (s : List Lv) : popL ((k + 1, nm) :: s) = (k + 1, nm) :: s := rfl
theorem plain_kids {ok : List UInt8 → Bool} {n : Nd} (h : plainX ok n = true) (hr : ¬ isRow n) : n.kids.toNat = 0 := by
  unfold plainX at h
  split at h
  · cases h
  · rename_i h1
    have h2 : ¬ (0 < n.kids) := fun h3 => h1 (.inr (.inr (.inr ⟨h3, fun e => hr (.inl e), fun e => hr (.inr e)⟩)))
    omega
theorem takeK_zero {ok : List UInt8 → Bool} {f d : Nat} {nm : Option (List (List UInt8))} {l : List Nd} : takeK ok f d nm 0 l = some l := by cases f <;> rfl
/-- A way down takes some of the list. -/
theorem takeK_len {ok : List UInt8 → Bool} : ∀ {f d : Nat} {nm : Option (List (List UInt8))} {k : Nat} {l r : List Nd}, takeK ok f d nm k l = some r → r.length ≤ l.length
  | f, d, nm, 0, l, r, h => by rw [takeK_zero] at h; cases h; exact Nat.le_refl _
  | 0, d, nm, k + 1, l, r, h => by cases h
  | f + 1, d, nm, k + 1, [], r, h => by cases h
  | f + 1, d, nm, k + 1, n :: t, r, h => by
    unfold takeK at h
    simp only at h
    split at h
    · cases h
    · split at h
      · cases h
      · rename_i r' h1
        split at h
        · cases h
        · have h2 := takeK_len h1
          have h3 := takeK_len h
          simp only [List.length_cons]
          omega
/-- Both ways: what the stack's machine says of values that follow, and of what stands behind them. -/
theorem shM_takeK {ok : List UInt8 → Bool} : ∀ (f : Nat) (l : List Nd) (d k : Nat) (nm : Option (List (List UInt8))) (s : List Lv), l.length < f → s.length + d = 32 →
    shM ok l (popL ((k, nm) :: s)) = match takeK ok f d nm k l with
      | none => false
      | some r => shM ok r (popL s)
  | 0, l, d, k, nm, s, h, _ => by omega
  | f + 1, l, d, 0, nm, s, h, hd => by rw [takeK_zero, popL_zero]
  | f + 1, [], d, k + 1, nm, s, h, hd => rfl
  | f + 1, n :: t, d, k + 1, nm, s, h, hd => by
    have ht : t.length < f := by simpa using h
    have e1 : shM ok (n :: t) ((k + 1, nm) :: s) = if plainX ok n = false then false else
        if (nm = none ∧ n.key ≠ []) ∨ hasN nm n.key = true ∨ ok n.key = false then false else
        if isRow n then (if 32 < s.length + 1 then false else shM ok t (popL ((n.kids.toNat, if n.kind = 7 then some [] else none) :: (k + 1 - 1, nm.map (n.key :: ·)) :: s)))
        else shM ok t (popL ((k + 1 - 1, nm.map (n.key :: ·)) :: s)) := rfl
    have e2 : takeK ok (f + 1) d nm (k + 1) (n :: t) = if plainX ok n = false ∨ ok n.key = false ∨ (nm = none ∧ n.key ≠ []) ∨ (isRow n ∧ d = 0) then none else
        match takeK ok f (d - 1) (if n.kind = 7 then some [] else none) n.kids.toNat t with
        | none => none
        | some r' => if hasN nm n.key = true then none else takeK ok f d (nm.map (n.key :: ·)) k r' := rfl
    rw [popL_succ, e1, e2]
    clear e1 e2
    by_cases h1 : plainX ok n = false
    · rw [if_pos h1, if_pos (.inl h1)]
    have h1' : plainX ok n = true := by simpa using h1
    rw [if_neg h1]
    by_cases h2 : ok n.key = false
    · rw [if_pos (.inr (.inr h2)), if_pos (.inr (.inl h2))]
    by_cases h3 : nm = none ∧ n.key ≠ []
    · rw [if_pos (.inl h3), if_pos (.inr (.inr (.inl h3)))]
    by_cases hr : isRow n
    · by_cases h5 : d = 0
      · rw [if_pos (show plainX ok n = false ∨ ok n.key = false ∨ (nm = none ∧ n.key ≠ []) ∨ (isRow n ∧ d = 0) from .inr (.inr (.inr ⟨hr, h5⟩)))]
        simp only
        split
        · rfl
        · rw [if_pos (by omega)]
      · rw [if_neg (show ¬ (plainX ok n = false ∨ ok n.key = false ∨ (nm = none ∧ n.key ≠ []) ∨ (isRow n ∧ d = 0)) from fun h => h.elim h1 (fun h => h.elim h2 (fun h => h.elim h3 (fun h => h5 h.2))))]
        have ih1 := shM_takeK (ok := ok) f t (d - 1) n.kids.toNat (if n.kind = 7 then some [] else none) ((k + 1 - 1, nm.map (n.key :: ·)) :: s) ht (by simp only [List.length_cons]; omega)
        by_cases h4 : hasN nm n.key = true
        · rw [if_pos (.inr (.inl h4))]
          cases takeK ok f (d - 1) (if n.kind = 7 then some [] else none) n.kids.toNat t with
          | none => rfl
          | some r' => simp only; rw [if_pos h4]
        · rw [if_neg (show ¬ ((nm = none ∧ n.key ≠ []) ∨ hasN nm n.key = true ∨ ok n.key = false) from fun h => h.elim h3 (fun h => h.elim h4 h2)), if_pos hr, if_neg (by omega), ih1]
          cases ht2 : takeK ok f (d - 1) (if n.kind = 7 then some [] else none) n.kids.toNat t with
          | none => rfl
          | some r' =>
            have hl := takeK_len ht2
            simp only
            rw [if_neg h4, show k + 1 - 1 = k by omega]
            exact shM_takeK (ok := ok) f r' d k (nm.map (n.key :: ·)) s (by omega) hd
    · rw [if_neg (show ¬ (plainX ok n = false ∨ ok n.key = false ∨ (nm = none ∧ n.key ≠ []) ∨ (isRow n ∧ d = 0)) from fun h => h.elim h1 (fun h => h.elim h2 (fun h => h.elim h3 (fun h => hr h.1)))), plain_kids h1' hr, takeK_zero]
      simp only
      by_cases h4 : hasN nm n.key = true
      · rw [if_pos (.inr (.inl h4)), if_pos h4]
      · rw [if_neg (show ¬ ((nm = none ∧ n.key ≠ []) ∨ hasN nm n.key = true ∨ ok n.key = false) from fun h => h.elim h3 (fun h => h.elim h4 h2)), if_neg hr, if_neg h4, show k + 1 - 1 = k by omega]
        exact shM_takeK (ok := ok) f t d k (nm.map (n.key :: ·)) s ht hd
/-- One value, and nothing behind it. -/
theorem shapedX_take (ok : List UInt8 → Bool) (v : List Nd) : shapedX ok v = match takeK ok (v.length + 1) 32 none 1 v with
    | some [] => true
    | _ => false := by
  unfold shapedX
  have := shM_takeK (ok := ok) (v.length + 1) v 32 1 none [] (by omega) rfl
  rw [popL_succ] at this
  rw [this]
  cases takeK ok (v.length + 1) 32 none 1 v with
  | none => rfl
  | some r => cases r <;> rfl
end Sg
/- Values in a row of nodes, reckoned: how far a value goes, what stands in it, its members. -/
namespace Sg
/-- How many nodes so many values take. -/
def runL : List Nd → Nat → Nat
  | _, 0 => 0
  | [], _ + 1 => 0
  | n :: r, k + 1 => 1 + runL r (k + n.kids.toNat)
def splitK : Nat → List Nd → List (List Nd)
  | 0, _ => []
  | k + 1, l => l.take (runL l 1) :: splitK k (l.drop (runL l 1))
theorem runL_fo {k : Nat} {x : List Nd} (h : Fo k x) : ∀ (r : List Nd) (j : Nat), runL (x ++ r) (k + j) = x.length + runL r j := by
  induction h with
  | nil => intro r j; simp
  | @node n m i a b hn ha hb ih1 ih2 =>
    intro r j
    rw [List.cons_append, show i + 1 + j = (i + j) + 1 by omega, runL, hn]
    have h1 : ((m : Int)).toNat = m := by omega
    rw [h1, List.append_assoc, show i + j + m = m + (i + j) by omega, ih1, ih2]
    simp only [List.length_cons, List.length_append]
    omega
theorem runL_one {x : List Nd} (h : Fo 1 x) (r : List Nd) : runL (x ++ r) 1 = x.length := by
  have := runL_fo h r 0
  simpa [runL] using this
theorem splitK_fo : ∀ {xs : List (List Nd)} (r : List Nd), (∀ x ∈ xs, Fo 1 x) → splitK xs.length (xs.flatten ++ r) = xs
  | [], r, _ => rfl
  | x :: xs, r, h => by
    have h1 := runL_one (h x (List.mem_cons_self ..)) (xs.flatten ++ r)
    rw [List.length_cons, splitK, List.flatten_cons, List.append_assoc, h1, List.take_left, List.drop_left, splitK_fo r fun y hy => h y (List.mem_cons_of_mem _ hy)]
end Sg
/- How a value is spelled, in plain Lean: of a text, of a value; how long that can be. -/
namespace Sg
def hexD (k : Nat) : UInt8 := if k < 10 then UInt8.ofNat (48 + k) else UInt8.ofNat (87 + k)
/-- How a byte is spelled in a string. -/
def qB (c : UInt8) : List UInt8 :=
  if c.toNat = 34 ∨ c.toNat = 92 then [92, c] else if c.toNat = 8 then [92, 98] else if c.toNat = 12 then [92, 102] else if c.toNat = 10 then [92, 110] else if c.toNat = 13 then [92, 114] else
  if c.toNat = 9 then [92, 116] else if c.toNat < 32 then [92, 117, 48, 48, hexD (c.toNat / 16), hexD (c.toNat % 16)] else [c]
def quoS (s : List UInt8) : List UInt8 := 34 :: (s.flatMap qB ++ [34])
/-- Parts with signs between them. -/
def joinC : List (List UInt8) → List UInt8
  | [] => []
  | x :: r => x ++ r.flatMap (44 :: ·)
theorem joinC_snoc (l : List (List UInt8)) (x : List UInt8) : joinC (l ++ [x]) = joinC l ++ (if l = [] then x else 44 :: x) := by
  cases l with
  | nil => simp [joinC]
  | cons y r => simp [joinC, List.flatMap_append]
/-- A value's text; f: at least so many nodes as it has. -/
def spellX : Nat → List Nd → List UInt8
  | 0, _ => []
  | _ + 1, [] => []
  | f + 1, n :: r =>
    if n.kind = 1 then [110, 117, 108, 108] else if n.kind = 2 then [102, 97, 108, 115, 101] else if n.kind = 3 then [116, 114, 117, 101] else if n.kind = 4 then n.text else if n.kind = 5 then quoS n.text else
    (if n.kind = 7 then 123 else 91) :: (joinC ((splitK n.kids.toNat r).map fun x => (if n.kind = 7 then quoS (headN x).key ++ [58] else []) ++ spellX f x) ++ [if n.kind = 7 then 125 else 93])
/-- How an item of a list or an object is spelled. -/
def itemS (f : Nat) (obj : Prop) [Decidable obj] (x : List Nd) : List UInt8 := (if obj then quoS (headN x).key ++ [58] else []) ++ spellX f x
theorem spellX_row {f : Nat} {n : Nd} {xs : List (List Nd)} (hk : n.kids = (xs.length : Int)) (hf : ∀ x ∈ xs, Fo 1 x) (h1 : n.kind ≠ 1) (h2 : n.kind ≠ 2) (h3 : n.kind ≠ 3) (h4 : n.kind ≠ 4) (h5 : n.kind ≠ 5) :
    spellX (f + 1) (n :: xs.flatten) = (if n.kind = 7 then 123 else 91) :: (joinC (xs.map (itemS f (n.kind = 7))) ++ [if n.kind = 7 then 125 else 93]) := by
  have h6 : ((xs.length : Nat) : Int).toNat = xs.length := by omega
  have h7 := splitK_fo (xs := xs) [] hf
  rw [List.append_nil] at h7
  rw [spellX, if_neg h1, if_neg h2, if_neg h3, if_neg h4, if_neg h5, hk, h6, h7]
  rfl
theorem qB_len (c : UInt8) : (qB c).length ≤ 6 := by
  unfold qB
  repeat' split
  all_goals simp
theorem flatMap_len {α : Type} {g : α → List UInt8} {k : Nat} (h : ∀ a, (g a).length ≤ k) : ∀ l : List α, (l.flatMap g).length ≤ k * l.length
  | [] => Nat.zero_le _
  | a :: l => by
    have h1 := h a
    have h2 := flatMap_len h l
    rw [List.flatMap_cons, List.length_append, List.length_cons, Nat.mul_succ]
    omega
theorem quoS_len (s : List UInt8) : (quoS s).length ≤ 6 * s.length + 2 := by
  have := flatMap_len qB_len s
  unfold quoS
  rw [List.length_cons, List.length_append, List.length_singleton]
  omega
/-- How much room a node's text takes at most. -/
def wN (n : Nd) : Nat := 6 * (n.text.length + n.key.length) + 20
def wL : List Nd → Nat
  | [] => 0
  | n :: r => wN n + wL r
theorem wL_app : ∀ (a b : List Nd), wL (a ++ b) = wL a + wL b
  | [], b => by simp [wL]
  | n :: a, b => by rw [List.cons_append, wL, wL, wL_app a b, Nat.add_assoc]
theorem joinC_len {g : List Nd → List UInt8} : ∀ {xs : List (List Nd)}, (∀ x ∈ xs, (g x).length + 1 ≤ wL x) → (joinC (xs.map g)).length ≤ wL xs.flatten := by
  have key : ∀ {xs : List (List Nd)}, (∀ x ∈ xs, (g x).length + 1 ≤ wL x) → ((xs.map g).flatMap (44 :: ·)).length ≤ wL xs.flatten := by
    intro xs
    induction xs with
    | nil => intro _; exact Nat.le_refl _
    | cons x r ih =>
      intro h
      have h1 := h x (List.mem_cons_self ..)
      have h2 := ih fun y hy => h y (List.mem_cons_of_mem _ hy)
      rw [List.map_cons, List.flatMap_cons, List.length_append, List.length_cons, List.flatten_cons, wL_app]
      omega
  intro xs h
  cases xs with
  | nil => exact Nat.le_refl _
  | cons x r =>
    have h1 := h x (List.mem_cons_self ..)
    have h2 := key fun y hy => h y (List.mem_cons_of_mem _ hy)
    rw [List.map_cons, joinC, List.length_append, List.flatten_cons, wL_app]
    omega
theorem spell_len : ∀ (f : Nat) (x : List Nd), Fo 1 x → x.length ≤ f → (spellX f x).length + 6 * (headN x).key.length + 10 ≤ wL x
  | 0, x, h, hl => by have := h.le; omega
  | f + 1, x, h, hl => by
    obtain ⟨n, m, a, rfl, h1, h2⟩ := h.one_inv
    obtain ⟨xs, h3, rfl, h4⟩ := h2.list
    subst h3
    have hw : wL (n :: xs.flatten) = 6 * (n.text.length + n.key.length) + 20 + wL xs.flatten := rfl
    have hh : headN (n :: xs.flatten) = n := rfl
    have hx : ∀ x ∈ xs, x.length ≤ f := fun x hx => by
      obtain ⟨a, b, rfl⟩ := List.append_of_mem hx
      rw [List.flatten_append, List.flatten_cons] at hl
      simp only [List.length_cons, List.length_append] at hl
      omega
    rw [hh, hw]
    by_cases k1 : n.kind = 1
    · rw [spellX, if_pos k1]; simp; omega
    by_cases k2 : n.kind = 2
    · rw [spellX, if_neg k1, if_pos k2]; simp; omega
    by_cases k3 : n.kind = 3
    · rw [spellX, if_neg k1, if_neg k2, if_pos k3]; simp; omega
    by_cases k4 : n.kind = 4
    · rw [spellX, if_neg k1, if_neg k2, if_neg k3, if_pos k4]; omega
    by_cases k5 : n.kind = 5
    · have := quoS_len n.text
      rw [spellX, if_neg k1, if_neg k2, if_neg k3, if_neg k4, if_pos k5]; omega
    rw [spellX_row h1 h4 k1 k2 k3 k4 k5]
    have hj := joinC_len (g := itemS f (n.kind = 7)) (xs := xs) fun x hm => by
      have h5 := spell_len f x (h4 x hm) (hx x hm)
      have h6 := quoS_len (headN x).key
      unfold itemS
      split
      · simp only [List.length_append, List.length_singleton]; omega
      · simp only [List.length_append, List.length_nil]; omega
    simp only [List.length_cons, List.length_append, List.length_nil]
    omega
theorem itemS_len {f : Nat} {obj : Prop} [Decidable obj] {x : List Nd} (h : Fo 1 x) (hl : x.length ≤ f) : (itemS f obj x).length + 1 ≤ wL x := by
  have h5 := spell_len f x h hl
  have h6 := quoS_len (headN x).key
  unfold itemS
  split
  · simp only [List.length_append, List.length_singleton]; omega
  · simp only [List.length_append, List.length_nil]; omega
theorem join_next {g : List Nd → List UInt8} {xs : List (List Nd)} {i : Nat} (h : i < xs.length) : joinC ((xs.take (i + 1)).map g) = joinC ((xs.take i).map g) ++ (if i = 0 then g xs[i] else 44 :: g xs[i]) := by
  rw [List.take_succ_eq_append_getElem h, List.map_append, List.map_singleton, joinC_snoc]
  congr 1
  by_cases h0 : i = 0
  · subst h0; simp
  · rw [if_neg h0, if_neg]
    intro h1
    have := congrArg List.length h1
    rw [List.length_map, List.length_take, List.length_nil] at this
    omega
theorem wL_split {xs : List (List Nd)} {i : Nat} (h : i < xs.length) : wL xs.flatten = wL (xs.take i).flatten + wL xs[i] + wL (xs.drop (i + 1)).flatten := by
  have h2 : xs.flatten = (xs.take i).flatten ++ (xs.drop i).flatten := by rw [← List.flatten_append, List.take_append_drop]
  rw [h2, List.drop_eq_getElem_cons h, List.flatten_cons, wL_app, wL_app, Nat.add_assoc]
theorem flat_mem_len {x : List Nd} {xs : List (List Nd)} (h : x ∈ xs) : x.length ≤ xs.flatten.length := by
  obtain ⟨a, b, rfl⟩ := List.append_of_mem h
  rw [List.flatten_append, List.flatten_cons, List.length_append, List.length_append]
  omega
theorem wL_take (xs : List (List Nd)) (i : Nat) : wL (xs.take i).flatten ≤ wL xs.flatten := by
  have h2 : xs.flatten = (xs.take i).flatten ++ (xs.drop i).flatten := by rw [← List.flatten_append, List.take_append_drop]
  rw [h2, wL_app]
  omega
/-- Nodes of a well shaped value. -/
def NdSh (n : Nd) : Prop := 1 ≤ n.kind ∧ n.kind ≤ 7 ∧ (¬ isRow n → n.kids = 0)
theorem plain_ok {ok : List UInt8 → Bool} {n : Nd} (h : plainX ok n = true) : NdSh n ∧ 0 ≤ n.kids := by
  unfold plainX at h
  split at h
  · cases h
  · rename_i h1
    unfold NdSh isRow
    omega
theorem takeK_fo {ok : List UInt8 → Bool} : ∀ {f d : Nat} {nm : Option (List (List UInt8))} {k : Nat} {l r : List Nd}, takeK ok f d nm k l = some r → ∃ a, l = a ++ r ∧ Fo k a ∧ ∀ n ∈ a, NdSh n
  | f, d, nm, 0, l, r, h => by rw [takeK_zero] at h; cases h; exact ⟨[], rfl, .nil, by simp⟩
  | 0, d, nm, k + 1, l, r, h => by cases h
  | f + 1, d, nm, k + 1, [], r, h => by cases h
  | f + 1, d, nm, k + 1, n :: t, r, h => by
    unfold takeK at h
    simp only at h
    split at h
    · cases h
    · rename_i hp
      have hp' : plainX ok n = true := by
        cases hq : plainX ok n with
        | true => rfl
        | false => exact absurd (.inl hq) hp
      obtain ⟨h0, h0'⟩ := plain_ok hp'
      split at h
      · cases h
      · rename_i r' h1
        split at h
        · cases h
        · obtain ⟨a, rfl, ha, ha'⟩ := takeK_fo h1
          obtain ⟨b, rfl, hb, hb'⟩ := takeK_fo h
          refine ⟨n :: (a ++ b), by simp, .node (by omega) ha hb, fun m hm => ?_⟩
          rcases List.mem_cons.1 hm with rfl | hm
          · exact h0
          · exact (List.mem_append.1 hm).elim (ha' m) (hb' m)
/-- What is well shaped is one value. -/
theorem shaped_fo {ok : List UInt8 → Bool} {v : List Nd} (h : shapedX ok v = true) : Fo 1 v ∧ ∀ n ∈ v, NdSh n := by
  rw [shapedX_take] at h
  split at h
  · rename_i h1
    obtain ⟨a, e, h2, h3⟩ := takeK_fo h1
    rw [List.append_nil] at e
    subst e
    exact ⟨h2, h3⟩
  · cases h
theorem shaped_head {ok : List UInt8 → Bool} {n : Nd} {t : List Nd} (h : shapedX ok (n :: t) = true) : plainX ok n = true := by
  cases hp : plainX ok n with
  | true => rfl
  | false =>
    unfold shapedX at h
    simp only [shM] at h
    rw [if_pos hp] at h
    cases h
theorem numP_ne {t : List UInt8} (h : (numP t).isSome = true) : t ≠ [] := by
  rintro rfl
  revert h
  decide
theorem spell_pos {ok : List UInt8 → Bool} {v : List Nd} (h : shapedX ok v = true) : 0 < (spellX v.length v).length := by
  cases v with
  | nil => cases h
  | cons n t =>
    have hp := shaped_head h
    rw [List.length_cons, spellX]
    split
    · simp
    split
    · simp
    split
    · simp
    split
    · rename_i k4
      unfold plainX at hp
      rw [if_pos k4] at hp
      split at hp
      · cases hp
      · simp only [Bool.and_eq_true] at hp
        exact List.length_pos_iff.2 (numP_ne hp.1.1)
    split
    · unfold quoS; simp
    · simp
/-- The text of a value, or the code. -/
def printX (ok : List UInt8 → Bool) (v : List Nd) : List UInt8 × Int := if shapedX ok v = true then (if 262144 < (spellX v.length v).length then ([], 10) else (spellX v.length v, 0)) else ([], 31)
end Sg
/- Rules for what a builder of texts needs: pointers by way of unsafe ones, calls of functions without a body, bytes turned to a text and frozen. -/
namespace Sg
open Go Go.RowKit
section
variable {c : Ctx} {ds : List Deferred} {H : List Res} {ops : Array Oper} {l : List Oper} {κ : List Res → Env → Prop} {q : Mode} {dr : Bool} {e : Env} {ty : TypeId} {pos : String} {aft : Array Edge}
theorem St.shape {F : World} {M : List Nat} {w : World} {b : Nat} {vs : List Value} {E : TypeId} (h : St F M w H) (hm : .blk b vs E ∈ H) : w.shape? b = some (E, vs.length) := by
  have hb : w.heap[b]? = some (.cells ⟨vs⟩ E (0, 0)) := h.res _ hm
  simp [World.shape?, hb]
theorem T.toUnsafe {x : Operand} {d b : Nat} {s t t' E by_ sz : Nat} {z : Value} {vs : List Value} [HU c.P s (.pointer t')] [HU c.P t .unsafePointer] [HI c.P t' z sz by_] (hx : ev e x = some (.pointer (some ⟨b, 0, none⟩))) (hb : InB H b vs E) (hsz : Nat.blt 0 sz = true) (hl : Nat.blt 0 vs.length = true)
    (hlt : Nat.blt d c.fn.ntmps = true) (hk : Sr q c ds H ops l κ ((d, .pointer (some ⟨b, 0, none⟩)) :: e)) : Sr q c ds H ops (⟨some d, .convert s t x, ty, pos, aft, none⟩ :: l) κ e :=
  Sr.p (fun w a hw ha => by
    obtain ⟨j, hj, _, h2, _⟩ := HI.h (P := c.P) (t := t')
    have h0 : 0 < sz := by simpa [Nat.blt_eq] using hsz
    have h1 : 0 < vs.length := by simpa [Nat.blt_eq] using hl
    have := Lib.run_to_unsafe (P := c.P) w ⟨b, 0, none⟩ (HU.h (P := c.P) (t := s)) (HU.h (P := c.P) (t := t)) hj (by omega) (hw.shape hb.h) h1
    simp [execOp, ha.ev hx, this]) rfl hlt rfl hk
theorem T.fromUnsafe {x : Operand} {d b : Nat} {s t t' E by_ sz : Nat} {z : Value} {vs : List Value} [HU c.P s .unsafePointer] [HU c.P t (.pointer t')] [HI c.P t' z sz by_] (hx : ev e x = some (.pointer (some ⟨b, 0, none⟩))) (hb : InB H b vs E)
    (hlies : liesAt c.P c.P.depth E (vs.length / c.P.cellsOf E) 0 t' 1 = true)
    (hlt : Nat.blt d c.fn.ntmps = true) (hk : Sr q c ds H ops l κ ((d, .pointer (some ⟨b, 0, none⟩)) :: e)) : Sr q c ds H ops (⟨some d, .convert s t x, ty, pos, aft, none⟩ :: l) κ e :=
  Sr.p (fun w a hw ha => by
    obtain ⟨j, hj, _⟩ := HI.h (P := c.P) (t := t')
    have := Lib.run_from_unsafe (P := c.P) w ⟨b, 0, none⟩ (HU.h (P := c.P) (t := s)) (HU.h (P := c.P) (t := t)) hj (hw.shape hb.h) hlies
    simp [execOp, ha.ev hx, this]) rfl hlt rfl hk
/-- Two pointers to one place, held against each other by '!='. -/
theorem T.pneqSame {x y : Operand} {d : Nat} {ad : Addr} {t t' u by_ sz : Nat} {z : Value} [HU c.P t (.pointer t')] [HI c.P t' z sz by_] (hx : ev e x = some (.pointer (some ad))) (hy : ev e y = some (.pointer (some ad)))
    (hlt : Nat.blt d c.fn.ntmps = true) (hk : Sr q c ds H ops l κ ((d, .bool false) :: e)) : Sr q c ds H ops (⟨some d, .binOp .neq t x y u, ty, pos, aft, none⟩ :: l) κ e :=
  Sr.p (fun w a hw ha => by
    obtain ⟨j, hj, _⟩ := HI.h (P := c.P) (t := t')
    have := Lib.run_neq_ptr_same (P := c.P) w ad (HU.h (P := c.P) (t := t)) hj
    simp [execOp, ha.ev hx, ha.ev hy, eqGuard, this]) rfl hlt rfl hk
/-- A call of a function without a body. -/
theorem T.callX {d : Tmp} {args : List Operand} {ats : Array TypeId} {g : FuncId} {vs : List Value} {K : Value → List Res → Prop} (hargs : evs e args = some vs) (hd : Nat.blt d c.fn.ntmps = true)
    (hrun : ∀ w, St c.F c.M w H → ∃ v w' H', (callFunc g ⟨vs⟩).run c.P w = .ok (.value v) w' ∧ St c.F c.M w' H' ∧ K v H')
    (hk : ∀ v H', K v H' → Sr (.eff dr) c ds H' ops l κ ((d, v) :: e)) :
    Sr (.eff dr) c ds H ops (⟨some d, .call ⟨.value (.func g), args.toArray, ats⟩, ty, pos, aft, none⟩ :: l) κ e :=
  Sr.eff (K := K) (fun w a hw ha => by
    obtain ⟨v, w', H', h1, h2, h3⟩ := hrun w hw
    have h4 := ha.evs hargs
    have hm : Array.map a.eval args.toArray = ⟨vs⟩ := by rw [← h4]; simp
    refine ⟨v, w', H', .inl ?_, h2, h3⟩
    simp only [execOp, resolve, hm, Deferred.ofValue, pure_bind, invoke, Act.eval]
    simpa using h1) hd rfl hk
theorem T.unsafeData {d : Tmp} {x : Operand} {ad : Option Addr} {n cp t : Nat} (hx : ev e x = some (.slice ad n cp)) (h0 : 0 < cp ∨ ad = none) (hlt : Nat.blt d c.fn.ntmps = true) (hk : Sr q c ds H ops l κ ((d, .pointer ad) :: e)) :
    Sr q c ds H ops (⟨some d, .call ⟨.builtin .unsafeSliceData, #[x], #[t]⟩, ty, pos, aft, none⟩ :: l) κ e :=
  Sr.p (fun w a hw ha => by
    cases ad with
    | none =>
      have := Lib.run_unsafeSliceData_nil (P := c.P) w #[t] ty n cp
      simp [execOp, ha.ev hx, resolve, invoke, builtin, this]
    | some ad =>
      have := Lib.run_unsafeSliceData_row (P := c.P) w #[t] ty ad n cp (by rcases h0 with h | h; omega; cases h)
      simp [execOp, ha.ev hx, resolve, invoke, builtin, this]) rfl hlt rfl hk
/-- Bytes of the call's own turned to a text: they are frozen, and given up. -/
theorem T.unsafeStr {d : Tmp} {x y : Operand} {ad : Option Addr} {n cp pt it E : Nat} [HU c.P pt (.pointer E)] {z : Value} {by_ : Nat} [HI c.P E z 1 by_] {xs : List UInt8} {f : Res → List Res} (hx : ev e x = some (.pointer ad)) (hy : ev e y = some (.int .i64 (n : Int))) (hr : AtR H ad cp E 1 n (xs.map bV) f)
    (h0 : 0 < n) (hlt : Nat.blt d c.fn.ntmps = true) (hk : Sr (.eff dr) c ds (f (.row none 0 E 1 0 [])) ops l κ ((d, sV xs) :: e)) :
    Sr (.eff dr) c ds H ops (⟨some d, .call ⟨.builtin .unsafeString, #[x, y], #[pt, it]⟩, ty, pos, aft, none⟩ :: l) κ e :=
  Sr.eff (K := fun v H' => v = sV xs ∧ H' = f (.row none 0 E 1 0 [])) (fun w a hw ha => by
    obtain ⟨rest, p1, p2⟩ := hr.h
    have hw' := hw.perm p1
    have hown : w.ownsRow 0 E 1 (.slice ad n cp) n (xs.map bV) := hw'.res _ (List.mem_cons_self ..)
    have hlen : xs.length = n := by simpa using hown.1
    obtain ⟨ti, hi, _, hsz, _⟩ := HI.h (P := c.P) (t := E)
    have hc1 : c.P.cellsOf E = 1 := by simp [Program.cellsOf, hi, hsz]
    rcases hown.2 with ⟨hv, hn0⟩ | ⟨g, cap, cur, hv, _, hh, hle, hmx, hcs, htk⟩
    · omega
    · simp only [Value.slice.injEq, true_and] at hv
      obtain ⟨rfl, rfl⟩ := hv
      have hsh : w.shape? g = some (E, cur.size) := by simp [World.shape?, hh]
      have hmax : n ≤ 9223372036854775807 := by unfold maxLen at hmx; omega
      have hcells := hown.cells (g := g) rfl
      have hrun := Lib.run_unsafeString_row (P := c.P) w pt it ty E (HU.h (P := c.P)) hc1 g cur.size hsh xs (fun h => by rw [h] at hlen; simp at hlen; omega) (by rw [hlen]; omega) (by omega) (fun j x hx => hcells j (bV x) (by simp [hx]))
      rw [hlen] at hrun
      refine ⟨sV xs, w.freeze ⟨g, 0, none⟩ n, f (.row none 0 E 1 0 []), .inl (by simp [execOp, ha.ev hx, ha.ev hy, resolve, invoke, builtin, hrun]), St.perm (hw'.turn (r' := .row none 0 E 1 0 []) ?_ ?_ ?_ ?_ ?_ (World.ownsRow_nil _ 0 E 1) (fun q hq => by simp [Res.foot] at hq) (by simp [Res.foot])) (p2 _), rfl, rfl⟩
      all_goals unfold World.freeze
      all_goals split
      all_goals try rfl
      · exact Nat.le_refl _
      · simp
      · intro j _ hj; rfl
      · intro j _ hj
        simp only [Array.getElem?_modify]
        rw [if_neg]
        intro h
        exact hj (by simp [Res.foot, h])) hlt rfl (fun v H' ⟨h2, h3⟩ => by subst h2 h3; exact hk)
end
end Sg
