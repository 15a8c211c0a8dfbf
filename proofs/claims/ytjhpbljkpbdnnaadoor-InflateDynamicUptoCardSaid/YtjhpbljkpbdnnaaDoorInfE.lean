/- The walk of the program's maker of codes. -/
import Derived.Test.YtjhpbljkpbdnnaaDoorInfD
namespace Go.Proofs.YtjhpbljkpbdnnaaDoor
open Sg Go.IntWalk Infl
set_option maxRecDepth 100000
theorem words_spec {F : World} {M : List Nat} {H : List Res} {n lc : Nat} {la : Option Addr} {ls : List Nat} [Rd F M H la (ls.map nV)] (hn : ls.length = n) (hlen : n ≤ 100000) :
    Meets Tryd.prog 66 [.slice la n lc] F M H (fun e H' => ∃ sa sc, e = .returned (.tuple ⟨[.agg ⟨(code ls).1.map nV ++ [.slice sa (code ls).2.length sc]⟩, .int .i64 (kind ls)]⟩) ∧
      H' = .row sa sc 3 1 (code ls).2.length ((code ls).2.map nV) :: H) := by
  subst hn
  refine Meets.enter Tryd.func66 rfl rfl ?_
  repeat' (first | ((with_reducible apply T.asn); apply rfl; apply rfl) | ((with_reducible apply T.alloc); apply rfl; intro nb) | with_reducible refine Sr.nil ?_ | with_reducible refine S.seq ?_ | with_reducible refine S.block ?_ | with_reducible refine S.reg ?_ | fail)
  rename_i b2
  revert nb
  intro b4
  refine S.nilrow 3 1 ?_
  refine S.front b4 ?_
  refine S.loop (fun μ H' e => ∃ (l : Nat) (cnt syms : List Nat) (sa : Option Addr) (sc : Nat), H' = .blk b4 (cnt.map nV ++ [.slice sa syms.length sc]) 76 :: .row sa sc 3 1 syms.length (syms.map nV) :: .blk b2 ((List.replicate 16 0).map nV ++ [.slice none 0 0]) 76 :: H ∧
    e = [(0, .slice la ls.length lc), (2, .pointer (some ⟨b2, 0, none⟩)), (4, .pointer (some ⟨b4, 0, none⟩)), (5, .int .i64 l)] ∧
    (1 ≤ l ∧ l ≤ 16 ∧ (cnt, syms) = (List.range' 1 (l - 1)).foldl (inner ls) (List.replicate 16 0, []) ∧ cnt.length = 16 ∧ syms.length ≤ 100000 * (l - 1) ∧ ∀ i, cnt.getD i 0 ≤ syms.length) ∧ μ = 17 - l) ?_ _ _ ⟨1, List.replicate 16 0, [], none, 0, rfl, rfl, ⟨by omega, by omega, rfl, rfl, by simp, ?_⟩, rfl⟩ ⟨rfl, rfl, rfl, rfl, trivial⟩
  · rintro _ _ _ ⟨l, cnt, syms, sa, sc, rfl, rfl, ⟨h1, h2, h3, h4, h5, h6⟩, rfl⟩ ih
    repeat' (first | ((with_reducible apply T.mv); apply rfl; apply rfl) | ((with_reducible apply T.asn); apply rfl; apply rfl) | ((with_reducible apply T.len); apply rfl; apply rfl) | ((with_reducible apply T.fieldAddrZ); apply rfl; apply rfl) | ((with_reducible apply T.leq); apply rfl; apply rfl; apply rfl) | ((with_reducible apply T.sliceA); apply rfl; apply rfl; omega; apply rfl) | with_reducible refine Sr.nil ?_ | with_reducible refine S.seq ?_ | with_reducible refine S.block ?_ | with_reducible refine S.reg ?_ | with_reducible refine S.skip ?_ | ((with_reducible apply S.exit); apply rfl) | ((with_reducible apply S.condQ); apply rfl; all_goals (intro _; try (exfalso; omega))) | fail)
    · refine S.loop (fun μ H' e => ∃ (s : Nat) (cnt' syms' : List Nat) (sa : Option Addr) (sc : Nat), H' = .blk b4 (cnt'.map nV ++ [.slice sa syms'.length sc]) 76 :: .row sa sc 3 1 syms'.length (syms'.map nV) :: .blk b2 ((List.replicate 16 0).map nV ++ [.slice none 0 0]) 76 :: H ∧
        e = [(0, .slice la ls.length lc), (2, .pointer (some ⟨b2, 0, none⟩)), (4, .pointer (some ⟨b4, 0, none⟩)), (5, .int .i64 l), (15, .slice la ls.length lc), (16, .int .i64 ls.length), (17, .int .i64 s)] ∧
        (s ≤ ls.length ∧ (cnt', syms') = (List.range' 0 s).foldl (stp ls l) (cnt, syms) ∧ cnt'.length = 16 ∧ syms'.length ≤ 100000 * (l - 1) + s ∧ ∀ i, cnt'.getD i 0 ≤ syms'.length) ∧ μ = ls.length - s) ?_ _ _ ⟨0, cnt, syms, sa, sc, rfl, rfl, ⟨by omega, rfl, h4, by omega, h6⟩, rfl⟩ ⟨rfl, rfl, rfl, rfl, rfl, rfl, rfl, trivial⟩
      rintro _ _ _ ⟨s, cnt', syms', sa, sc, rfl, rfl, ⟨g1, g2, g3, g4, g5⟩, rfl⟩ ih'
      have g6 := g5 l
      repeat' (first | ((with_reducible apply T.mv); apply rfl; apply rfl) | ((with_reducible apply T.asn); apply rfl; apply rfl) | ((with_reducible apply T.fieldAddrZ); apply rfl; apply rfl) | ((with_reducible apply T.lss); apply rfl; apply rfl; apply rfl) | ((with_reducible apply T.eql); apply rfl; apply rfl; apply rfl) | ((with_reducible apply T.addI); apply rfl; apply rfl; omega; apply rfl) | ((with_reducible apply T.ixN); apply rfl; apply rfl; infer_instance; omega; (first | omega | (simp; omega)); apply rfl) | ((with_reducible apply T.ixAZ); apply rfl; apply rfl; omega; apply rfl) | ((with_reducible apply T.loadNat); apply rfl; infer_instance; (first | omega | (simp; omega)); apply rfl) | ((with_reducible apply T.loadCN); apply rfl; infer_instance; apply rfl; (first | omega | (simp; omega)); apply rfl) | ((with_reducible apply T.loadR); apply rfl; apply rfl; infer_instance; apply rfl; (first | assumption | ((first | simp only [List.length_map] | simp only [List.length_set] | simp only [List.length_replicate]); (repeat (first | simp only [List.length_map] | simp only [List.length_set] | simp only [List.length_replicate])); first | done | assumption | rfl)); apply rfl; apply rfl; apply rfl) | ((with_reducible apply T.storeCN); apply rfl; apply rfl; infer_instance; apply rfl; (first | omega | (simp; omega))) | ((with_reducible apply T.storeR); apply rfl; apply rfl; infer_instance; apply rfl; (first | assumption | ((first | simp only [List.length_map] | simp only [List.length_set] | simp only [List.length_replicate]); (repeat (first | simp only [List.length_map] | simp only [List.length_set] | simp only [List.length_replicate])); first | done | assumption | rfl)); apply rfl; (first | decide | (simp; omega) | simp); apply rfl) | ((with_reducible apply T.bs); apply rfl; apply rfl; apply rfl; apply rfl; apply rfl; apply rfl; intro nb) | ((with_reducible apply T.appendN); apply rfl; apply rfl; infer_instance; apply rfl; (constructor <;> omega); apply rfl; intro na nc) | with_reducible refine Sr.nil ?_ | with_reducible refine S.seq ?_ | with_reducible refine S.block ?_ | with_reducible refine S.reg ?_ | with_reducible refine S.skip ?_ | with_reducible refine S.inBlock ?_ | ((with_reducible apply S.exit); apply rfl) | ((with_reducible apply S.condQ); apply rfl; all_goals (intro _; try (exfalso; omega))) | fail)
      · have hs : ls.getD s 0 = l := by omega
        refine ih' _ _ _ _ ⟨s + 1, cnt'.set l (cnt'.getD l 0 + 1), syms' ++ [s], na, nc, ?_, rfl, ⟨by omega, ?_, by simpa using g3, by simp; omega, ?_⟩, rfl⟩ (by omega) ⟨rfl, rfl, rfl, rfl, rfl, rfl, rfl, trivial⟩
        · rw [List.length_append, List.length_singleton]
          rfl
        · rw [fold_succ, ← g2, Nat.zero_add]
          simp only [stp, hs, if_true]
        · intro i
          simp only [List.getD_eq_getElem?_getD, List.getElem?_set, List.length_append, List.length_singleton]
          have := g5 i
          rw [List.getD_eq_getElem?_getD] at this g6
          split
          · split
            · simpa using by omega
            · simp
          · omega
      · have hs : ¬ ls.getD s 0 = l := by omega
        refine ih' _ _ _ _ ⟨s + 1, cnt', syms', sa, sc, rfl, rfl, ⟨by omega, ?_, g3, by omega, g5⟩, rfl⟩ (by omega) ⟨rfl, rfl, rfl, rfl, rfl, rfl, rfl, trivial⟩
        rw [fold_succ, ← g2, Nat.zero_add]
        simp only [stp, hs, if_false]
      · have hs : s = ls.length := by omega
        refine ih _ _ _ _ ⟨l + 1, cnt', syms', sa, sc, rfl, rfl, ⟨by omega, by omega, ?_, g3, by omega, g5⟩, rfl⟩ (by omega) ⟨rfl, rfl, rfl, rfl, trivial⟩
        have e1 : l + 1 - 1 = (l - 1) + 1 := by omega
        have e2 : 1 + (l - 1) = l := by omega
        rw [e1, fold_succ, ← h3, e2, inner, g2, hs]
    · have hl : l = 16 := by omega
      subst hl
      have hcode : (cnt, syms) = code ls := h3
      have hcnt : (code ls).1 = cnt := by rw [← hcode]
      have hsyms : (code ls).2 = syms := by rw [← hcode]
      rw [kind, hcnt, hsyms]
      clear hcnt hsyms hcode
      skip
      refine S.loop (fun μ H' e => ∃ (j : Nat) (left : Int), H' = .blk b4 (cnt.map nV ++ [.slice sa syms.length sc]) 76 :: .row sa sc 3 1 syms.length (syms.map nV) :: .blk b2 ((List.replicate 16 0).map nV ++ [.slice none 0 0]) 76 :: H ∧
        e = [(0, .slice la ls.length lc), (2, .pointer (some ⟨b2, 0, none⟩)), (4, .pointer (some ⟨b4, 0, none⟩)), (8, .int .i64 left), (40, .slice (some ⟨b4, 1, none⟩) 15 15), (41, .int .i64 15), (42, .int .i64 j)] ∧
        (j ≤ 15 ∧ 0 ≤ left ∧ left ≤ 2 ^ j ∧ leftL (cnt.drop (j + 1)) left = leftL (cnt.drop 1) 1) ∧ μ = 15 - j) ?_ _ _ ⟨0, 1, rfl, rfl, ⟨by omega, by omega, by omega, rfl⟩, rfl⟩ ⟨rfl, rfl, rfl, rfl, rfl, rfl, rfl, trivial⟩
      rintro _ _ _ ⟨j, left, rfl, rfl, ⟨g1, g2, g3, g4⟩, rfl⟩ ih'
      have hpw : (2 : Int) ^ j ≤ 32768 := by
        have := Nat.pow_le_pow_right (n := 2) (by omega) g1
        have h2 : ((2 ^ j : Nat) : Int) ≤ 32768 := by omega
        simpa using h2
      haveI hrd : ∀ (H' : List Res) [InB H' b4 (cnt.map nV ++ [.slice sa syms.length sc]) 76], Rd F M H' (some ⟨b4, 1, none⟩) ((cnt.drop 1).map nV) := fun _ h => Rd.ofCN h rfl 1
      have hdr : (cnt.drop 1).getD j 0 = cnt.getD (j + 1) 0 := by
        simp only [List.getD_eq_getElem?_getD, List.getElem?_drop, Nat.add_comm]
      have hdb := h6 (j + 1)
      rw [← hdr] at hdb
      repeat' (first | ((with_reducible apply T.mv); apply rfl; apply rfl) | ((with_reducible apply T.asn); apply rfl; apply rfl) | ((with_reducible apply T.len); apply rfl; apply rfl) | ((with_reducible apply T.fieldAddrZ); apply rfl; apply rfl) | ((with_reducible apply T.lss); apply rfl; apply rfl; apply rfl) | ((with_reducible apply T.eql); apply rfl; apply rfl; apply rfl) | ((with_reducible apply T.addI); apply rfl; apply rfl; omega; apply rfl) | ((with_reducible apply T.subI); apply rfl; apply rfl; omega; apply rfl) | ((with_reducible apply T.mulI); apply rfl; apply rfl; omega; apply rfl) | ((with_reducible apply T.ixN); apply rfl; apply rfl; infer_instance; omega; (first | omega | (simp; omega)); apply rfl) | ((with_reducible apply T.ixA); apply rfl; apply rfl; omega; apply rfl) | ((with_reducible apply T.loadNat); apply rfl; infer_instance; (first | omega | (simp; omega)); apply rfl) | ((with_reducible apply T.loadCN); apply rfl; infer_instance; apply rfl; (first | omega | (simp; omega)); apply rfl) | ((with_reducible apply T.loadR); apply rfl; apply rfl; infer_instance; apply rfl; (first | assumption | ((first | simp only [List.length_map] | simp only [List.length_set] | simp only [List.length_replicate]); (repeat (first | simp only [List.length_map] | simp only [List.length_set] | simp only [List.length_replicate])); first | done | assumption | rfl)); apply rfl; apply rfl; apply rfl) | ((with_reducible apply T.pickT); apply rfl; apply rfl; apply rfl) | ((with_reducible apply T.pickF); apply rfl; apply rfl; apply rfl) | ((with_reducible apply T.loadW); apply rfl; apply rfl; infer_instance; (first | rfl | ((first | simp only [List.length_append] | simp only [List.length_map] | simp only [List.length_set] | simp only [List.length_replicate] | simp only [List.length_cons] | simp only [List.length_nil]); (repeat (first | simp only [List.length_append] | simp only [List.length_map] | simp only [List.length_set] | simp only [List.length_replicate] | simp only [List.length_cons] | simp only [List.length_nil])); first | done | omega)); apply rfl) | ((with_reducible apply T.storeW); apply rfl; apply rfl; infer_instance; (first | rfl | ((first | simp only [List.length_append] | simp only [List.length_map] | simp only [List.length_set] | simp only [List.length_replicate] | simp only [List.length_cons] | simp only [List.length_nil]); (repeat (first | simp only [List.length_append] | simp only [List.length_map] | simp only [List.length_set] | simp only [List.length_replicate] | simp only [List.length_cons] | simp only [List.length_nil])); first | done | omega)); (first | rfl | ((first | simp only [List.length_append] | simp only [List.length_map] | simp only [List.length_set] | simp only [List.length_replicate] | simp only [List.length_cons] | simp only [List.length_nil]); (repeat (first | simp only [List.length_append] | simp only [List.length_map] | simp only [List.length_set] | simp only [List.length_replicate] | simp only [List.length_cons] | simp only [List.length_nil])); first | done | omega)); (first | rfl | (repeat' first | apply all_nV | apply all_bV | apply all_iV | rfl | apply all_app))) | with_reducible refine Sr.nil ?_ | with_reducible refine S.seq ?_ | with_reducible refine S.block ?_ | with_reducible refine S.reg ?_ | with_reducible refine S.skip ?_ | with_reducible refine S.inBlock ?_ | ((with_reducible apply S.exit); apply rfl) | ((with_reducible apply T.ung); apply rfl) | ((with_reducible apply T.skip); apply rfl; apply rfl; apply rfl) | ((with_reducible apply S.condF); apply rfl) | ((with_reducible apply T.retC); apply rfl; ((repeat' first | apply RV.nil | (apply RV.tmp; apply rfl) | (apply RV.cellW; apply rfl; apply rfl; infer_instance; (first | rfl | ((first | simp only [List.length_append] | simp only [List.length_map] | simp only [List.length_set] | simp only [List.length_replicate] | simp only [List.length_cons] | simp only [List.length_nil]); (repeat (first | simp only [List.length_append] | simp only [List.length_map] | simp only [List.length_set] | simp only [List.length_replicate] | simp only [List.length_cons] | simp only [List.length_nil])); first | done | omega))) | (apply RV.cellP; apply rfl; apply rfl; infer_instance; apply rfl))); apply rfl) | ((with_reducible apply S.condQ); apply rfl; all_goals (intro _; try (exfalso; omega))) | ((with_reducible apply T.gcase); apply rfl; apply rfl; all_goals (intro _; try (exfalso; omega))) | fail)
      · rename_i hj hneg
        have hst := leftL_step (cnt := cnt) (j := j + 1) (by omega) left
        rw [← hdr, if_pos hneg] at hst
        refine ⟨.row sa sc 3 1 syms.length (syms.map nV) :: H, ?_, sa, sc, ?_, rfl⟩
        · exact (by ((repeat (first | dsimp only [List.set_cons_zero] | dsimp only [List.set_cons_succ])); repeat' first | exact PSub.refl _ | exact PSub.nil | ((with_reducible apply PSub.take); (repeat' first | (with_reducible exact pick_hd) | (with_reducible apply pick_tl))) | (with_reducible apply PSub.drop) | ((apply PSub.take); (repeat' first | exact pick_hd | (apply pick_tl)))))
        · rw [kindC, ← g4, hst]; rfl
      · rename_i hj hneg
        have hst := leftL_step (cnt := cnt) (j := j + 1) (by omega) left
        rw [← hdr, if_neg hneg] at hst
        refine ih' _ _ _ _ ⟨j + 1, _, rfl, rfl, ⟨by omega, by omega, ?_, hst.symm.trans g4⟩, rfl⟩ (by omega) ⟨rfl, rfl, rfl, rfl, rfl, rfl, rfl, trivial⟩
        have : (2 : Int) ^ (j + 1) = 2 * 2 ^ j := by rw [Int.pow_succ]; omega
        omega
      all_goals
        refine ⟨.row sa sc 3 1 syms.length (syms.map nV) :: H, by ((repeat (first | dsimp only [List.set_cons_zero] | dsimp only [List.set_cons_succ])); repeat' first | exact PSub.refl _ | exact PSub.nil | ((with_reducible apply PSub.take); (repeat' first | (with_reducible exact pick_hd) | (with_reducible apply pick_tl))) | (with_reducible apply PSub.drop) | ((apply PSub.take); (repeat' first | exact pick_hd | (apply pick_tl)))), sa, sc, ?_, rfl⟩
        have hj : j = 15 := by omega
        subst hj
        have hend : leftL (cnt.drop 1) 1 = some left := by
          rw [← g4, List.drop_eq_nil_of_le (by omega)]
          rfl
        rename_i hl0
        have hd1 : cnt.getD (0 + (1 : Int).toNat * 1) 0 = cnt.getD 1 0 := rfl
        have hd2 : cnt.getD ((1 : Int).toNat) 0 = cnt.getD 1 0 := rfl
        simp only [kindC, hend]
        (repeat' split) <;> first | rfl | (exfalso; omega)
  · intro i
    have : (List.replicate 16 0).getD i 0 = 0 := by
      rw [List.getD_eq_getElem?_getD, List.getElem?_replicate]
      split <;> rfl
    omega
end Go.Proofs.YtjhpbljkpbdnnaaDoor
