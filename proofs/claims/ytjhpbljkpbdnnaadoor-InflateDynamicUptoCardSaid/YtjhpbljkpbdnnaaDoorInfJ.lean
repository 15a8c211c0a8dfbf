/- The walk of the program's dynamic codes. -/
import Derived.Test.YtjhpbljkpbdnnaaDoorInfI
namespace Go.Proofs.YtjhpbljkpbdnnaaDoor
open Sg Go.IntWalk Infl
set_option maxRecDepth 100000
set_option maxHeartbeats 2000000
theorem dynamic_spec {F : World} {M : List Nat} {H : List Res} {p c oc on : Nat} {b oa : Option Addr} {most : Int} {bs : List UInt8} [Rd F M H b (bs.map bV)] [Rd F M H (some ⟨0, 0, none⟩) (ordL.map nV)] {pos : Nat} (hp : pos ≤ 8 * bs.length) (hb : bs.length ≤ 1000000000000000) :
    Meets Tryd.prog 53 [.pointer (some ⟨p, 0, none⟩)] F M (.blk p (rd b bs c pos most oa on oc) 59 :: H) (fun e H' => match dyn bs pos with
      | .ok (pos', ll, dl) => ∃ sa sc ta tc, e = .returned (.tuple ⟨[.agg ⟨cd ll sa sc⟩, .agg ⟨cd dl ta tc⟩]⟩) ∧ H' = .blk p (rd b bs c pos' most oa on oc) 59 :: sy dl ta tc :: sy ll sa sc :: H ∧ pos' ≤ 8 * bs.length ∧ (0 < ll.length ∧ ll.length ≤ 100000) ∧ (0 < dl.length ∧ dl.length ≤ 100000)
      | .error k => e = gave k ∧ H' = H) := by
  refine Meets.enter Tryd.func53 rfl rfl ?_
  repeat' (first | ((with_reducible apply T.mv); apply rfl; apply rfl) | ((with_reducible apply T.alloc); apply rfl; intro nb) | with_reducible refine Sr.nil ?_ | with_reducible refine S.seq ?_ | with_reducible refine S.reg ?_ | fail)
  rename_i b2
  revert nb
  intro b3
  refine Sr.front p ?_
  have fail : ∀ {r : Except Nat (Nat × List Nat × List Nat)}, r = .error 240 → (match (generalizing := false) r with
      | .ok (pos', ll, dl) => ∃ sa sc ta tc, (gave 240) = .returned (.tuple ⟨[.agg ⟨cd ll sa sc⟩, .agg ⟨cd dl ta tc⟩]⟩) ∧ H = .blk p (rd b bs c pos' most oa on oc) 59 :: sy dl ta tc :: sy ll sa sc :: H ∧ pos' ≤ 8 * bs.length ∧ (0 < ll.length ∧ ll.length ≤ 100000) ∧ (0 < dl.length ∧ dl.length ≤ 100000)
      | .error k => (gave 240) = gave k ∧ H = H) := by
    rintro _ rfl
    exact ⟨rfl, rfl⟩
  refine T.call rfl rfl (number_spec (k := 5) (by omega) hp hb) ?_
  cases h1 : rdN bs 5 pos with
  | none =>
    have hd : dyn bs pos = .error 240 := by simp only [dyn, headD, h1]
    rintro _ _ ⟨rfl, vs, rfl⟩
    repeat' (first | (with_reducible apply T.diesW) | (with_reducible apply T.ofPan) | fail)
    exact ⟨H, by ((repeat (first | dsimp only [List.set_cons_zero] | dsimp only [List.set_cons_succ])); repeat' first | exact PSub.refl _ | exact PSub.nil | ((with_reducible apply PSub.take); (repeat' first | (with_reducible exact pick_hd) | (with_reducible apply pick_tl))) | (with_reducible apply PSub.drop) | ((apply PSub.take); (repeat' first | exact pick_hd | (apply pick_tl)))), fail hd⟩
  | some r1 =>
  obtain ⟨l, p1⟩ := r1
  obtain ⟨hl, hp1, -⟩ := rdN_le h1
  rintro _ _ ⟨rfl, rfl⟩
  repeat' (first | ((with_reducible apply T.mv); apply rfl; apply rfl) | ((with_reducible apply T.addI); apply rfl; apply rfl; omega; apply rfl) | (with_reducible apply T.ofRet) | fail)
  refine T.call rfl rfl (number_spec (k := 5) (by omega) hp1 hb) ?_
  cases h2 : rdN bs 5 p1 with
  | none =>
    have hd : dyn bs pos = .error 240 := by simp only [dyn, headD, h1, h2]
    rintro _ _ ⟨rfl, vs, rfl⟩
    repeat' (first | (with_reducible apply T.diesW) | (with_reducible apply T.ofPan) | fail)
    exact ⟨H, by ((repeat (first | dsimp only [List.set_cons_zero] | dsimp only [List.set_cons_succ])); repeat' first | exact PSub.refl _ | exact PSub.nil | ((with_reducible apply PSub.take); (repeat' first | (with_reducible exact pick_hd) | (with_reducible apply pick_tl))) | (with_reducible apply PSub.drop) | ((apply PSub.take); (repeat' first | exact pick_hd | (apply pick_tl)))), fail hd⟩
  | some r2 =>
  obtain ⟨d, p2⟩ := r2
  obtain ⟨hd, hp2, -⟩ := rdN_le h2
  rintro _ _ ⟨rfl, rfl⟩
  repeat' (first | ((with_reducible apply T.mv); apply rfl; apply rfl) | ((with_reducible apply T.addI); apply rfl; apply rfl; omega; apply rfl) | (with_reducible apply T.ofRet) | fail)
  refine T.call rfl rfl (number_spec (k := 4) (by omega) hp2 hb) ?_
  cases h3 : rdN bs 4 p2 with
  | none =>
    have hd : dyn bs pos = .error 240 := by simp only [dyn, headD, h1, h2, h3]
    rintro _ _ ⟨rfl, vs, rfl⟩
    repeat' (first | (with_reducible apply T.diesW) | (with_reducible apply T.ofPan) | fail)
    exact ⟨H, by ((repeat (first | dsimp only [List.set_cons_zero] | dsimp only [List.set_cons_succ])); repeat' first | exact PSub.refl _ | exact PSub.nil | ((with_reducible apply PSub.take); (repeat' first | (with_reducible exact pick_hd) | (with_reducible apply pick_tl))) | (with_reducible apply PSub.drop) | ((apply PSub.take); (repeat' first | exact pick_hd | (apply pick_tl)))), fail hd⟩
  | some r3 =>
  obtain ⟨k, p3⟩ := r3
  obtain ⟨hk, hp3, -⟩ := rdN_le h3
  rintro _ _ ⟨rfl, rfl⟩
  have hh : headD bs pos = some (l + 257, d + 1, k + 4, p3) := by simp only [headD, h1, h2, h3]
  clear h1 h2 h3 hp1 hp2
  repeat' (first | ((with_reducible apply T.mv); apply rfl; apply rfl) | ((with_reducible apply T.asn); apply rfl; apply rfl) | ((with_reducible apply T.gtr); apply rfl; apply rfl; apply rfl) | ((with_reducible apply T.addI); apply rfl; apply rfl; omega; apply rfl) | ((with_reducible apply T.pickT); apply rfl; apply rfl; apply rfl) | ((with_reducible apply T.pickF); apply rfl; apply rfl; apply rfl) | with_reducible refine Sr.nil ?_ | with_reducible refine S.seq ?_ | with_reducible refine S.reg ?_ | with_reducible refine S.skip ?_ | ((with_reducible apply T.ung); apply rfl) | ((with_reducible apply T.skip); apply rfl; apply rfl; apply rfl) | ((with_reducible apply S.condT); apply rfl) | (with_reducible apply T.ofRet) | ((with_reducible apply S.condQ); apply rfl; all_goals (intro _; try (exfalso; omega))) | ((with_reducible apply T.gcase); apply rfl; apply rfl; all_goals (intro _; try (exfalso; omega))) | fail)
  · have hdy : dyn bs pos = .error 240 := by
      simp only [dyn, hh]
      rw [if_pos (by omega)]
    refine T.call rfl rfl (give_spec 240) ?_
    rintro _ _ ⟨rfl, rfl⟩
    repeat' (first | (with_reducible apply T.diesW) | (with_reducible apply T.ofPan) | fail)
    exact ⟨H, by ((repeat (first | dsimp only [List.set_cons_zero] | dsimp only [List.set_cons_succ])); repeat' first | exact PSub.refl _ | exact PSub.nil | ((with_reducible apply PSub.take); (repeat' first | (with_reducible exact pick_hd) | (with_reducible apply pick_tl))) | (with_reducible apply PSub.drop) | ((apply PSub.take); (repeat' first | exact pick_hd | (apply pick_tl)))), fail hdy⟩
  · have hdy : dyn bs pos = .error 240 := by
      simp only [dyn, hh]
      rw [if_pos (by omega)]
    refine T.call rfl rfl (give_spec 240) ?_
    rintro _ _ ⟨rfl, rfl⟩
    repeat' (first | (with_reducible apply T.diesW) | (with_reducible apply T.ofPan) | fail)
    exact ⟨H, by ((repeat (first | dsimp only [List.set_cons_zero] | dsimp only [List.set_cons_succ])); repeat' first | exact PSub.refl _ | exact PSub.nil | ((with_reducible apply PSub.take); (repeat' first | (with_reducible exact pick_hd) | (with_reducible apply pick_tl))) | (with_reducible apply PSub.drop) | ((apply PSub.take); (repeat' first | exact pick_hd | (apply pick_tl)))), fail hdy⟩
  have hdy : dyn bs pos = dynS bs (l + 257) (d + 1) (shortL bs (ordL.take (k + 4)) p3 (List.replicate 19 0)) := by
    simp only [dyn, hh]
    rw [if_neg (by omega)]
  rw [hdy]
  clear hh hdy
  refine T.makeS (n := 19) rfl rfl rfl (by omega) rfl ?_
  intro b7
  repeat' (first | ((with_reducible apply T.mv); apply rfl; apply rfl) | ((with_reducible apply T.asn); apply rfl; apply rfl) | ((with_reducible apply T.len); apply rfl; apply rfl) | ((with_reducible apply T.sliceAH); apply rfl; apply rfl; omega; omega; apply rfl) | with_reducible refine Sr.nil ?_ | with_reducible refine S.seq ?_ | with_reducible refine S.block ?_ | with_reducible refine S.reg ?_ | fail)
  refine S.front p ?_
  have hol : ∀ j, j < 19 → ordL.getD j 0 < 19 := by decide
  refine S.loop (fun μ H' e => ∃ (j pos' : Nat) (sh : List Nat), H' = .blk p (rd b bs c pos' most oa on oc) 59 :: .row (some ⟨b7, 0, none⟩) 19 3 1 19 (sh.map nV) :: .blk b3 ((List.replicate 16 0).map nV ++ [.slice none 0 0]) 76 :: .blk b2 ((List.replicate 16 0).map nV ++ [.slice none 0 0]) 76 :: H ∧
    e = [(0, .pointer (some ⟨p, 0, none⟩)), (2, .pointer (some ⟨b2, 0, none⟩)), (3, .pointer (some ⟨b3, 0, none⟩)), (4, .int .i64 ((l + 257 : Nat) : Int)), (5, .int .i64 ((d + 1 : Nat) : Int)), (7, .slice (some ⟨b7, 0, none⟩) 19 19), (32, .slice (some ⟨0, 0, none⟩) (k + 4) 19), (33, .int .i64 ((k + 4 : Nat) : Int)), (34, .int .i64 j)] ∧
    (j ≤ k + 4 ∧ pos' ≤ 8 * bs.length ∧ sh.length = 19 ∧ shortL bs ((ordL.take (k + 4)).drop j) pos' sh = shortL bs (ordL.take (k + 4)) p3 (List.replicate 19 0)) ∧ μ = k + 4 - j) ?_ _ _ ⟨0, p3, List.replicate 19 0, by rw [List.map_replicate]; rfl, rfl, ⟨by omega, hp3, by simp, rfl⟩, rfl⟩ ⟨rfl, rfl, rfl, rfl, rfl, rfl, rfl, rfl, rfl, trivial⟩
  rintro _ _ _ ⟨j, pos', sh, rfl, rfl, ⟨g1, g2, g3, g4⟩, rfl⟩ ih
  have hoj := hol j
  have hsl : (sh.map nV).length = 19 := by simp [g3]
  have h19 : ordL.length = 19 := rfl
  have hdr : j < k + 4 → (ordL.take (k + 4)).drop j = ordL.getD j 0 :: (ordL.take (k + 4)).drop (j + 1) := fun h => by
    rw [List.drop_eq_getElem_cons (by simp; omega)]
    congr 1
    rw [List.getElem_take, List.getD_eq_getElem?_getD, List.getElem?_eq_getElem (by omega)]
    rfl
  repeat' (first | ((with_reducible apply T.bsN); apply rfl; apply rfl; exact (show List.map nV [3] = _ from rfl); apply rfl; apply rfl; apply rfl; intro nb) | ((with_reducible apply T.mv); apply rfl; apply rfl) | ((with_reducible apply T.asn); apply rfl; apply rfl) | ((with_reducible apply T.lss); apply rfl; apply rfl; apply rfl) | ((with_reducible apply T.ixN); apply rfl; apply rfl; infer_instance; omega; (first | omega | (simp; omega)); apply rfl) | ((with_reducible apply T.loadNat); apply rfl; infer_instance; (first | omega | (simp; omega)); apply rfl) | with_reducible refine Sr.nil ?_ | with_reducible refine S.seq ?_ | with_reducible refine S.block ?_ | with_reducible refine S.reg ?_ | with_reducible refine S.skip ?_ | ((with_reducible apply S.exit); apply rfl) | ((with_reducible apply S.condQ); apply rfl; all_goals (intro _; try (exfalso; omega))) | fail)
  · rename_i hj
    have hj19 := hoj (by omega)
    rw [hdr (by omega), shortL] at g4
    refine T.call rfl rfl (number_spec (k := 3) (by omega) g2 hb) ?_
    cases h1 : rdN bs 3 pos' with
    | none =>
      rw [h1] at g4
      rintro _ _ ⟨rfl, vs, rfl⟩
      rw [← g4]
      repeat' (first | (with_reducible apply T.diesW) | (with_reducible apply T.ofPan) | fail)
      exact ⟨H, by ((repeat (first | dsimp only [List.set_cons_zero] | dsimp only [List.set_cons_succ])); repeat' first | exact PSub.refl _ | exact PSub.nil | ((with_reducible apply PSub.take); (repeat' first | (with_reducible exact pick_hd) | (with_reducible apply pick_tl))) | (with_reducible apply PSub.drop) | ((apply PSub.take); (repeat' first | exact pick_hd | (apply pick_tl)))), rfl, rfl⟩
    | some r =>
      obtain ⟨v, p4⟩ := r
      obtain ⟨hv, hp4, -⟩ := rdN_le h1
      rw [h1] at g4
      rintro _ _ ⟨rfl, rfl⟩
      repeat' (first | ((with_reducible apply T.mv); apply rfl; apply rfl) | ((with_reducible apply T.addI); apply rfl; apply rfl; omega; apply rfl) | ((with_reducible apply T.ixN); apply rfl; apply rfl; infer_instance; omega; (first | omega | (simp; omega)); apply rfl) | ((with_reducible apply T.storeEN); apply rfl; apply rfl; infer_instance; (first | omega | (simp; omega))) | with_reducible refine Sr.nil ?_ | with_reducible refine S.reg ?_ | with_reducible refine S.inBlock ?_ | (with_reducible apply T.ofRet) | fail)
      exact ih _ _ _ _ ⟨j + 1, p4, sh.set (ordL.getD j 0) v, rfl, rfl, ⟨by omega, hp4, by simpa using g3, g4⟩, rfl⟩ (by omega) (by exact ⟨rfl, rfl, rfl, rfl, rfl, rfl, rfl, rfl, rfl, trivial⟩)
  · rename_i hj
    rw [List.drop_eq_nil_of_le (by simp; omega), shortL] at g4
    rw [← g4]
    clear g4 ih hdr hoj hol
    refine T.call rfl rfl (need_spec g3 (by omega) rfl (by omega)) ?_
    rw [dynS]
    by_cases h3 : kind sh ∈ [3]
    · simp only [h3, if_true]
      rintro _ _ ⟨sa, sc, rfl, rfl⟩
      have hcl : (code sh).1.length = 16 := (code_mk sh).len
      repeat' (first | ((with_reducible apply T.storeW); apply rfl; apply rfl; infer_instance; (first | rfl | ((first | simp only [List.length_append] | simp only [List.length_map] | simp only [List.length_set] | simp only [List.length_replicate] | simp only [List.length_cons] | simp only [List.length_nil]); (repeat (first | simp only [List.length_append] | simp only [List.length_map] | simp only [List.length_set] | simp only [List.length_replicate] | simp only [List.length_cons] | simp only [List.length_nil])); first | done | omega)); (first | rfl | ((first | simp only [List.length_append] | simp only [List.length_map] | simp only [List.length_set] | simp only [List.length_replicate] | simp only [List.length_cons] | simp only [List.length_nil]); (repeat (first | simp only [List.length_append] | simp only [List.length_map] | simp only [List.length_set] | simp only [List.length_replicate] | simp only [List.length_cons] | simp only [List.length_nil])); first | done | omega)); (first | rfl | (repeat' first | apply all_nV | apply all_bV | apply all_iV | rfl | apply all_app))) | ((with_reducible apply T.alloc); apply rfl; intro nb) | with_reducible refine Sr.nil ?_ | (with_reducible apply T.ofRet) | fail)
      revert nb
      intro b10
      refine S.sublist (H' := .blk b10 (cd sh sa sc) 76 :: sy sh sa sc :: .blk p (rd b bs c pos' most oa on oc) 59 :: .blk b3 ((List.replicate 16 0).map nV ++ [.slice none 0 0]) 76 :: .blk b2 ((List.replicate 16 0).map nV ++ [.slice none 0 0]) 76 :: H) ?_ (by ((repeat (first | dsimp only [List.set_cons_zero] | dsimp only [List.set_cons_succ])); repeat' first | exact PSub.refl _ | exact PSub.nil | ((with_reducible apply PSub.take); (repeat' first | (with_reducible exact pick_hd) | (with_reducible apply pick_tl))) | (with_reducible apply PSub.drop) | ((apply PSub.take); (repeat' first | exact pick_hd | (apply pick_tl)))))
      refine S.nilrow 3 1 ?_
      refine S.front p ?_
      repeat' (first | ((with_reducible apply T.asn); apply rfl; apply rfl) | with_reducible refine Sr.nil ?_ | with_reducible refine S.seq ?_ | with_reducible refine S.block ?_ | with_reducible refine S.reg ?_ | fail)
      refine S.loop (fun μ H' e => ∃ (f q : Nat) (lens : List Nat) (la : Option Addr) (lc : Nat), H' = .blk p (rd b bs c q most oa on oc) 59 :: .row la lc 3 1 lens.length (lens.map nV) :: .blk b10 (cd sh sa sc) 76 :: sy sh sa sc :: .blk b3 ((List.replicate 16 0).map nV ++ [.slice none 0 0]) 76 :: .blk b2 ((List.replicate 16 0).map nV ++ [.slice none 0 0]) 76 :: H ∧
        e = [(0, .pointer (some ⟨p, 0, none⟩)), (2, .pointer (some ⟨b2, 0, none⟩)), (3, .pointer (some ⟨b3, 0, none⟩)), (4, .int .i64 ((l + 257 : Nat) : Int)), (5, .int .i64 ((d + 1 : Nat) : Int)), (10, .pointer (some ⟨b10, 0, none⟩)), (11, .slice la lens.length lc)] ∧
        (q ≤ 8 * bs.length ∧ lens.length ≤ l + 257 + (d + 1) ∧ l + 257 + (d + 1) < f + lens.length ∧ lensL bs sh (l + 257 + (d + 1)) f q lens = lensL bs sh (l + 257 + (d + 1)) (l + 257 + (d + 1) + 1) pos' []) ∧ μ = f) ?_ _ _ ⟨l + 257 + (d + 1) + 1, pos', [], none, 0, rfl, rfl, ⟨g2, by simp, by simp, rfl⟩, rfl⟩ ⟨rfl, rfl, rfl, rfl, rfl, rfl, rfl, trivial⟩
      rintro f _ _ ⟨_, q, lens, la, lc, rfl, rfl, ⟨i1, i2, i3, i4⟩, rfl⟩ ih
      cases f with
      | zero => exfalso; omega
      | succ f =>
      rw [lensL] at i4
      repeat' (first | ((with_reducible apply T.mv); apply rfl; apply rfl) | ((with_reducible apply T.len); apply rfl; apply rfl) | ((with_reducible apply T.lss); apply rfl; apply rfl; apply rfl) | ((with_reducible apply T.addI); apply rfl; apply rfl; omega; apply rfl) | with_reducible refine Sr.nil ?_ | with_reducible refine S.seq ?_ | with_reducible refine S.reg ?_ | fail)
      refine S.condQ rfl (fun hlt => ?_) fun hge => ?_
      · rw [if_pos (by omega)] at i4
        repeat' (first | ((with_reducible apply T.mv); apply rfl; apply rfl) | with_reducible refine S.seq ?_ | with_reducible refine S.block ?_ | with_reducible refine S.reg ?_ | with_reducible refine S.skip ?_ | fail)
        refine T.call rfl rfl (symbol_spec (code_fits (by omega)) rfl i1 hb) ?_
        cases hsy : sym (code sh).1 (code sh).2 bs q with
        | none =>
          rw [hsy] at i4
          rintro _ _ ⟨rfl, vs, rfl⟩
          rw [← i4, dynE]
          repeat' (first | (with_reducible apply T.diesW) | (with_reducible apply T.ofPan) | fail)
          exact ⟨H, by ((repeat (first | dsimp only [List.set_cons_zero] | dsimp only [List.set_cons_succ])); repeat' first | exact PSub.refl _ | exact PSub.nil | ((with_reducible apply PSub.take); (repeat' first | (with_reducible exact pick_hd) | (with_reducible apply pick_tl))) | (with_reducible apply PSub.drop) | ((apply PSub.take); (repeat' first | exact pick_hd | (apply pick_tl)))), rfl, rfl⟩
        | some r =>
        obtain ⟨s, q1⟩ := r
        rw [hsy] at i4
        rintro _ _ ⟨rfl, rfl, hq1⟩
        have hs := (code_sym_lt (by omega) hsy).1
        dsimp only at i4
        repeat' (first | ((with_reducible apply T.asn); apply rfl; apply rfl) | with_reducible refine Sr.nil ?_ | (with_reducible apply T.ofRet) | fail)
        refine S.seq ?_
        skip
        have hrep : ∀ {r}, rep bs s q1 lens = r → (match r with
            | none => Except.error 240
            | some (s', n, q) => if l + 257 + (d + 1) - lens.length < n then Except.error 240 else lensL bs sh (l + 257 + (d + 1)) f q (lens ++ List.replicate n s')) = lensL bs sh (l + 257 + (d + 1)) (l + 257 + (d + 1) + 1) pos' [] := by
          rintro _ rfl
          exact i4
        clear i4
        refine S.cut (fun H' e' => ∃ s' n q2, rep bs s q1 lens = some (s', n, q2) ∧ 1 ≤ n ∧ n ≤ 1000 ∧ q2 ≤ 8 * bs.length ∧ H' = .blk p (rd b bs c q2 most oa on oc) 59 :: .row la lc 3 1 lens.length (lens.map nV) :: .blk b10 (cd sh sa sc) 76 :: sy sh sa sc :: .blk b3 ((List.replicate 16 0).map nV ++ [.slice none 0 0]) 76 :: .blk b2 ((List.replicate 16 0).map nV ++ [.slice none 0 0]) 76 :: H ∧
          e' = [(0, .pointer (some ⟨p, 0, none⟩)), (2, .pointer (some ⟨b2, 0, none⟩)), (3, .pointer (some ⟨b3, 0, none⟩)), (4, .int .i64 ((l + 257 : Nat) : Int)), (5, .int .i64 ((d + 1 : Nat) : Int)), (10, .pointer (some ⟨b10, 0, none⟩)), (11, .slice la lens.length lc), (12, .int .i64 s'), (13, .int .i64 n)]) ?_ ?_
        · intro k' hrest
          have hfail : rep bs s q1 lens = none → dynE (l + 257) (lensL bs sh (l + 257 + (d + 1)) (l + 257 + (d + 1) + 1) pos' []) = .error 240 := fun h => by rw [← hrep h, dynE]
          repeat' (first | ((with_reducible apply T.mv); apply rfl; apply rfl) | ((with_reducible apply T.asn); apply rfl; apply rfl) | ((with_reducible apply T.eql); apply rfl; apply rfl; apply rfl) | with_reducible refine Sr.nil ?_ | with_reducible refine S.seq ?_ | with_reducible refine S.block ?_ | with_reducible refine S.reg ?_ | fail)
          refine S.condQ rfl (fun h16 => ?_) fun h16 => ?_
          · have h16' : s = 16 := by omega
            subst h16'
            repeat' (first | ((with_reducible apply T.mv); apply rfl; apply rfl) | ((with_reducible apply T.len); apply rfl; apply rfl) | ((with_reducible apply T.eql); apply rfl; apply rfl; apply rfl) | with_reducible refine Sr.nil ?_ | with_reducible refine S.seq ?_ | with_reducible refine S.reg ?_ | fail)
            refine S.condQ rfl (fun h0 => ?_) fun h0 => ?_
            · rw [hfail (by simp only [rep, if_true]; rw [if_pos (by omega)])]
              repeat' (first | with_reducible refine S.reg ?_ | fail)
              refine T.call rfl rfl (give_spec 240) ?_
              rintro _ _ ⟨rfl, rfl⟩
              repeat' (first | (with_reducible apply T.diesW) | (with_reducible apply T.ofPan) | fail)
              exact ⟨H, by ((repeat (first | dsimp only [List.set_cons_zero] | dsimp only [List.set_cons_succ])); repeat' first | exact PSub.refl _ | exact PSub.nil | ((with_reducible apply PSub.take); (repeat' first | (with_reducible exact pick_hd) | (with_reducible apply pick_tl))) | (with_reducible apply PSub.drop) | ((apply PSub.take); (repeat' first | exact pick_hd | (apply pick_tl)))), rfl, rfl⟩
            · have e1 : (lens.length : Int) - 1 = ((lens.length - 1 : Nat) : Int) := by omega
              repeat' (first | with_reducible refine S.skip ?_ | fail)
              ((with_reducible apply S.draw); (case Hs => exact .row la lc 3 1 lens.length (lens.map nV) :: .blk b10 (cd sh sa sc) 76 :: sy sh sa sc :: .blk b3 ((List.replicate 16 0).map nV ++ [.slice none 0 0]) 76 :: .blk b2 ((List.replicate 16 0).map nV ++ [.slice none 0 0]) 76 :: H); (case es => exact  [7]); (case n => exact  11); (case hn => rfl))
              repeat' (first | ((with_reducible apply T.subI); apply rfl; apply rfl; omega; apply rfl; rw [e1]) | ((with_reducible apply T.mv); apply rfl; apply rfl) | ((with_reducible apply T.len); apply rfl; apply rfl) | ((with_reducible apply T.ixN); apply rfl; apply rfl; infer_instance; omega; (first | omega | (simp; omega)); apply rfl) | ((with_reducible apply T.loadNat); apply rfl; infer_instance; (first | omega | (simp; omega)); apply rfl) | with_reducible refine Sr.nil ?_ | ((with_reducible apply SA.qn); apply rfl; apply rfl; apply rfl; apply rfl; kernel_rfl) | ((with_reducible apply SA.qsn); apply rfl; apply rfl; apply rfl; kernel_rfl; (first | exact fun _ h => h | exact fun _ h => St.psub h (by ((repeat (first | dsimp only [List.set_cons_zero] | dsimp only [List.set_cons_succ])); repeat' first | exact PSub.refl _ | exact PSub.nil | ((with_reducible apply PSub.take); (repeat' first | (with_reducible exact pick_hd) | (with_reducible apply pick_tl))) | (with_reducible apply PSub.drop) | ((apply PSub.take); (repeat' first | exact pick_hd | (apply pick_tl))))))) | ((with_reducible apply SA.en); apply rfl; apply rfl; kernel_rfl) | fail)
              have hl0 : ¬ lens.length = 0 := by omega
              refine T.call rfl rfl (number_spec (k := 2) (by omega) hq1 hb) ?_
              cases hr : rdN bs 2 q1 with
              | none =>
                rintro _ _ ⟨rfl, vs, rfl⟩
                rw [hfail (by simp only [rep, if_true, hl0, if_false, hr])]
                repeat' (first | (with_reducible apply T.diesW) | (with_reducible apply T.ofPan) | fail)
                exact ⟨H, by ((repeat (first | dsimp only [List.set_cons_zero] | dsimp only [List.set_cons_succ])); repeat' first | exact PSub.refl _ | exact PSub.nil | ((with_reducible apply PSub.take); (repeat' first | (with_reducible exact pick_hd) | (with_reducible apply pick_tl))) | (with_reducible apply PSub.drop) | ((apply PSub.take); (repeat' first | exact pick_hd | (apply pick_tl)))), rfl, rfl⟩
              | some r =>
                obtain ⟨v, q2⟩ := r
                obtain ⟨hv, hq2, -⟩ := rdN_le hr
                rintro _ _ ⟨rfl, rfl⟩
                repeat' (first | ((with_reducible apply T.asn); apply rfl; apply rfl) | ((with_reducible apply T.addI); apply rfl; apply rfl; omega; apply rfl) | with_reducible refine Sr.nil ?_ | with_reducible refine S.inBlock ?_ | (with_reducible apply T.ofRet) | ((with_reducible apply SA.qsn); apply rfl; apply rfl; apply rfl; kernel_rfl; (first | exact fun _ h => h | exact fun _ h => St.psub h (by ((repeat (first | dsimp only [List.set_cons_zero] | dsimp only [List.set_cons_succ])); repeat' first | exact PSub.refl _ | exact PSub.nil | ((with_reducible apply PSub.take); (repeat' first | (with_reducible exact pick_hd) | (with_reducible apply pick_tl))) | (with_reducible apply PSub.drop) | ((apply PSub.take); (repeat' first | exact pick_hd | (apply pick_tl))))))) | ((with_reducible apply SA.done); apply rfl; kernel_rfl) | ((with_reducible apply SK.intro); (first | exact fun _ h => h | exact fun _ h => St.psub h (by ((repeat (first | dsimp only [List.set_cons_zero] | dsimp only [List.set_cons_succ])); repeat' first | exact PSub.refl _ | exact PSub.nil | ((with_reducible apply PSub.take); (repeat' first | (with_reducible exact pick_hd) | (with_reducible apply pick_tl))) | (with_reducible apply PSub.drop) | ((apply PSub.take); (repeat' first | exact pick_hd | (apply pick_tl))))))) | fail)
                skip
                exact hrest _ _ _ ⟨lens.getD (lens.length - 1) 0, 3 + v, q2, by simp only [rep, if_true, hl0, if_false, hr], by omega, by omega, hq2, rfl, rfl⟩ (by exact ⟨rfl, rfl, rfl, rfl, rfl, rfl, rfl, rfl, rfl, trivial⟩)
          · repeat' (first | ((with_reducible apply T.asn); apply rfl; apply rfl) | ((with_reducible apply T.eql); apply rfl; apply rfl; apply rfl) | with_reducible refine Sr.nil ?_ | with_reducible refine S.seq ?_ | with_reducible refine S.reg ?_ | fail)
            have n16 : ¬ s = 16 := by omega
            refine S.condQ rfl (fun h17 => ?_) fun h17 => ?_
            · have h17' : s = 17 := by omega
              subst h17'
              repeat' (first | ((with_reducible apply T.mv); apply rfl; apply rfl) | with_reducible refine S.reg ?_ | fail)
              refine T.call rfl rfl (number_spec (k := 3) (by omega) hq1 hb) ?_
              cases hr : rdN bs 3 q1 with
              | none =>
                rintro _ _ ⟨rfl, vs, rfl⟩
                rw [hfail (by simp only [rep, n16, if_false, if_true, hr])]
                repeat' (first | (with_reducible apply T.diesW) | (with_reducible apply T.ofPan) | fail)
                exact ⟨H, by ((repeat (first | dsimp only [List.set_cons_zero] | dsimp only [List.set_cons_succ])); repeat' first | exact PSub.refl _ | exact PSub.nil | ((with_reducible apply PSub.take); (repeat' first | (with_reducible exact pick_hd) | (with_reducible apply pick_tl))) | (with_reducible apply PSub.drop) | ((apply PSub.take); (repeat' first | exact pick_hd | (apply pick_tl)))), rfl, rfl⟩
              | some r =>
                obtain ⟨v, q2⟩ := r
                obtain ⟨hv, hq2, -⟩ := rdN_le hr
                rintro _ _ ⟨rfl, rfl⟩
                repeat' (first | ((with_reducible apply T.asn); apply rfl; apply rfl) | ((with_reducible apply T.addI); apply rfl; apply rfl; omega; apply rfl) | with_reducible refine Sr.nil ?_ | with_reducible refine S.inBlock ?_ | (with_reducible apply T.ofRet) | fail)
                exact hrest _ _ _ ⟨0, 3 + v, q2, by simp only [rep, n16, if_false, if_true, hr], by omega, by omega, hq2, rfl, rfl⟩ (by exact ⟨rfl, rfl, rfl, rfl, rfl, rfl, rfl, rfl, rfl, trivial⟩)
            · have n17 : ¬ s = 17 := by omega
              repeat' (first | ((with_reducible apply T.asn); apply rfl; apply rfl) | ((with_reducible apply T.eql); apply rfl; apply rfl; apply rfl) | with_reducible refine Sr.nil ?_ | with_reducible refine S.seq ?_ | with_reducible refine S.reg ?_ | fail)
              refine S.condQ rfl (fun h18 => ?_) fun h18 => ?_
              · have h18' : s = 18 := by omega
                subst h18'
                repeat' (first | ((with_reducible apply T.mv); apply rfl; apply rfl) | with_reducible refine S.reg ?_ | fail)
                refine T.call rfl rfl (number_spec (k := 7) (by omega) hq1 hb) ?_
                cases hr : rdN bs 7 q1 with
                | none =>
                  rintro _ _ ⟨rfl, vs, rfl⟩
                  rw [hfail (by simp only [rep, n16, n17, if_false, if_true, hr])]
                  repeat' (first | (with_reducible apply T.diesW) | (with_reducible apply T.ofPan) | fail)
                  exact ⟨H, by ((repeat (first | dsimp only [List.set_cons_zero] | dsimp only [List.set_cons_succ])); repeat' first | exact PSub.refl _ | exact PSub.nil | ((with_reducible apply PSub.take); (repeat' first | (with_reducible exact pick_hd) | (with_reducible apply pick_tl))) | (with_reducible apply PSub.drop) | ((apply PSub.take); (repeat' first | exact pick_hd | (apply pick_tl)))), rfl, rfl⟩
                | some r =>
                  obtain ⟨v, q2⟩ := r
                  obtain ⟨hv, hq2, -⟩ := rdN_le hr
                  rintro _ _ ⟨rfl, rfl⟩
                  repeat' (first | ((with_reducible apply T.asn); apply rfl; apply rfl) | ((with_reducible apply T.addI); apply rfl; apply rfl; omega; apply rfl) | with_reducible refine Sr.nil ?_ | with_reducible refine S.inBlock ?_ | (with_reducible apply T.ofRet) | fail)
                  exact hrest _ _ _ ⟨0, 11 + v, q2, by simp only [rep, n16, n17, if_false, if_true, hr], by omega, by omega, hq2, rfl, rfl⟩ (by exact ⟨rfl, rfl, rfl, rfl, rfl, rfl, rfl, rfl, rfl, trivial⟩)
              · have n18 : ¬ s = 18 := by omega
                repeat' (first | with_reducible refine S.skip ?_ | with_reducible refine S.inBlock ?_ | fail)
                exact hrest _ _ _ ⟨s, 1, q1, by simp only [rep, n16, n17, n18, if_false], by omega, by omega, hq1, rfl, rfl⟩ (by exact ⟨rfl, rfl, rfl, rfl, rfl, rfl, rfl, rfl, rfl, trivial⟩)
        · rintro _ _ ⟨s', n, q2, hrp, hn1, hn2, hq2, rfl, rfl⟩
          have i5 := hrep hrp
          clear hrep
          dsimp only at i5
          repeat' (first | ((with_reducible apply T.mv); apply rfl; apply rfl) | ((with_reducible apply T.len); apply rfl; apply rfl) | ((with_reducible apply T.gtr); apply rfl; apply rfl; apply rfl) | ((with_reducible apply T.addI); apply rfl; apply rfl; omega; apply rfl) | ((with_reducible apply T.subI); apply rfl; apply rfl; omega; apply rfl) | with_reducible refine Sr.nil ?_ | with_reducible refine S.seq ?_ | with_reducible refine S.reg ?_ | fail)
          refine S.condQ rfl (fun hbig => ?_) fun hbig => ?_
          · rw [if_pos (by omega)] at i5
            rw [← i5, dynE]
            repeat' (first | with_reducible refine S.reg ?_ | fail)
            refine T.call rfl rfl (give_spec 240) ?_
            rintro _ _ ⟨rfl, rfl⟩
            repeat' (first | (with_reducible apply T.diesW) | (with_reducible apply T.ofPan) | fail)
            exact ⟨H, by ((repeat (first | dsimp only [List.set_cons_zero] | dsimp only [List.set_cons_succ])); repeat' first | exact PSub.refl _ | exact PSub.nil | ((with_reducible apply PSub.take); (repeat' first | (with_reducible exact pick_hd) | (with_reducible apply pick_tl))) | (with_reducible apply PSub.drop) | ((apply PSub.take); (repeat' first | exact pick_hd | (apply pick_tl)))), rfl, rfl⟩
          · rw [if_neg (by omega)] at i5
            repeat' (first | ((with_reducible apply T.mv); apply rfl; apply rfl) | with_reducible refine Sr.nil ?_ | with_reducible refine S.seq ?_ | with_reducible refine S.block ?_ | with_reducible refine S.reg ?_ | with_reducible refine S.skip ?_ | fail)
            refine S.loopE 2 [0, 2, 3, 4, 5, 10, 12, 90] (fun R b' μ H' e => ∃ (m : Nat) (la : Option Addr) (lc : Nat), H' = .blk p (rd b bs c q2 most oa on oc) 59 :: .row la lc 3 1 (lens.length + m) ((lens ++ List.replicate m s').map nV) :: R ∧
              e = (11, .slice la (lens.length + m) lc) :: (91, .int .i64 m) :: b' ∧ m ≤ n ∧ μ = n - m) rfl rfl ?_ _ _ ⟨0, la, lc, by simp, rfl, by omega, rfl⟩ (by repeat' first | exact trivial | refine And.intro rfl ?_)
            rintro _ _ _ ⟨m, la, lc, rfl, rfl, hmn, rfl⟩ ih'
            have hlm : (lens ++ List.replicate m s').length = lens.length + m := by simp
            have hsucc : lens ++ List.replicate (m + 1) s' = (lens ++ List.replicate m s') ++ [s'] := by rw [List.replicate_succ', List.append_assoc]
            repeat' (first | ((with_reducible apply T.mv); apply rfl; apply rfl) | ((with_reducible apply T.asn); apply rfl; apply rfl) | ((with_reducible apply T.lss); apply rfl; apply rfl; apply rfl) | ((with_reducible apply T.addI); apply rfl; apply rfl; omega; apply rfl) | ((with_reducible apply T.bs); apply rfl; apply rfl; apply rfl; apply rfl; apply rfl; apply rfl; intro nb) | ((with_reducible apply T.appendN); apply rfl; apply rfl; infer_instance; apply rfl; (constructor <;> omega); apply rfl; intro na nc) | with_reducible refine Sr.nil ?_ | with_reducible refine S.seq ?_ | with_reducible refine S.block ?_ | with_reducible refine S.reg ?_ | with_reducible refine S.skip ?_ | with_reducible refine S.inBlock ?_ | ((with_reducible apply S.exit); apply rfl) | ((with_reducible apply S.condQ); apply rfl; all_goals (intro _; try (exfalso; omega))) | fail)
            · exact ih' _ _ _ _ ⟨m + 1, na, nc, by rw [hsucc]; rfl, rfl, by omega, rfl⟩ (by omega) (by repeat' first | exact trivial | refine And.intro rfl ?_)
            · have hmn' : m = n := by omega
              subst hmn'
              exact ih _ _ _ _ ⟨f, q2, lens ++ List.replicate m s', la, lc, by rw [hlm], rfl, ⟨hq2, by omega, by omega, i5⟩, rfl⟩ (by omega) (by rw [hlm]; exact (by repeat' first | exact trivial | refine And.intro rfl ?_))
      · rw [if_neg (by omega)] at i4
        rw [← i4]
        have hlen : lens.length = l + 257 + (d + 1) := by omega
        clear i4 ih i3
        repeat' (first | ((with_reducible apply T.mv); apply rfl; apply rfl) | ((with_reducible apply T.eql); apply rfl; apply rfl; apply rfl) | ((with_reducible apply T.ixC); apply rfl; infer_instance; omega; (first | omega | (simp; omega)); apply rfl) | ((with_reducible apply T.loadNat); apply rfl; infer_instance; (first | omega | (simp; omega)); apply rfl) | with_reducible refine Sr.nil ?_ | with_reducible refine S.seq ?_ | with_reducible refine S.reg ?_ | ((with_reducible apply S.exit); apply rfl) | fail)
        refine S.condQ rfl (fun h256 => ?_) fun h256 => ?_
        · have hdy : dynE (l + 257) (.ok (q, lens)) = .error 240 := by
            simp only [dynE]
            rw [if_pos (by simpa using h256)]
          repeat' (first | with_reducible refine S.reg ?_ | fail)
          refine T.call rfl rfl (give_spec 240) ?_
          rintro _ _ ⟨rfl, rfl⟩
          repeat' (first | (with_reducible apply T.diesW) | (with_reducible apply T.ofPan) | fail)
          exact ⟨H, by ((repeat (first | dsimp only [List.set_cons_zero] | dsimp only [List.set_cons_succ])); repeat' first | exact PSub.refl _ | exact PSub.nil | ((with_reducible apply PSub.take); (repeat' first | (with_reducible exact pick_hd) | (with_reducible apply pick_tl))) | (with_reducible apply PSub.drop) | ((apply PSub.take); (repeat' first | exact pick_hd | (apply pick_tl)))), fail hdy⟩
        generalize hL : l + 257 = L at *
        have hdy : dynE (L) (.ok (q, lens)) = if kind (lens.take (L)) ∈ [3, 2] then if kind (lens.drop (L)) ∈ [3, 2, 1] then .ok (q, lens.take (L), lens.drop (L)) else .error 240 else .error 240 := by
          simp only [dynE]
          rw [if_neg (by simpa using h256)]
        have k1 : (lens.take (L)).length = L := by rw [List.length_take]; omega
        have k2 : (lens.drop (L)).length = lens.length - (L) := List.length_drop
        rw [hdy]
        refine S.capR (ad := la) inferInstance fun hcap => ?_
        repeat' (first | with_reducible refine S.seq ?_ | with_reducible refine S.skip ?_ | fail)
        by_cases q1 : kind (lens.take (L)) ∈ [3, 2]
        · rw [if_pos q1]
          have n1 : ∀ {H : List Res} {b' : Nat} [Rd F M H la (lens.map nV)] [Rd F M H (some ⟨b', 0, none⟩) ([3, 2].map nV)], Meets Tryd.prog 67 [.slice la L lc, .slice (some ⟨b', 0, none⟩) 2 2] F M H (fun e H' => ∃ sa sc, e = .returned (.agg ⟨cd (lens.take (L)) sa sc⟩) ∧ H' = sy (lens.take (L)) sa sc :: H) := by
            intro H b' i1 i2
            have i3 := Rd.take1 i1 (L)
            have := need_spec (H := H) (ks := [3, 2]) (kn := 2) (lc := lc) (kc := 2) (hr := i3) (hr' := i2) k1 (by omega) rfl (by omega)
            simpa only [if_pos q1] using this
          by_cases q2 : kind (lens.drop (L)) ∈ [3, 2, 1]
          · rw [if_pos q2]
            have n2 : ∀ {H : List Res} {b' : Nat} [Rd F M H la (lens.map nV)] [Rd F M H (some ⟨b', 0, none⟩) ([3, 2, 1].map nV)], Meets Tryd.prog 67 [.slice (saddr la lc L 1) (lens.length - L) (lc - L), .slice (some ⟨b', 0, none⟩) 3 3] F M H (fun e H' => ∃ sa sc, e = .returned (.agg ⟨cd (lens.drop (L)) sa sc⟩) ∧ H' = sy (lens.drop (L)) sa sc :: H) := by
              intro H b' i1 i2
              have i3 := Rd.sub1 (cp := lc) (lo := L) i1 (by omega)
              have := need_spec (H := H) (ks := [3, 2, 1]) (kn := 3) (lc := lc - (L)) (kc := 3) (hr := i3) (hr' := i2) k2 (by omega) rfl (by omega)
              simpa only [if_pos q2] using this
            have c1 : (code (lens.take (L))).1.length = 16 := (code_mk _).len
            have c2 : (code (lens.drop (L))).1.length = 16 := (code_mk _).len
            ((with_reducible apply S.draw); (case Hs => exact .blk p (rd b bs c q most oa on oc) 59 :: .row la lc 3 1 lens.length (lens.map nV) :: .blk b10 (cd sh sa sc) 76 :: sy sh sa sc :: H); (case es => exact  [3, 4, 8, 9, 10, 11]); (case n => exact  12); (case hn => rfl))
            repeat' (first | ((with_reducible apply T.bsN); apply rfl; apply rfl; (first | exact (show List.map nV [3, 2] = _ from rfl) | exact (show List.map nV [3, 2, 1] = _ from rfl)); apply rfl; apply rfl; apply rfl; intro nb) | ((with_reducible apply T.call); apply rfl; apply rfl; with_reducible exact n1; rintro _ _ ⟨_, _, rfl, rfl⟩) | ((with_reducible apply T.call); apply rfl; apply rfl; with_reducible exact n2; rintro _ _ ⟨_, _, rfl, rfl⟩) | ((with_reducible apply T.mv); apply rfl; apply rfl) | ((with_reducible apply T.sliceLK); apply rfl; apply rfl; omega; apply rfl) | ((with_reducible apply T.sliceHK); apply rfl; apply rfl; omega; apply rfl) | ((with_reducible apply T.storeW); apply rfl; apply rfl; infer_instance; (first | rfl | ((first | simp only [List.length_append] | simp only [List.length_map] | simp only [List.length_set] | simp only [List.length_replicate] | simp only [List.length_cons] | simp only [List.length_nil]); (repeat (first | simp only [List.length_append] | simp only [List.length_map] | simp only [List.length_set] | simp only [List.length_replicate] | simp only [List.length_cons] | simp only [List.length_nil])); first | done | omega)); (first | rfl | ((first | simp only [List.length_append] | simp only [List.length_map] | simp only [List.length_set] | simp only [List.length_replicate] | simp only [List.length_cons] | simp only [List.length_nil]); (repeat (first | simp only [List.length_append] | simp only [List.length_map] | simp only [List.length_set] | simp only [List.length_replicate] | simp only [List.length_cons] | simp only [List.length_nil])); first | done | omega)); (first | rfl | (repeat' first | apply all_nV | apply all_bV | apply all_iV | rfl | apply all_app))) | with_reducible refine Sr.nil ?_ | (with_reducible apply T.ofRet) | ((with_reducible apply T.retC); apply rfl; ((repeat' first | apply RV.nil | (apply RV.tmp; apply rfl) | (apply RV.cellW; apply rfl; apply rfl; infer_instance; (first | rfl | ((first | simp only [List.length_append] | simp only [List.length_map] | simp only [List.length_set] | simp only [List.length_replicate] | simp only [List.length_cons] | simp only [List.length_nil]); (repeat (first | simp only [List.length_append] | simp only [List.length_map] | simp only [List.length_set] | simp only [List.length_replicate] | simp only [List.length_cons] | simp only [List.length_nil])); first | done | omega))) | (apply RV.cellP; apply rfl; apply rfl; infer_instance; apply rfl))); apply rfl) | ((with_reducible apply SA.qsn); apply rfl; apply rfl; apply rfl; kernel_rfl; (first | exact fun _ h => h | exact fun _ h => St.psub h (by ((repeat (first | dsimp only [List.set_cons_zero] | dsimp only [List.set_cons_succ])); repeat' first | exact PSub.refl _ | exact PSub.nil | ((with_reducible apply PSub.take); (repeat' first | (with_reducible exact pick_hd) | (with_reducible apply pick_tl))) | (with_reducible apply PSub.drop) | ((apply PSub.take); (repeat' first | exact pick_hd | (apply pick_tl))))))) | ((with_reducible apply SA.en); apply rfl; apply rfl; kernel_rfl) | ((with_reducible apply SA.e2); apply rfl; apply rfl; apply rfl; kernel_rfl) | ((with_reducible apply SA.done); apply rfl; kernel_rfl) | ((with_reducible apply SK.intro); (first | exact fun _ h => h | exact fun _ h => St.psub h (by ((repeat (first | dsimp only [List.set_cons_zero] | dsimp only [List.set_cons_succ])); repeat' first | exact PSub.refl _ | exact PSub.nil | ((with_reducible apply PSub.take); (repeat' first | (with_reducible exact pick_hd) | (with_reducible apply pick_tl))) | (with_reducible apply PSub.drop) | ((apply PSub.take); (repeat' first | exact pick_hd | (apply pick_tl))))))) | fail)
            all_goals exact ⟨.blk p (rd b bs c q most oa on oc) 59 :: sy (lens.drop L) _ _ :: sy (lens.take L) _ _ :: H, by ((repeat (first | dsimp only [List.set_cons_zero] | dsimp only [List.set_cons_succ])); repeat' first | exact PSub.refl _ | exact PSub.nil | ((with_reducible apply PSub.take); (repeat' first | (with_reducible exact pick_hd) | (with_reducible apply pick_tl))) | (with_reducible apply PSub.drop) | ((apply PSub.take); (repeat' first | exact pick_hd | (apply pick_tl)))), _, _, _, _, rfl, rfl, i1, by omega, by omega⟩
          · rw [if_neg q2]
            have n2 : ∀ {H : List Res} {b' : Nat} [Rd F M H la (lens.map nV)] [Rd F M H (some ⟨b', 0, none⟩) ([3, 2, 1].map nV)], Meets Tryd.prog 67 [.slice (saddr la lc L 1) (lens.length - L) (lc - L), .slice (some ⟨b', 0, none⟩) 3 3] F M H (fun e H' => e = gave 240 ∧ H' = H) := by
              intro H b' i1 i2
              have i3 := Rd.sub1 (cp := lc) (lo := L) i1 (by omega)
              have := need_spec (H := H) (ks := [3, 2, 1]) (kn := 3) (lc := lc - (L)) (kc := 3) (hr := i3) (hr' := i2) k2 (by omega) rfl (by omega)
              simpa only [if_neg q2] using this
            ((with_reducible apply S.draw); (case Hs => exact H); (case es => exact  [3, 4, 8, 9, 10, 11]); (case n => exact  12); (case hn => rfl))
            repeat' (first | ((with_reducible apply T.bsN); apply rfl; apply rfl; (first | exact (show List.map nV [3, 2] = _ from rfl) | exact (show List.map nV [3, 2, 1] = _ from rfl)); apply rfl; apply rfl; apply rfl; intro nb) | ((with_reducible apply T.call); apply rfl; apply rfl; with_reducible exact n1; rintro _ _ ⟨_, _, rfl, rfl⟩) | ((with_reducible apply T.call); apply rfl; apply rfl; with_reducible exact n2; rintro _ _ ⟨rfl, rfl⟩) | ((with_reducible apply T.mv); apply rfl; apply rfl) | ((with_reducible apply T.sliceLK); apply rfl; apply rfl; omega; apply rfl) | ((with_reducible apply T.sliceHK); apply rfl; apply rfl; omega; apply rfl) | with_reducible refine Sr.nil ?_ | (with_reducible apply T.diesW) | (with_reducible apply T.ofRet) | (with_reducible apply T.ofPan) | ((with_reducible apply SA.qsn); apply rfl; apply rfl; apply rfl; kernel_rfl; (first | exact fun _ h => h | exact fun _ h => St.psub h (by ((repeat (first | dsimp only [List.set_cons_zero] | dsimp only [List.set_cons_succ])); repeat' first | exact PSub.refl _ | exact PSub.nil | ((with_reducible apply PSub.take); (repeat' first | (with_reducible exact pick_hd) | (with_reducible apply pick_tl))) | (with_reducible apply PSub.drop) | ((apply PSub.take); (repeat' first | exact pick_hd | (apply pick_tl))))))) | ((with_reducible apply SA.en); apply rfl; apply rfl; kernel_rfl) | ((with_reducible apply SA.e2); apply rfl; apply rfl; apply rfl; kernel_rfl) | ((with_reducible apply SK.intro); (first | exact fun _ h => h | exact fun _ h => St.psub h (by ((repeat (first | dsimp only [List.set_cons_zero] | dsimp only [List.set_cons_succ])); repeat' first | exact PSub.refl _ | exact PSub.nil | ((with_reducible apply PSub.take); (repeat' first | (with_reducible exact pick_hd) | (with_reducible apply pick_tl))) | (with_reducible apply PSub.drop) | ((apply PSub.take); (repeat' first | exact pick_hd | (apply pick_tl))))))) | fail)
            all_goals exact ⟨H, by ((repeat (first | dsimp only [List.set_cons_zero] | dsimp only [List.set_cons_succ])); repeat' first | exact PSub.refl _ | exact PSub.nil | ((with_reducible apply PSub.take); (repeat' first | (with_reducible exact pick_hd) | (with_reducible apply pick_tl))) | (with_reducible apply PSub.drop) | ((apply PSub.take); (repeat' first | exact pick_hd | (apply pick_tl)))), rfl, rfl⟩
        · rw [if_neg q1]
          have n1 : ∀ {H : List Res} {b' : Nat} [Rd F M H la (lens.map nV)] [Rd F M H (some ⟨b', 0, none⟩) ([3, 2].map nV)], Meets Tryd.prog 67 [.slice la L lc, .slice (some ⟨b', 0, none⟩) 2 2] F M H (fun e H' => e = gave 240 ∧ H' = H) := by
            intro H b' i1 i2
            have i3 := Rd.take1 i1 (L)
            have := need_spec (H := H) (ks := [3, 2]) (kn := 2) (lc := lc) (kc := 2) (hr := i3) (hr' := i2) k1 (by omega) rfl (by omega)
            simpa only [if_neg q1] using this
          ((with_reducible apply S.draw); (case Hs => exact H); (case es => exact  [3, 4, 8, 9, 10, 11]); (case n => exact  12); (case hn => rfl))
          repeat' (first | ((with_reducible apply T.bsN); apply rfl; apply rfl; (first | exact (show List.map nV [3, 2] = _ from rfl) | exact (show List.map nV [3, 2, 1] = _ from rfl)); apply rfl; apply rfl; apply rfl; intro nb) | ((with_reducible apply T.call); apply rfl; apply rfl; with_reducible exact n1; rintro _ _ ⟨rfl, rfl⟩) | ((with_reducible apply T.mv); apply rfl; apply rfl) | ((with_reducible apply T.sliceLK); apply rfl; apply rfl; omega; apply rfl) | ((with_reducible apply T.sliceHK); apply rfl; apply rfl; omega; apply rfl) | with_reducible refine Sr.nil ?_ | (with_reducible apply T.diesW) | (with_reducible apply T.ofPan) | ((with_reducible apply SA.qsn); apply rfl; apply rfl; apply rfl; kernel_rfl; (first | exact fun _ h => h | exact fun _ h => St.psub h (by ((repeat (first | dsimp only [List.set_cons_zero] | dsimp only [List.set_cons_succ])); repeat' first | exact PSub.refl _ | exact PSub.nil | ((with_reducible apply PSub.take); (repeat' first | (with_reducible exact pick_hd) | (with_reducible apply pick_tl))) | (with_reducible apply PSub.drop) | ((apply PSub.take); (repeat' first | exact pick_hd | (apply pick_tl))))))) | ((with_reducible apply SA.en); apply rfl; apply rfl; kernel_rfl) | ((with_reducible apply SA.e2); apply rfl; apply rfl; apply rfl; kernel_rfl) | ((with_reducible apply SK.intro); (first | exact fun _ h => h | exact fun _ h => St.psub h (by ((repeat (first | dsimp only [List.set_cons_zero] | dsimp only [List.set_cons_succ])); repeat' first | exact PSub.refl _ | exact PSub.nil | ((with_reducible apply PSub.take); (repeat' first | (with_reducible exact pick_hd) | (with_reducible apply pick_tl))) | (with_reducible apply PSub.drop) | ((apply PSub.take); (repeat' first | exact pick_hd | (apply pick_tl))))))) | fail)
          all_goals exact ⟨H, by ((repeat (first | dsimp only [List.set_cons_zero] | dsimp only [List.set_cons_succ])); repeat' first | exact PSub.refl _ | exact PSub.nil | ((with_reducible apply PSub.take); (repeat' first | (with_reducible exact pick_hd) | (with_reducible apply pick_tl))) | (with_reducible apply PSub.drop) | ((apply PSub.take); (repeat' first | exact pick_hd | (apply pick_tl)))), rfl, rfl⟩
    · simp only [h3, if_false]
      rintro _ _ ⟨rfl, rfl⟩
      repeat' (first | (with_reducible apply T.diesW) | (with_reducible apply T.ofPan) | fail)
      exact ⟨H, by ((repeat (first | dsimp only [List.set_cons_zero] | dsimp only [List.set_cons_succ])); repeat' first | exact PSub.refl _ | exact PSub.nil | ((with_reducible apply PSub.take); (repeat' first | (with_reducible exact pick_hd) | (with_reducible apply pick_tl))) | (with_reducible apply PSub.drop) | ((apply PSub.take); (repeat' first | exact pick_hd | (apply pick_tl)))), rfl, rfl⟩
end Go.Proofs.YtjhpbljkpbdnnaaDoor
