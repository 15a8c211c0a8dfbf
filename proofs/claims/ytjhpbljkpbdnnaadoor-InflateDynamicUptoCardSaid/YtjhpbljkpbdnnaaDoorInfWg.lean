/- The walk of the statements' head of a dynamic block. -/
import Derived.Test.YtjhpbljkpbdnnaaDoorInfWf
namespace Infl
theorem flat_two {α : Type} {f : α → List Nat} (hf : ∀ a, ∀ x ∈ f a, x < 2) {l : List α} : ∀ x ∈ l.flatMap f, x < 2 := fun x hx => by
  obtain ⟨t, _, ht⟩ := List.mem_flatMap.1 hx
  exact hf t x ht
theorem flat_len {α : Type} {f : α → List Nat} {k : Nat} (hf : ∀ a, (f a).length = k) : ∀ l : List α, (l.flatMap f).length = k * l.length
  | [] => by simp
  | a :: l => by
    rw [List.flatMap_cons, List.length_append, flat_len hf l, hf, List.length_cons, Nat.mul_add]
    omega
theorem flat_take {α : Type} {f : α → List Nat} {d : α} {l : List α} {i : Nat} (h : i < l.length) : (l.take (i + 1)).flatMap f = (l.take i).flatMap f ++ f (l.getD i d) := by rw [take_snoc (d := d) h, List.flatMap_append]; simp
end Infl
namespace Go.Proofs.YtjhpbljkpbdnnaaDoor
open Sg Go.IntWalk Infl
set_option maxRecDepth 100000
set_option maxHeartbeats 1000000
theorem ordW : [Value.int .i64 16, .int .i64 17, .int .i64 18, .int .i64 0, .int .i64 8, .int .i64 7, .int .i64 9, .int .i64 6, .int .i64 10, .int .i64 5, .int .i64 11, .int .i64 4, .int .i64 12, .int .i64 3, .int .i64 13, .int .i64 2, .int .i64 14, .int .i64 1, .int .i64 15] = ordL.map nV := rfl
theorem dynamicW_spec {F : World} {M : List Nat} {H : List Res} {p oc lc dc : Nat} {oa la da : Option Addr} {st : List UInt8 × Nat} {bits : List Nat} {L D : List Nat} [hL : Rd F M H la (L.map nV)] [hD : Rd F M H da (D.map nV)]
    (hw : Wr st bits) (hb : bits.length ≤ 1000) (hl : 257 ≤ L.length ∧ L.length ≤ 286) (hd : 1 ≤ D.length ∧ D.length ≤ 30) (h15 : ∀ x ∈ L ++ D, x ≤ 15) :
    Meets Tryd.prog 24 [.pointer (some ⟨p, 0, none⟩), .slice la L.length lc, .slice da D.length dc] F M (.blk p (wr oa oc st) 37 :: rw_ oa oc st.1 :: H)
      (fun e H' => ∃ oa' oc', e = .returned (.tuple #[]) ∧ H' = .blk p (wr oa' oc' (wputs st (dynB L D))) 37 :: rw_ oa' oc' (wputs st (dynB L D)).1 :: H) := by
  refine Meets.enter Tryd.func24 rfl rfl ?_
  have e1 : (L.length : Int) - 257 = ((L.length - 257 : Nat) : Int) := by omega
  have e2 : (D.length : Int) - 1 = ((D.length - 1 : Nat) : Int) := by omega
  repeat' (first | ((with_reducible apply T.subI (n := 257)); apply rfl; apply rfl; omega; apply rfl; rw [e1]) | ((with_reducible apply T.mv); apply rfl; apply rfl) | ((with_reducible apply T.len); apply rfl; apply rfl) | with_reducible refine S.seq ?_ | with_reducible refine S.reg ?_ | fail)
  refine T.call rfl rfl (numberW_spec (k := 5) hw (by omega) (by omega) (by omega)) ?_
  rintro _ _ ⟨oa, oc, rfl, rfl⟩
  have hw1 := wr_puts hw (more := numB (L.length - 257) 5) numB_two
  repeat' (first | ((with_reducible apply T.subI (n := 1)); apply rfl; apply rfl; omega; apply rfl; rw [e2]) | ((with_reducible apply T.mv); apply rfl; apply rfl) | ((with_reducible apply T.len); apply rfl; apply rfl) | with_reducible refine Sr.nil ?_ | with_reducible refine S.seq ?_ | with_reducible refine S.reg ?_ | (with_reducible apply T.ofRet) | fail)
  refine T.call rfl rfl (numberW_spec (k := 5) hw1 (by omega) (by omega) (by rw [List.length_append, numB_len]; omega)) ?_
  rintro _ _ ⟨oa, oc, rfl, rfl⟩
  have hw2 := wr_puts hw1 (more := numB (D.length - 1) 5) numB_two
  repeat' (first | ((with_reducible apply T.mv); apply rfl; apply rfl) | with_reducible refine Sr.nil ?_ | with_reducible refine S.seq ?_ | with_reducible refine S.reg ?_ | (with_reducible apply T.ofRet) | fail)
  refine T.call rfl rfl (numberW_spec (n := 15) (k := 4) hw2 (by omega) (by omega) (by simp only [List.length_append, numB_len]; omega)) ?_
  rintro _ _ ⟨oa, oc, rfl, rfl⟩
  have hw3 := wr_puts hw2 (more := numB 15 4) numB_two
  generalize hs3 : wputs (wputs (wputs st (numB (L.length - 257) 5)) (numB (D.length - 1) 5)) (numB 15 4) = st3 at *
  generalize hb3 : bits ++ numB (L.length - 257) 5 ++ numB (D.length - 1) 5 ++ numB 15 4 = bits3 at *
  have hbl3 : bits3.length ≤ 1014 := by rw [← hb3]; simp only [List.length_append, numB_len]; omega
  repeat' (first | ((with_reducible apply T.asn); apply rfl; apply rfl) | ((with_reducible apply T.buildAL); apply rfl; apply rfl; apply rfl) | ((with_reducible apply T.storeW); apply rfl; apply rfl; infer_instance; (first | rfl | ((first | simp only [List.length_append] | simp only [List.length_map] | simp only [List.length_set] | simp only [List.length_replicate] | simp only [List.length_cons] | simp only [List.length_nil]); (repeat (first | simp only [List.length_append] | simp only [List.length_map] | simp only [List.length_set] | simp only [List.length_replicate] | simp only [List.length_cons] | simp only [List.length_nil])); first | done | omega)); (first | rfl | ((first | simp only [List.length_append] | simp only [List.length_map] | simp only [List.length_set] | simp only [List.length_replicate] | simp only [List.length_cons] | simp only [List.length_nil]); (repeat (first | simp only [List.length_append] | simp only [List.length_map] | simp only [List.length_set] | simp only [List.length_replicate] | simp only [List.length_cons] | simp only [List.length_nil])); first | done | omega)); (first | rfl | (repeat' first | apply all_nV | apply all_bV | apply all_iV | rfl | apply all_app))) | ((with_reducible apply T.alloc); apply rfl; intro nb) | with_reducible refine Sr.nil ?_ | with_reducible refine S.seq ?_ | with_reducible refine S.block ?_ | with_reducible refine S.reg ?_ | (with_reducible apply T.ofRet) | fail)
  rw [ordW]
  refine S.frontR oa ?_
  refine S.front p ?_
  have hdyn : wputs st (dynB L D) = wputs (wputs (wputs st3 (ordL.flatMap fun o => numB (hv4 o) 3)) (L.flatMap fun x => wordB x 4)) (D.flatMap fun x => wordB x 4) := by
    rw [← hs3]
    simp only [← wputs_app, dynB, List.flatMap_append, List.append_assoc]
  rw [hdyn]
  clear hdyn hs3 hb3 hw hw1 hw2
  refine S.loopE 2 [0, 1, 2, 6] (fun R b' μ H' e => ∃ (i : Nat) (oa : Option Addr) (oc : Nat), H' = .blk p (wr oa oc (wputs st3 ((ordL.take i).flatMap fun o => numB (hv4 o) 3))) 37 :: rw_ oa oc (wputs st3 ((ordL.take i).flatMap fun o => numB (hv4 o) 3)).1 :: R ∧ e = (7, .int .i64 i) :: b' ∧ i ≤ 19 ∧ μ = 19 - i) rfl rfl ?_ _ _ ⟨0, oa, oc, rfl, rfl, by omega, rfl⟩ (by repeat' first | exact trivial | refine And.intro rfl ?_)
  rintro _ _ _ ⟨i, oa, oc, rfl, rfl, hi, rfl⟩ ih
  have hol : ordL.length = 19 := rfl
  have hwi := wr_puts hw3 (more := (ordL.take i).flatMap fun o => numB (hv4 o) 3) (flat_two fun _ => numB_two)
  have hli := flat_len (f := fun o => numB (hv4 o) 3) (fun _ => numB_len _ _) (ordL.take i)
  rw [List.length_take] at hli
  by_cases h19 : i < 19
  · have hst : wputs st3 ((ordL.take (i + 1)).flatMap fun o => numB (hv4 o) 3) = wputs (wputs st3 ((ordL.take i).flatMap fun o => numB (hv4 o) 3)) (numB (hv4 (ordL.getD i 0)) 3) := by rw [flat_take (d := 0) (by omega), wputs_app]
    repeat' (first | (refine T.loadCN (xs := ordL) (r := []) (off := i) rfl inferInstance (List.append_nil _).symm (by omega) rfl ?_) | ((with_reducible apply T.mv); apply rfl; apply rfl) | ((with_reducible apply T.asn); apply rfl; apply rfl) | ((with_reducible apply T.lss); apply rfl; apply rfl; apply rfl) | ((with_reducible apply T.gtr); apply rfl; apply rfl; apply rfl) | ((with_reducible apply T.ixAZ); apply rfl; apply rfl; omega; apply rfl) | with_reducible refine Sr.nil ?_ | with_reducible refine S.seq ?_ | with_reducible refine S.block ?_ | with_reducible refine S.reg ?_ | with_reducible refine S.skip ?_ | ((with_reducible apply S.condQ); apply rfl; all_goals (intro _; try (exfalso; omega))) | fail)
    · have hv : hv4 (ordL.getD i 0) = 0 := if_pos (by omega)
      refine T.call rfl rfl (numberW_spec (n := 0) (k := 3) hwi (by omega) (by omega) (by rw [List.length_append]; omega)) ?_
      rintro _ _ ⟨oa, oc, rfl, rfl⟩
      rw [hv] at hst
      rw [← hst]
      repeat' (first | ((with_reducible apply T.mv); apply rfl; apply rfl) | ((with_reducible apply T.asn); apply rfl; apply rfl) | ((with_reducible apply T.addI); apply rfl; apply rfl; omega; apply rfl) | with_reducible refine Sr.nil ?_ | with_reducible refine S.reg ?_ | with_reducible refine S.inBlock ?_ | (with_reducible apply T.ofRet) | fail)
      exact ih _ _ _ _ ⟨i + 1, oa, oc, rfl, rfl, by omega, rfl⟩ (by omega) (by repeat' first | exact trivial | refine And.intro rfl ?_)
    · have hv : hv4 (ordL.getD i 0) = 4 := if_neg (by omega)
      refine T.call rfl rfl (numberW_spec (n := 4) (k := 3) hwi (by omega) (by omega) (by rw [List.length_append]; omega)) ?_
      rintro _ _ ⟨oa, oc, rfl, rfl⟩
      rw [hv] at hst
      rw [← hst]
      repeat' (first | ((with_reducible apply T.mv); apply rfl; apply rfl) | ((with_reducible apply T.asn); apply rfl; apply rfl) | ((with_reducible apply T.addI); apply rfl; apply rfl; omega; apply rfl) | with_reducible refine Sr.nil ?_ | with_reducible refine S.reg ?_ | with_reducible refine S.inBlock ?_ | (with_reducible apply T.ofRet) | fail)
      exact ih _ _ _ _ ⟨i + 1, oa, oc, rfl, rfl, by omega, rfl⟩ (by omega) (by repeat' first | exact trivial | refine And.intro rfl ?_)
  · obtain rfl : i = 19 := by omega
    clear ih
    rw [show ordL.take 19 = ordL from rfl] at hwi hli ⊢
    generalize wputs st3 (ordL.flatMap fun o => numB (hv4 o) 3) = st4 at *
    generalize hb4 : bits3 ++ (ordL.flatMap fun o => numB (hv4 o) 3) = bits4 at *
    have hbl4 : bits4.length ≤ 1071 := by rw [← hb4, List.length_append]; omega
    repeat' (first | ((with_reducible apply T.mv); apply rfl; apply rfl) | ((with_reducible apply T.asn); apply rfl; apply rfl) | ((with_reducible apply T.lss); apply rfl; apply rfl; apply rfl) | with_reducible refine Sr.nil ?_ | with_reducible refine S.seq ?_ | with_reducible refine S.block ?_ | with_reducible refine S.reg ?_ | ((with_reducible apply S.exit); apply rfl) | ((with_reducible apply S.condF); apply rfl) | fail)
    refine S.loopE 2 [0, 1, 2] (fun R b' μ H' e => ∃ (i : Nat) (oa : Option Addr) (oc : Nat), H' = .blk p (wr oa oc (wputs st4 ((L.take i).flatMap fun x => wordB x 4))) 37 :: rw_ oa oc (wputs st4 ((L.take i).flatMap fun x => wordB x 4)).1 :: R ∧ e = (9, .int .i64 i) :: b' ∧ i ≤ L.length ∧ μ = L.length - i) rfl rfl ?_ _ _ ⟨0, oa, oc, rfl, rfl, by omega, rfl⟩ (by repeat' first | exact trivial | refine And.intro rfl ?_)
    rintro _ _ _ ⟨i, oa, oc, rfl, rfl, hi, rfl⟩ ih
    have hwj := wr_puts hwi (more := (L.take i).flatMap fun x => wordB x 4) (flat_two fun _ => wordB_two)
    have hlj := flat_len (f := fun x => wordB x 4) (fun _ => wordB_len _ _) (L.take i)
    rw [List.length_take] at hlj
    by_cases hiL : i < L.length
    · have hst : wputs st4 ((L.take (i + 1)).flatMap fun x => wordB x 4) = wputs (wputs st4 ((L.take i).flatMap fun x => wordB x 4)) (wordB (L.getD i 0) 4) := by rw [flat_take (d := 0) hiL, wputs_app]
      have hx : L.getD i 0 ≤ 15 := by
        rw [List.getD_eq_getElem?_getD, List.getElem?_eq_getElem hiL]
        exact h15 _ (List.mem_append_left _ (List.getElem_mem _))
      repeat' (first | ((with_reducible apply T.mv); apply rfl; apply rfl) | ((with_reducible apply T.len); apply rfl; apply rfl) | ((with_reducible apply T.lss); apply rfl; apply rfl; apply rfl) | ((with_reducible apply T.ixN); apply rfl; apply rfl; infer_instance; omega; (first | omega | (simp only [List.length_map]; omega) | (simp; omega)); apply rfl) | ((with_reducible apply T.loadNat); apply rfl; infer_instance; (first | omega | (simp only [List.length_map]; omega) | (simp; omega)); apply rfl) | with_reducible refine Sr.nil ?_ | with_reducible refine S.seq ?_ | with_reducible refine S.block ?_ | with_reducible refine S.reg ?_ | with_reducible refine S.skip ?_ | ((with_reducible apply S.condQ); apply rfl; all_goals (intro _; try (exfalso; omega))) | fail)
      refine T.call rfl rfl (wordW_spec (n := L.getD i 0) (l := 4) hwj (by omega) (by omega) (by rw [List.length_append]; omega)) ?_
      rintro _ _ ⟨oa, oc, rfl, rfl⟩
      rw [← hst]
      repeat' (first | ((with_reducible apply T.mv); apply rfl; apply rfl) | ((with_reducible apply T.asn); apply rfl; apply rfl) | ((with_reducible apply T.addI); apply rfl; apply rfl; omega; apply rfl) | with_reducible refine Sr.nil ?_ | with_reducible refine S.reg ?_ | with_reducible refine S.inBlock ?_ | (with_reducible apply T.ofRet) | fail)
      exact ih _ _ _ _ ⟨i + 1, oa, oc, rfl, rfl, by omega, rfl⟩ (by omega) (by repeat' first | exact trivial | refine And.intro rfl ?_)
    · obtain rfl : i = L.length := by omega
      clear ih
      rw [List.take_length] at hwj hlj ⊢
      generalize wputs st4 (L.flatMap fun x => wordB x 4) = st5 at *
      generalize hb5 : bits4 ++ (L.flatMap fun x => wordB x 4) = bits5 at *
      have hbl5 : bits5.length ≤ 3000 := by rw [← hb5, List.length_append]; omega
      repeat' (first | ((with_reducible apply T.mv); apply rfl; apply rfl) | ((with_reducible apply T.asn); apply rfl; apply rfl) | ((with_reducible apply T.len); apply rfl; apply rfl) | ((with_reducible apply T.lss); apply rfl; apply rfl; apply rfl) | with_reducible refine Sr.nil ?_ | with_reducible refine S.seq ?_ | with_reducible refine S.block ?_ | with_reducible refine S.reg ?_ | ((with_reducible apply S.exit); apply rfl) | ((with_reducible apply S.condQ); apply rfl; all_goals (intro _; try (exfalso; omega))) | fail)
      refine S.loopE 2 [0, 2] (fun R b' μ H' e => ∃ (i : Nat) (oa : Option Addr) (oc : Nat), H' = .blk p (wr oa oc (wputs st5 ((D.take i).flatMap fun x => wordB x 4))) 37 :: rw_ oa oc (wputs st5 ((D.take i).flatMap fun x => wordB x 4)).1 :: R ∧ e = (10, .int .i64 i) :: b' ∧ i ≤ D.length ∧ μ = D.length - i) rfl rfl ?_ _ _ ⟨0, oa, oc, rfl, rfl, by omega, rfl⟩ (by repeat' first | exact trivial | refine And.intro rfl ?_)
      rintro _ _ _ ⟨i, oa, oc, rfl, rfl, hi, rfl⟩ ih
      have hwk := wr_puts hwj (more := (D.take i).flatMap fun x => wordB x 4) (flat_two fun _ => wordB_two)
      have hlk := flat_len (f := fun x => wordB x 4) (fun _ => wordB_len _ _) (D.take i)
      rw [List.length_take] at hlk
      by_cases hiD : i < D.length
      · have hst : wputs st5 ((D.take (i + 1)).flatMap fun x => wordB x 4) = wputs (wputs st5 ((D.take i).flatMap fun x => wordB x 4)) (wordB (D.getD i 0) 4) := by rw [flat_take (d := 0) hiD, wputs_app]
        have hx : D.getD i 0 ≤ 15 := by
          rw [List.getD_eq_getElem?_getD, List.getElem?_eq_getElem hiD]
          exact h15 _ (List.mem_append_right _ (List.getElem_mem _))
        repeat' (first | ((with_reducible apply T.mv); apply rfl; apply rfl) | ((with_reducible apply T.len); apply rfl; apply rfl) | ((with_reducible apply T.lss); apply rfl; apply rfl; apply rfl) | ((with_reducible apply T.ixN); apply rfl; apply rfl; infer_instance; omega; (first | omega | (simp only [List.length_map]; omega) | (simp; omega)); apply rfl) | ((with_reducible apply T.loadNat); apply rfl; infer_instance; (first | omega | (simp only [List.length_map]; omega) | (simp; omega)); apply rfl) | with_reducible refine Sr.nil ?_ | with_reducible refine S.seq ?_ | with_reducible refine S.block ?_ | with_reducible refine S.reg ?_ | with_reducible refine S.skip ?_ | ((with_reducible apply S.condQ); apply rfl; all_goals (intro _; try (exfalso; omega))) | fail)
        refine T.call rfl rfl (wordW_spec (n := D.getD i 0) (l := 4) hwk (by omega) (by omega) (by rw [List.length_append]; omega)) ?_
        rintro _ _ ⟨oa, oc, rfl, rfl⟩
        rw [← hst]
        repeat' (first | ((with_reducible apply T.mv); apply rfl; apply rfl) | ((with_reducible apply T.asn); apply rfl; apply rfl) | ((with_reducible apply T.addI); apply rfl; apply rfl; omega; apply rfl) | with_reducible refine Sr.nil ?_ | with_reducible refine S.reg ?_ | with_reducible refine S.inBlock ?_ | (with_reducible apply T.ofRet) | fail)
        exact ih _ _ _ _ ⟨i + 1, oa, oc, rfl, rfl, by omega, rfl⟩ (by omega) (by repeat' first | exact trivial | refine And.intro rfl ?_)
      · obtain rfl : i = D.length := by omega
        rw [List.take_length]
        repeat' (first | ((with_reducible apply T.mv); apply rfl; apply rfl) | ((with_reducible apply T.len); apply rfl; apply rfl) | ((with_reducible apply T.lss); apply rfl; apply rfl; apply rfl) | with_reducible refine Sr.nil ?_ | with_reducible refine S.seq ?_ | with_reducible refine S.reg ?_ | ((with_reducible apply S.exit); apply rfl) | ((with_reducible apply T.doneW); apply rfl) | ((with_reducible apply S.condQ); apply rfl; all_goals (intro _; try (exfalso; omega))) | fail)
        exact ⟨.blk p (wr oa oc (wputs st5 (D.flatMap fun x => wordB x 4))) 37 :: rw_ oa oc (wputs st5 (D.flatMap fun x => wordB x 4)).1 :: H, by ((repeat (first | dsimp only [List.set_cons_zero] | dsimp only [List.set_cons_succ])); repeat' first | exact PSub.refl _ | exact PSub.nil | ((with_reducible apply PSub.take); (repeat' first | (with_reducible exact pick_hd) | (with_reducible apply pick_tl))) | (with_reducible apply PSub.drop) | ((apply PSub.take); (repeat' first | exact pick_hd | (apply pick_tl)))), oa, oc, rfl, rfl⟩
end Go.Proofs.YtjhpbljkpbdnnaaDoor
