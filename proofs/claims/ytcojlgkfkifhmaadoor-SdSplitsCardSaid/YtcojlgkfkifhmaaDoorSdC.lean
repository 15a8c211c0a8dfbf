/- The document's Split. -/
import Derived.Test.YtcojlgkfkifhmaaDoorSdB
/- words -/
/- maps -/
namespace Go.Proofs.YtcojlgkfkifhmaaDoor
open Sg Go.IntWalk
set_option maxRecDepth 100000
set_option maxHeartbeats 2000000
theorem take_next {bs : List UInt8} {f i : Nat} (h : i < bs.length) (hf : f ≤ i) : (bs.drop f).take (i + 1 - f) = (bs.drop f).take (i - f) ++ [bs.getD i 0] := by
  rw [show i + 1 - f = (i - f) + 1 by omega, List.take_succ_eq_append_getElem (by rw [List.length_drop]; omega)]
  congr 1
  simp [List.getD, List.getElem?_eq_getElem h, show f + (i - f) = i by omega]
theorem take_snoc' {bs : List UInt8} {i : Nat} (h : i < bs.length) : bs.take (i + 1) = bs.take i ++ [bs.getD i 0] := by
  rw [List.take_succ_eq_append_getElem h]
  simp [List.getD, h]
theorem eq_toNat {a : UInt8} (h : (a.toNat : Int) = 126) : a = 126 := by
  apply UInt8.toNat_inj.1
  show a.toNat = 126
  omega
theorem bad_of {hd : List UInt8} {tl : List (List UInt8)} {i : Nat} (h1 : 1 ≤ i) (h2 : i < (hd :: tl).length) (h3 : (hd :: tl).getD i [] = []) : tl.any (·.isEmpty) = true := by
  obtain ⟨j, rfl⟩ : ∃ j, i = j + 1 := ⟨i - 1, by omega⟩
  rw [List.length_cons] at h2
  rw [List.any_eq_true]
  refine ⟨tl.getD j [], ?_, ?_⟩
  · simp only [List.getD, List.getElem?_eq_getElem (show j < tl.length by omega), Option.getD_some]
    exact List.getElem_mem _
  · have : tl.getD j [] = [] := by simpa [List.getD] using h3
    rw [this]
    rfl
theorem notbad_of {hd : List UInt8} {tl : List (List UInt8)} (h : ∀ j, 1 ≤ j → j < (hd :: tl).length → (hd :: tl).getD j [] ≠ []) : tl.any (·.isEmpty) = false := by
  rw [List.any_eq_false]
  intro x hx he
  obtain ⟨j, hj, rfl⟩ := List.getElem_of_mem hx
  refine h (j + 1) (by omega) (by rw [List.length_cons]; omega) ?_
  have : tl[j] = [] := List.isEmpty_iff.1 he
  simp [List.getD, List.getElem?_eq_getElem hj, this]
theorem refSplit_spec {F : World} {M : List Nat} {H : List Res} {bs : List UInt8} (hn : bs.length ≤ 140737488355328) :
    Meets Tryd.prog 5 [sV bs] F M H (fun e H' => ∃ ad cp, e = .returned (.tuple ⟨[sV (splitA bs).1, .slice ad (splitA bs).2.1.length cp, .int .i64 (splitA bs).2.2]⟩) ∧ H' = .row ad cp 9 1 (splitA bs).2.1.length ((splitA bs).2.1.map sV) :: H) := by
  refine Meets.enter Tryd.func5 rfl rfl ?_
  by_cases h1 : 262144 < bs.length
  · have hA : splitA bs = ([], [], 10) := by rw [splitA, if_pos h1]
    rw [hA]
    refine S.nilrow 9 1 ?_
    repeat' (first | ((with_reducible apply T.slen); apply rfl; apply rfl) | ((with_reducible apply T.mv); apply rfl; apply rfl) | ((with_reducible apply T.asn); apply rfl; apply rfl) | ((with_reducible apply T.gtr); apply rfl; apply rfl; apply rfl) | with_reducible refine Sr.nil ?_ | with_reducible refine S.seq ?_ | with_reducible refine S.reg ?_ | ((with_reducible apply T.retW); apply rfl) | ((with_reducible apply S.condQ); apply rfl; all_goals (intro _; try (exfalso; omega))) | fail)
    exact ⟨_, PSub.refl _, _, _, rfl, rfl⟩
  · by_cases hs : Lib.hasSuffix bs [126] = true
    · obtain ⟨r, hbr⟩ := (suffix_one 126 bs).1 hs
      have hlen : bs.length = r.length + 1 := by rw [hbr, List.length_append]; rfl
      have hlast : (bs.getD (bs.length - 1) 0).toNat = 126 := by
        rw [hlen, hbr]
        simp [List.getD]
      repeat' (first | ((with_reducible apply T.subKN 1); apply rfl; apply rfl; omega; apply rfl) | ((with_reducible apply T.slen); apply rfl; apply rfl) | ((with_reducible apply T.sidx); apply rfl; apply rfl; omega; apply rfl) | ((with_reducible apply T.mv); apply rfl; apply rfl) | ((with_reducible apply T.asn); apply rfl; apply rfl) | ((with_reducible apply T.gtr); apply rfl; apply rfl; apply rfl) | ((with_reducible apply T.eql); apply rfl; apply rfl; apply rfl) | ((with_reducible apply T.neq); apply rfl; apply rfl; apply rfl) | ((with_reducible apply T.pickF); apply rfl; apply rfl; apply rfl) | with_reducible refine Sr.nil ?_ | with_reducible refine S.seq ?_ | with_reducible refine S.block ?_ | with_reducible refine S.reg ?_ | with_reducible refine S.skip ?_ | ((with_reducible apply T.ung); apply rfl) | ((with_reducible apply S.condQ); apply rfl; all_goals (intro _; try (exfalso; omega))) | ((with_reducible apply T.gcase); apply rfl; apply rfl; all_goals (intro _; try (exfalso; omega))) | fail)
      refine S.nilrow 9 1 ?_
      refine S.loopE 1 [0] (fun R b' μ H' e => ∃ (i f : Nat) (ps : List (List UInt8)) (ad : Option Addr) (cp : Nat), H' = .row ad cp 9 1 ps.length (ps.map sV) :: R ∧ e = (5, .slice ad ps.length cp) :: (6, .int .i64 f) :: (7, .int .i64 i) :: b' ∧ f ≤ i ∧ pieces 126 (bs.take i) = ps ++ [(bs.drop f).take (i - f)] ∧ i ≤ bs.length ∧ μ = bs.length - i) rfl rfl ?_ _ _ ⟨0, 0, [], _, _, rfl, rfl, by omega, rfl, by omega, rfl⟩ (by repeat' first | exact trivial | refine And.intro rfl ?_)
      rintro _ _ _ ⟨i, f, ps, ad, cp, rfl, rfl, hf, hp, hi, rfl⟩ ih
      have hpl := pieces_len 126 (bs.take i)
      rw [hp, List.length_append, List.length_take, List.length_singleton] at hpl
      by_cases h2 : i < bs.length
      · have hsn := pieces_snoc 126 (bs.take i) (bs.getD i 0) ps _ hp
        rw [← take_snoc' h2] at hsn
        by_cases h3 : bs.getD i 0 = 126
        · have h3n : ((bs.getD i 0).toNat : Int) = 126 := by rw [h3]; rfl
          rw [if_pos h3] at hsn
          repeat' (first | ((with_reducible apply T.sslice); apply rfl; apply rfl; apply rfl; omega; apply rfl) | (refine T.appendL (g := sV) (us := [(bs.drop f).take (i - f)]) rfl rfl inferInstance rfl (fun _ => rfl) rfl (by constructor <;> omega) rfl ?_; intro na nc) | ((with_reducible apply T.addKN 1); apply rfl; apply rfl; omega; apply rfl) | ((with_reducible apply T.slen); apply rfl; apply rfl) | ((with_reducible apply T.sidx); apply rfl; apply rfl; omega; apply rfl) | ((with_reducible apply T.mv); apply rfl; apply rfl) | ((with_reducible apply T.asn); apply rfl; apply rfl) | ((with_reducible apply T.lss); apply rfl; apply rfl; apply rfl) | ((with_reducible apply T.eql); apply rfl; apply rfl; apply rfl) | ((with_reducible apply T.bs); apply rfl; apply rfl; apply rfl; apply rfl; apply rfl; apply rfl; intro nb) | with_reducible refine Sr.nil ?_ | with_reducible refine S.seq ?_ | with_reducible refine S.block ?_ | with_reducible refine S.reg ?_ | with_reducible refine S.skip ?_ | with_reducible refine S.inBlock ?_ | ((with_reducible apply S.condQ); apply rfl; all_goals (intro _; try (exfalso; omega))) | fail)
          rw [show ps.length + 1 = (ps ++ [(bs.drop f).take (i - f)]).length by rw [List.length_append]; rfl]
          exact ih _ _ _ _ ⟨i + 1, i + 1, ps ++ [(bs.drop f).take (i - f)], _, _, rfl, rfl, by omega, by rw [hsn, Nat.sub_self, List.take_zero], by omega, rfl⟩ (by omega) (by repeat' first | exact trivial | refine And.intro rfl ?_)
        · have h3n : ¬ ((bs.getD i 0).toNat : Int) = 126 := fun h => h3 (eq_toNat h)
          rw [if_neg h3] at hsn
          repeat' (first | ((with_reducible apply T.addKN 1); apply rfl; apply rfl; omega; apply rfl) | ((with_reducible apply T.slen); apply rfl; apply rfl) | ((with_reducible apply T.sidx); apply rfl; apply rfl; omega; apply rfl) | ((with_reducible apply T.mv); apply rfl; apply rfl) | ((with_reducible apply T.asn); apply rfl; apply rfl) | ((with_reducible apply T.lss); apply rfl; apply rfl; apply rfl) | ((with_reducible apply T.eql); apply rfl; apply rfl; apply rfl) | with_reducible refine Sr.nil ?_ | with_reducible refine S.seq ?_ | with_reducible refine S.block ?_ | with_reducible refine S.reg ?_ | with_reducible refine S.skip ?_ | with_reducible refine S.inBlock ?_ | ((with_reducible apply S.condQ); apply rfl; all_goals (intro _; try (exfalso; omega))) | fail)
          exact ih _ _ _ _ ⟨i + 1, f, ps, _, _, rfl, rfl, by omega, by rw [hsn, take_next h2 hf], by omega, rfl⟩ (by omega) (by repeat' first | exact trivial | refine And.intro rfl ?_)
      · obtain rfl : i = bs.length := by omega
        clear ih
        have hps : ps = pieces 126 r := by
          obtain ⟨qs, m, hq⟩ : ∃ qs m, pieces 126 r = qs ++ [m] := ⟨_, _, (List.dropLast_concat_getLast (pieces_ne 126 r)).symm⟩
          have hsn := pieces_snoc 126 r 126 qs m hq
          rw [if_pos rfl, ← hbr] at hsn
          rw [List.take_length, hsn] at hp
          rw [hq]
          exact (List.append_inj' hp rfl).1.symm
        have hcons := pieces_cons 126 r
        obtain ⟨hd, tl, hht⟩ : ∃ hd tl, pieces 126 r = hd :: tl := ⟨_, _, hcons.symm⟩
        have hbad : bad 126 r = tl.any (·.isEmpty) := by rw [bad, hht]; rfl
        have hAt : tl.any (·.isEmpty) = true → splitA bs = ([], [], 200) := fun h => by rw [splitA, if_neg h1, if_neg (by rw [hbr, List.dropLast_concat, hbad, h]; simp)]
        have hAf : tl.any (·.isEmpty) = false → splitA bs = (hd, tl, 0) := fun h => by
          rw [splitA, if_neg h1, if_pos ⟨hs, by rw [hbr, List.dropLast_concat, hbad, h]⟩, hbr, List.dropLast_concat, hht]
          rfl
        rw [hht] at hps
        subst hps
        clear hp hcons hbad hht
        have hll : (hd :: tl).length = tl.length + 1 := rfl
        repeat' (first | ((with_reducible apply T.slen); apply rfl; apply rfl) | ((with_reducible apply T.mv); apply rfl; apply rfl) | ((with_reducible apply T.asn); apply rfl; apply rfl) | ((with_reducible apply T.lss); apply rfl; apply rfl; apply rfl) | with_reducible refine Sr.nil ?_ | with_reducible refine S.seq ?_ | with_reducible refine S.block ?_ | with_reducible refine S.reg ?_ | ((with_reducible apply S.exit); apply rfl) | ((with_reducible apply S.condQ); apply rfl; all_goals (intro _; try (exfalso; omega))) | fail)
        refine S.loopE 0 [5] (fun R b' μ H' e => ∃ i : Nat, H' = R ∧ e = (8, .int .i64 i) :: b' ∧ 1 ≤ i ∧ i ≤ (hd :: tl).length ∧ (∀ j, 1 ≤ j → j < i → (hd :: tl).getD j [] ≠ []) ∧ μ = (hd :: tl).length - i) rfl rfl ?_ _ _ ⟨1, rfl, rfl, by omega, by omega, fun j h1 h2 => by omega, rfl⟩ (by repeat' first | exact trivial | refine And.intro rfl ?_)
        rintro _ _ _ ⟨i, rfl, rfl, hi1, hi2, hne, rfl⟩ ih
        by_cases h4 : i < (hd :: tl).length
        · by_cases h5 : (hd :: tl).getD i [] = []
          · rw [hAt (bad_of hi1 h4 h5)]
            refine S.nilrow 9 1 ?_
            repeat' (first | ((with_reducible apply T.seql); apply rfl; apply rfl; apply rfl) | ((with_reducible apply T.loadS); apply rfl; infer_instance; (first | omega | (simp only [List.length_map]; omega)); apply rfl) | ((with_reducible apply T.mv); apply rfl; apply rfl) | ((with_reducible apply T.asn); apply rfl; apply rfl) | ((with_reducible apply T.len); apply rfl; apply rfl) | ((with_reducible apply T.lss); apply rfl; apply rfl; apply rfl) | ((with_reducible apply T.addI); apply rfl; apply rfl; omega; apply rfl) | ((with_reducible apply T.ixN); apply rfl; apply rfl; infer_instance; omega; (first | omega | (simp only [List.length_map]; omega) | (simp; omega)); apply rfl) | with_reducible refine Sr.nil ?_ | with_reducible refine S.seq ?_ | with_reducible refine S.block ?_ | with_reducible refine S.reg ?_ | with_reducible refine S.skip ?_ | with_reducible refine S.inBlock ?_ | ((with_reducible apply T.retW); apply rfl) | ((with_reducible apply S.condQ); apply rfl; all_goals (intro _; try (exfalso; omega))) | fail)
            all_goals try contradiction
            exact ⟨_, .take pick_hd (.drop (PSub.refl _)), _, _, rfl, rfl⟩
          · repeat' (first | ((with_reducible apply T.addKN 1); apply rfl; apply rfl; omega; apply rfl) | ((with_reducible apply T.seql); apply rfl; apply rfl; apply rfl) | ((with_reducible apply T.loadS); apply rfl; infer_instance; (first | omega | (simp only [List.length_map]; omega)); apply rfl) | ((with_reducible apply T.mv); apply rfl; apply rfl) | ((with_reducible apply T.asn); apply rfl; apply rfl) | ((with_reducible apply T.len); apply rfl; apply rfl) | ((with_reducible apply T.lss); apply rfl; apply rfl; apply rfl) | ((with_reducible apply T.ixN); apply rfl; apply rfl; infer_instance; omega; (first | omega | (simp only [List.length_map]; omega) | (simp; omega)); apply rfl) | with_reducible refine Sr.nil ?_ | with_reducible refine S.seq ?_ | with_reducible refine S.block ?_ | with_reducible refine S.reg ?_ | with_reducible refine S.skip ?_ | with_reducible refine S.inBlock ?_ | ((with_reducible apply T.retW); apply rfl) | ((with_reducible apply S.condQ); apply rfl; all_goals (intro _; try (exfalso; omega))) | fail)
            all_goals try contradiction
            have hne2 : ∀ j, 1 ≤ j → j < i + 1 → (hd :: tl).getD j [] ≠ [] := fun j hj1 hj2 => by
              by_cases hj : j < i
              · exact hne j hj1 hj
              · obtain rfl : j = i := by omega
                exact h5
            exact ih _ _ _ _ ⟨i + 1, rfl, rfl, by omega, by omega, hne2, rfl⟩ (by omega) (by repeat' first | exact trivial | refine And.intro rfl ?_)
        · obtain rfl : i = (hd :: tl).length := by omega
          rw [hAf (notbad_of hne)]
          refine S.capR (ad := ad) inferInstance (fun hcap => ?_)
          have hR2 : Rd F M (.row ad cp 9 1 (hd :: tl).length ((hd :: tl).map sV) :: H) (saddr ad cp 1 1) (((hd :: tl).drop 1).map sV) := Rd.sub1 (Rd.row) hcap
          repeat' (first | ((with_reducible apply T.appendT0); apply rfl; apply rfl; infer_instance; apply rfl; apply rfl; (constructor <;> omega); apply rfl; intro na nc) | ((with_reducible apply T.loadS); apply rfl; infer_instance; (first | omega | (simp only [List.length_map]; omega)); apply rfl) | ((with_reducible apply T.mv); apply rfl; apply rfl) | ((with_reducible apply T.asn); apply rfl; apply rfl) | ((with_reducible apply T.len); apply rfl; apply rfl) | ((with_reducible apply T.lss); apply rfl; apply rfl; apply rfl) | ((with_reducible apply T.ixC); apply rfl; infer_instance; omega; (first | omega | (simp only [List.length_map]; omega) | (simp; omega)); apply rfl) | ((with_reducible apply T.sliceLC); apply rfl; omega; apply rfl) | with_reducible refine Sr.nil ?_ | with_reducible refine S.seq ?_ | with_reducible refine S.reg ?_ | ((with_reducible apply S.exit); apply rfl) | ((with_reducible apply T.retW); apply rfl) | ((with_reducible apply S.condQ); apply rfl; all_goals (intro _; try (exfalso; omega))) | fail)
          rw [show (hd :: tl).length - 1 = tl.length from rfl, show (hd :: tl).drop 1 = tl from rfl]
          skip
          exact ⟨_, by ((repeat (first | dsimp only [List.set_cons_zero] | dsimp only [List.set_cons_succ])); repeat' first | exact PSub.refl _ | exact PSub.nil | ((with_reducible apply PSub.take); (repeat' first | (with_reducible exact pick_hd) | (with_reducible apply pick_tl))) | (with_reducible apply PSub.drop) | ((apply PSub.take); (repeat' first | exact pick_hd | (apply pick_tl)))), _, _, rfl, rfl⟩
    · have hA : splitA bs = ([], [], 200) := by rw [splitA, if_neg h1, if_neg (fun h => hs h.1)]
      rw [hA]
      refine S.nilrow 9 1 ?_
      by_cases h0 : bs.length = 0
      · repeat' (first | ((with_reducible apply T.slen); apply rfl; apply rfl) | ((with_reducible apply T.mv); apply rfl; apply rfl) | ((with_reducible apply T.asn); apply rfl; apply rfl) | ((with_reducible apply T.gtr); apply rfl; apply rfl; apply rfl) | ((with_reducible apply T.eql); apply rfl; apply rfl; apply rfl) | ((with_reducible apply T.pickT); apply rfl; apply rfl; apply rfl) | with_reducible refine Sr.nil ?_ | with_reducible refine S.seq ?_ | with_reducible refine S.reg ?_ | with_reducible refine S.skip ?_ | ((with_reducible apply T.skip); apply rfl; apply rfl; apply rfl) | ((with_reducible apply S.condT); apply rfl) | ((with_reducible apply T.retW); apply rfl) | ((with_reducible apply S.condQ); apply rfl; all_goals (intro _; try (exfalso; omega))) | ((with_reducible apply T.gcase); apply rfl; apply rfl; all_goals (intro _; try (exfalso; omega))) | fail)
        exact ⟨_, PSub.refl _, _, _, rfl, rfl⟩
      · have hlast : ¬ ((bs.getD (bs.length - 1) 0).toNat : Int) = 126 := fun h => hs ((suffix_one 126 bs).2 ⟨bs.take (bs.length - 1), by
          have := take_snoc' (bs := bs) (i := bs.length - 1) (by omega)
          rw [eq_toNat h, show bs.length - 1 + 1 = bs.length by omega, List.take_length] at this
          exact this⟩)
        repeat' (first | ((with_reducible apply T.subKN 1); apply rfl; apply rfl; omega; apply rfl) | ((with_reducible apply T.slen); apply rfl; apply rfl) | ((with_reducible apply T.sidx); apply rfl; apply rfl; omega; apply rfl) | ((with_reducible apply T.mv); apply rfl; apply rfl) | ((with_reducible apply T.asn); apply rfl; apply rfl) | ((with_reducible apply T.gtr); apply rfl; apply rfl; apply rfl) | ((with_reducible apply T.eql); apply rfl; apply rfl; apply rfl) | ((with_reducible apply T.neq); apply rfl; apply rfl; apply rfl) | ((with_reducible apply T.pickF); apply rfl; apply rfl; apply rfl) | with_reducible refine Sr.nil ?_ | with_reducible refine S.seq ?_ | with_reducible refine S.reg ?_ | with_reducible refine S.skip ?_ | ((with_reducible apply T.ung); apply rfl) | ((with_reducible apply T.retW); apply rfl) | ((with_reducible apply S.condQ); apply rfl; all_goals (intro _; try (exfalso; omega))) | ((with_reducible apply T.gcase); apply rfl; apply rfl; all_goals (intro _; try (exfalso; omega))) | fail)
        exact ⟨_, PSub.refl _, _, _, rfl, rfl⟩
end Go.Proofs.YtcojlgkfkifhmaaDoor
