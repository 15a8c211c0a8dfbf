/- The walk of the statement InflateMost. -/
import Derived.Test.YtjhpbljkpbdnnaaDoorInfSt
import Derived.Test.YtjhpbljkpbdnnaaDoorInfAh
namespace Go.Proofs.YtjhpbljkpbdnnaaDoor
open Sg Go.IntWalk Infl
set_option maxRecDepth 100000
set_option maxHeartbeats 1000000
theorem most_big : mostN 1048576 = 1048576 := rfl
theorem most_walk {F : World} {c ch : Nat} {b h : Option Addr} {bs bh : List UInt8} {most cut : Int} [hR : ∀ H, Rd F [] H b (bs.map bV)] [hRh : ∀ H, Rd F [] H h (bh.map bV)] [hg : ∀ H, Rd F [] H (some ⟨0, 0, none⟩) (ordL.map nV)] (hb : bs.length + bh.length ≤ 1048576) (hc : bs.length ≤ c) :
    Meets Tryd.prog 7 [.slice b bs.length c, .int .i64 most, .slice h bh.length ch, .int .i64 cut] F [] [] (fun e _ => e = .returned (.bool true)) := by
  refine Meets.enter Tryd.func7 rfl rfl ?_
  refine S.nilrow 5 1 ?_
  repeat' (first | ((with_reducible apply T.asn); apply rfl; apply rfl) | with_reducible refine Sr.nil ?_ | with_reducible refine S.seq ?_ | with_reducible refine S.reg ?_ | fail)
  refine T.call rfl rfl started_spec ?_
  rintro _ _ ⟨rfl, rfl⟩
  repeat' (first | ((with_reducible apply T.mv); apply rfl; apply rfl) | ((with_reducible apply T.notB); apply rfl; apply rfl) | with_reducible refine Sr.nil ?_ | with_reducible refine S.seq ?_ | with_reducible refine S.reg ?_ | with_reducible refine S.skip ?_ | ((with_reducible apply S.condF); apply rfl) | (with_reducible apply T.ofRet) | fail)
  refine T.call rfl rfl (inflate_spec (bs := bs) (most := 1048576) (by omega)) ?_
  rintro _ _ ⟨xa, xc, rfl, rfl⟩
  rw [most_big]
  have hmN : mostN most ≤ 1048576 := mostN_le most
  have hol := infl_len bs 1048576
  have hmost := infl_most (b := bs) (m := 1048576) (m2 := mostN most)
  have hsame := fun b' c A => infl_same (b := bs) (b' := b') (c := c) (most := 1048576) A
  have hcut := fun c => infl_cut (b := bs) (c := c) (most := 1048576)
  rcases infl_code bs 1048576 with ⟨p, o, -, hp0, hp1, he⟩ | he | he
  · rw [he] at hol hmost hsame hcut ⊢
    generalize hn : (p + 7) / 8 = n at *
    have hn0 : 1 ≤ n := by omega
    have hn1 : n ≤ bs.length := by omega
    clear hn hp0 hp1
    simp only at hol hmost hsame hcut ⊢
    replace hmost := hmost trivial
    repeat' (first | ((with_reducible apply T.mv); apply rfl; apply rfl) | ((with_reducible apply T.asn); apply rfl; apply rfl) | ((with_reducible apply T.len); apply rfl; apply rfl) | ((with_reducible apply T.lss); apply rfl; apply rfl; apply rfl) | ((with_reducible apply T.gtr); apply rfl; apply rfl; apply rfl) | ((with_reducible apply T.neq); apply rfl; apply rfl; apply rfl) | ((with_reducible apply T.extract); apply rfl; apply rfl; apply rfl) | ((with_reducible apply T.pickF); apply rfl; apply rfl; apply rfl) | with_reducible refine Sr.nil ?_ | with_reducible refine S.seq ?_ | with_reducible refine S.reg ?_ | with_reducible refine S.skip ?_ | ((with_reducible apply T.ung); apply rfl) | ((with_reducible apply S.condF); apply rfl) | (with_reducible apply T.ofRet) | ((with_reducible apply S.condQ); apply rfl; all_goals (intro _; try (exfalso; omega))) | ((with_reducible apply T.gcase); apply rfl; apply rfl; all_goals (intro _; try (exfalso; omega))) | fail)
    refine T.call rfl rfl (inflate_spec (bs := bs) (most := most) (by omega)) ?_
    rintro _ _ ⟨ya, yc, rfl, rfl⟩
    repeat' (first | ((with_reducible apply T.mv); apply rfl; apply rfl) | ((with_reducible apply T.asn); apply rfl; apply rfl) | ((with_reducible apply T.extract); apply rfl; apply rfl; apply rfl) | with_reducible refine Sr.nil ?_ | (with_reducible apply T.ofRet) | fail)
    refine S.seq ?_
    skip
    refine S.seq ?_
    refine S.cut (fun H' e' => H' = rw_ ya yc (infl bs (mostN most)).1 :: rw_ xa xc o :: rw_ none 0 [] :: [] ∧ e' = [(75, .bool (decide (o.length ≤ mostN most))), (0, .slice b bs.length c), (2, .slice h bh.length ch), (3, .int .i64 cut), (9, .slice xa o.length xc), (10, .int .i64 n), (12, .slice ya (infl bs (mostN most)).1.length yc), (13, .int .i64 (infl bs (mostN most)).2.1), (14, .int .i64 (infl bs (mostN most)).2.2)]) ?_ ?_
    · intro k' hrest
      have ht : (o.length : Int) ≤ most ∨ o.length = 0 → decide (o.length ≤ mostN most) = true := fun h => decide_eq_true (by unfold mostN; omega)
      have hf : ¬ (o.length : Int) ≤ most ∧ ¬ (o.length : Int) = 0 → decide (o.length ≤ mostN most) = false := fun h => decide_eq_false (by unfold mostN; omega)
      repeat' (first | ((with_reducible apply T.mv); apply rfl; apply rfl) | ((with_reducible apply T.len); apply rfl; apply rfl) | ((with_reducible apply T.geq); apply rfl; apply rfl; apply rfl) | ((with_reducible apply T.eql); apply rfl; apply rfl; apply rfl) | ((with_reducible apply T.pickT); apply rfl; apply rfl; apply rfl) | ((with_reducible apply T.pickF); apply rfl; apply rfl; apply rfl) | with_reducible refine Sr.nil ?_ | with_reducible refine S.reg ?_ | ((with_reducible apply T.ung); apply rfl) | ((with_reducible apply T.skip); apply rfl; apply rfl; apply rfl) | ((with_reducible apply T.gcase); apply rfl; apply rfl; all_goals (intro _; try (exfalso; omega))) | fail)
      · exact hrest _ _ _ ⟨rfl, rfl⟩ (by rw [ht (by omega)]; exact (by repeat' first | exact trivial | refine And.intro rfl ?_))
      · rename_i hm
        refine hrest _ _ _ ⟨rfl, rfl⟩ ?_
        by_cases h0 : (o.length : Int) = 0
        · rw [ht (by omega), show (decide ((o.length : Int) = 0)) = true from decide_eq_true h0]; exact (by repeat' first | exact trivial | refine And.intro rfl ?_)
        · rw [hf ⟨by omega, h0⟩, show (decide ((o.length : Int) = 0)) = false from decide_eq_false h0]; exact (by repeat' first | exact trivial | refine And.intro rfl ?_)
    rintro _ _ ⟨rfl, rfl⟩
    refine S.cut (fun H' e' => H' = rw_ xa xc o :: rw_ none 0 [] :: [] ∧ e' = [(0, .slice b bs.length c), (2, .slice h bh.length ch), (3, .int .i64 cut), (9, .slice xa o.length xc), (10, .int .i64 n)]) ?_ ?_
    · intro k' hrest
      rcases Nat.lt_or_ge (mostN most) o.length with hc1 | hc1
      · rw [if_neg (by omega)] at hmost
        rw [hmost, decide_eq_false (by omega)]
        dsimp only
        repeat' (first | ((with_reducible apply T.mv); apply rfl; apply rfl) | ((with_reducible apply T.len); apply rfl; apply rfl) | ((with_reducible apply T.neq); apply rfl; apply rfl; apply rfl) | ((with_reducible apply T.pickF); apply rfl; apply rfl; apply rfl) | with_reducible refine Sr.nil ?_ | with_reducible refine S.seq ?_ | with_reducible refine S.reg ?_ | with_reducible refine S.skip ?_ | ((with_reducible apply T.ung); apply rfl) | ((with_reducible apply S.condF); apply rfl) | fail)
        exact S.sublist (hrest _ _ _ ⟨rfl, rfl⟩ (by repeat' first | exact trivial | refine And.intro rfl ?_)) (by ((try dsimp only [List.set_cons_zero, List.set_cons_succ]); repeat' first | exact PSub.refl _ | exact PSub.nil | ((with_reducible apply PSub.take); (repeat' first | (with_reducible exact pick_hd) | (with_reducible apply pick_tl))) | (with_reducible apply PSub.drop) | ((apply PSub.take); (repeat' first | exact pick_hd | (apply pick_tl)))))
      · rw [if_pos hc1] at hmost
        rw [hmost, decide_eq_true hc1]
        dsimp only
        repeat' (first | ((with_reducible apply T.mv); apply rfl; apply rfl) | ((with_reducible apply T.neq); apply rfl; apply rfl; apply rfl) | ((with_reducible apply T.pickF); apply rfl; apply rfl; apply rfl) | with_reducible refine S.seq ?_ | with_reducible refine S.reg ?_ | ((with_reducible apply T.ung); apply rfl) | ((with_reducible apply S.condT); apply rfl) | ((with_reducible apply T.gcase); apply rfl; apply rfl; all_goals (intro _; try (exfalso; omega))) | fail)
        refine T.call rfl rfl (same_eq inferInstance inferInstance (by omega)) ?_
        rintro _ _ ⟨rfl, rfl⟩
        repeat' (first | ((with_reducible apply T.notB); apply rfl; apply rfl) | ((with_reducible apply T.pickF); apply rfl; apply rfl; apply rfl) | with_reducible refine Sr.nil ?_ | with_reducible refine S.skip ?_ | ((with_reducible apply T.ung); apply rfl) | ((with_reducible apply S.condF); apply rfl) | (with_reducible apply T.ofRet) | fail)
        exact S.sublist (hrest _ _ _ ⟨rfl, rfl⟩ (by repeat' first | exact trivial | refine And.intro rfl ?_)) (by ((try dsimp only [List.set_cons_zero, List.set_cons_succ]); repeat' first | exact PSub.refl _ | exact PSub.nil | ((with_reducible apply PSub.take); (repeat' first | (with_reducible exact pick_hd) | (with_reducible apply pick_tl))) | (with_reducible apply PSub.drop) | ((apply PSub.take); (repeat' first | exact pick_hd | (apply pick_tl)))))
    rintro _ _ ⟨rfl, rfl⟩
    clear hmost
    have htl : (bs.take n).length = n := by rw [List.length_take]; omega
    repeat' (first | ((with_reducible apply T.mv); apply rfl; apply rfl) | ((with_reducible apply T.asn); apply rfl; apply rfl) | ((with_reducible apply T.sliceHK); apply rfl; apply rfl; omega; apply rfl) | with_reducible refine Sr.nil ?_ | with_reducible refine S.seq ?_ | with_reducible refine S.reg ?_ | fail)
    refine T.appendAll (g := bV) (xs := ([] : List UInt8)) (us := bs.take n) (m := n) rfl rfl inferInstance (Rd.take1 inferInstance n) htl (fun _ => rfl) rfl (by constructor <;> omega) rfl ?_
    intro za zc
    rw [List.nil_append, Nat.zero_add]
    repeat' (first | ((with_reducible apply T.mv); apply rfl; apply rfl) | ((with_reducible apply T.asn); apply rfl; apply rfl) | with_reducible refine Sr.nil ?_ | with_reducible refine S.seq ?_ | with_reducible refine S.reg ?_ | fail)
    refine T.appendAll (g := bV) (xs := bs.take n) (us := bh) (m := bh.length) rfl rfl inferInstance inferInstance rfl (fun _ => rfl) rfl (by constructor <;> omega) rfl ?_
    intro wa wc
    have hz : n + bh.length = (bs.take n ++ bh).length := by rw [List.length_append, htl]
    have hA : Agr bs (bs.take n ++ bh) n := ⟨hn1, by omega, fun i hi => by
      rw [List.getD_eq_getElem?_getD, List.getElem?_append_left (by omega), List.getElem?_take_of_lt hi, ← List.getD_eq_getElem?_getD]⟩
    replace hsame := hsame _ _ hA trivial (Nat.le_refl _)
    rw [hz]
    have hzl : (bs.take n ++ bh).length ≤ 1048576 := by omega
    generalize bs.take n ++ bh = zs at *
    clear hz hA
    repeat' (first | ((with_reducible apply T.mv); apply rfl; apply rfl) | ((with_reducible apply T.asn); apply rfl; apply rfl) | with_reducible refine Sr.nil ?_ | with_reducible refine S.seq ?_ | with_reducible refine S.reg ?_ | fail)
    refine T.call rfl rfl (inflate_spec (bs := zs) (most := 1048576) (by omega)) ?_
    rintro _ _ ⟨va, vc, rfl, rfl⟩
    rw [most_big, hsame]
    dsimp only
    repeat' (first | ((with_reducible apply T.mv); apply rfl; apply rfl) | ((with_reducible apply T.asn); apply rfl; apply rfl) | ((with_reducible apply T.neq); apply rfl; apply rfl; apply rfl) | ((with_reducible apply T.extract); apply rfl; apply rfl; apply rfl) | ((with_reducible apply T.pickF); apply rfl; apply rfl; apply rfl) | with_reducible refine Sr.nil ?_ | with_reducible refine S.seq ?_ | with_reducible refine S.reg ?_ | ((with_reducible apply T.ung); apply rfl) | (with_reducible apply T.ofRet) | ((with_reducible apply T.gcase); apply rfl; apply rfl; all_goals (intro _; try (exfalso; omega))) | fail)
    refine T.call rfl rfl (same_eq inferInstance inferInstance (by omega)) ?_
    rintro _ _ ⟨rfl, rfl⟩
    repeat' (first | ((with_reducible apply T.mv); apply rfl; apply rfl) | ((with_reducible apply T.asn); apply rfl; apply rfl) | ((with_reducible apply T.lss); apply rfl; apply rfl; apply rfl) | ((with_reducible apply T.geq); apply rfl; apply rfl; apply rfl) | ((with_reducible apply T.notB); apply rfl; apply rfl) | ((with_reducible apply T.pickT); apply rfl; apply rfl; apply rfl) | ((with_reducible apply T.pickF); apply rfl; apply rfl; apply rfl) | ((with_reducible apply T.sliceH); apply rfl; apply rfl; omega; apply rfl) | with_reducible refine Sr.nil ?_ | with_reducible refine S.seq ?_ | with_reducible refine S.reg ?_ | with_reducible refine S.skip ?_ | ((with_reducible apply T.ung); apply rfl) | ((with_reducible apply T.skip); apply rfl; apply rfl; apply rfl) | ((with_reducible apply S.condT); apply rfl) | ((with_reducible apply S.condF); apply rfl) | ((with_reducible apply T.retW); apply rfl) | (with_reducible apply T.ofRet) | ((with_reducible apply S.condQ); apply rfl; all_goals (intro _; try (exfalso; omega))) | ((with_reducible apply T.gcase); apply rfl; apply rfl; all_goals (intro _; try (exfalso; omega))) | fail)
    all_goals first
      | exact ⟨[], PSub.nil, by simp⟩
      | skip
    replace hcut := hcut cut.toNat trivial (by omega)
    have hcl : cut.toNat = (bs.take cut.toNat).length := by rw [List.length_take]; omega
    have hcR : ∀ H, Rd F [] H b ((bs.take cut.toNat).map bV) := fun H => Rd.take1 (hR H) _
    rw [hcl]
    have hzc : (bs.take cut.toNat).length ≤ 1048576 := by omega
    generalize bs.take cut.toNat = ys at *
    refine T.call rfl rfl (inflate_spec (bs := ys) (most := 1048576) (by omega)) ?_
    rintro _ _ ⟨ua, uc, rfl, rfl⟩
    rw [most_big, hcut]
    dsimp only
    repeat' (first | ((with_reducible apply T.mv); apply rfl; apply rfl) | ((with_reducible apply T.asn); apply rfl; apply rfl) | ((with_reducible apply T.eql); apply rfl; apply rfl; apply rfl) | ((with_reducible apply T.extract); apply rfl; apply rfl; apply rfl) | with_reducible refine Sr.nil ?_ | with_reducible refine S.seq ?_ | with_reducible refine S.reg ?_ | ((with_reducible apply T.retW); apply rfl) | (with_reducible apply T.ofRet) | fail)
    exact ⟨[], PSub.nil, by simp⟩
  · rw [he]
    dsimp only
    repeat' (first | ((with_reducible apply T.mv); apply rfl; apply rfl) | ((with_reducible apply T.asn); apply rfl; apply rfl) | ((with_reducible apply T.len); apply rfl; apply rfl) | ((with_reducible apply T.eql); apply rfl; apply rfl; apply rfl) | ((with_reducible apply T.neq); apply rfl; apply rfl; apply rfl) | ((with_reducible apply T.extract); apply rfl; apply rfl; apply rfl) | ((with_reducible apply T.pickT); apply rfl; apply rfl; apply rfl) | with_reducible refine Sr.nil ?_ | with_reducible refine S.seq ?_ | with_reducible refine S.reg ?_ | ((with_reducible apply T.ung); apply rfl) | ((with_reducible apply T.skip); apply rfl; apply rfl; apply rfl) | ((with_reducible apply S.condT); apply rfl) | ((with_reducible apply T.retW); apply rfl) | (with_reducible apply T.ofRet) | fail)
    exact ⟨[], PSub.nil, by simp⟩
  · rw [he]
    dsimp only
    repeat' (first | ((with_reducible apply T.mv); apply rfl; apply rfl) | ((with_reducible apply T.asn); apply rfl; apply rfl) | ((with_reducible apply T.len); apply rfl; apply rfl) | ((with_reducible apply T.eql); apply rfl; apply rfl; apply rfl) | ((with_reducible apply T.neq); apply rfl; apply rfl; apply rfl) | ((with_reducible apply T.extract); apply rfl; apply rfl; apply rfl) | ((with_reducible apply T.pickT); apply rfl; apply rfl; apply rfl) | ((with_reducible apply T.pickF); apply rfl; apply rfl; apply rfl) | with_reducible refine Sr.nil ?_ | with_reducible refine S.seq ?_ | with_reducible refine S.reg ?_ | ((with_reducible apply T.ung); apply rfl) | ((with_reducible apply S.condT); apply rfl) | ((with_reducible apply T.retW); apply rfl) | (with_reducible apply T.ofRet) | fail)
    exact ⟨[], PSub.nil, by simp⟩
end Go.Proofs.YtjhpbljkpbdnnaaDoor
