/- The walk of the statement InflateReads. -/
import Derived.Test.YtjhpbljkpbdnnaaDoorInfLa
import Derived.Test.YtjhpbljkpbdnnaaDoorInfL
import Derived.Test.YtjhpbljkpbdnnaaDoorInfRa
namespace Go.Proofs.YtjhpbljkpbdnnaaDoor
open Sg Go.IntWalk Infl
set_option maxRecDepth 100000
set_option maxHeartbeats 1000000
theorem reads_walk {F : World} {c : Nat} {b : Option Addr} {bs : List UInt8} {most : Int} [hR : ∀ H, Rd F [] H b (bs.map bV)] [hg : ∀ H, Rd F [] H (some ⟨0, 0, none⟩) (ordL.map nV)] (hb : bs.length ≤ 140737488354000) :
    Meets Tryd.prog 3 [.slice b bs.length c, .int .i64 most] F [] [] (fun e _ => e = .returned (.bool true)) := by
  refine Meets.enter Tryd.func3 rfl rfl ?_
  have hlen : ∀ xs, (infl xs (mostN most)).1.length ≤ 1048576 := fun xs => Nat.le_trans (infl_len _ _) (mostN_le _)
  have ib : ∀ xs : List UInt8, xs.length = bs.length → xs.length ≤ 1000000000000000 := fun xs h => by omega
  repeat' (first | ((with_reducible apply T.mv); apply rfl; apply rfl) | ((with_reducible apply T.asn); apply rfl; apply rfl) | with_reducible refine Sr.nil ?_ | with_reducible refine S.seq ?_ | with_reducible refine S.reg ?_ | fail)
  refine T.call rfl rfl (marked_spec (by omega)) ?_
  rintro _ _ ⟨ma, mc, rfl, hmc, rfl⟩
  repeat' (first | ((with_reducible apply T.mv); apply rfl; apply rfl) | ((with_reducible apply T.asn); apply rfl; apply rfl) | with_reducible refine Sr.nil ?_ | with_reducible refine S.seq ?_ | with_reducible refine S.reg ?_ | (with_reducible apply T.ofRet) | fail)
  refine T.call rfl rfl (inflate_spec (hR := Rd.left (r := marksL 80) inferInstance) (by omega)) ?_
  have hl0 := hlen bs
  generalize hI : infl bs (mostN most) = r at hl0
  obtain ⟨out, n, k⟩ := r
  simp only at hl0
  rintro _ _ ⟨xa, xc, rfl, rfl⟩
  (try rw [hI]); dsimp only
  repeat' (first | ((with_reducible apply T.mv); apply rfl; apply rfl) | ((with_reducible apply T.asn); apply rfl; apply rfl) | ((with_reducible apply T.extract); apply rfl; apply rfl; apply rfl) | with_reducible refine Sr.nil ?_ | with_reducible refine S.seq ?_ | with_reducible refine S.reg ?_ | (with_reducible apply T.ofRet) | fail)
  refine T.call rfl rfl (inflate_spec (hR := Rd.left (r := marksL 80) inferInstance) (by omega)) ?_
  rintro _ _ ⟨ya, yc, rfl, rfl⟩
  (try rw [hI]); dsimp only
  repeat' (first | ((with_reducible apply T.mv); apply rfl; apply rfl) | ((with_reducible apply T.asn); apply rfl; apply rfl) | ((with_reducible apply T.extract); apply rfl; apply rfl; apply rfl) | with_reducible refine Sr.nil ?_ | with_reducible refine S.seq ?_ | with_reducible refine S.reg ?_ | (with_reducible apply T.ofRet) | fail)
  refine T.call rfl rfl (inflateR_spec (by omega)) ?_
  rintro _ _ ⟨wa, wc, rfl, rfl⟩
  (try rw [hI]); dsimp only
  repeat' (first | ((with_reducible apply T.mv); apply rfl; apply rfl) | ((with_reducible apply T.asn); apply rfl; apply rfl) | ((with_reducible apply T.extract); apply rfl; apply rfl; apply rfl) | with_reducible refine Sr.nil ?_ | with_reducible refine S.seq ?_ | with_reducible refine S.reg ?_ | (with_reducible apply T.ofRet) | fail)
  refine T.call rfl rfl (same_eq inferInstance inferInstance (by omega)) ?_
  rintro _ _ ⟨rfl, rfl⟩
  repeat' (first | ((with_reducible apply T.mv); apply rfl; apply rfl) | ((with_reducible apply T.neq); apply rfl; apply rfl; apply rfl) | ((with_reducible apply T.notB); apply rfl; apply rfl) | ((with_reducible apply T.pickF); apply rfl; apply rfl; apply rfl) | ((with_reducible apply T.ung); apply rfl) | (with_reducible apply T.ofRet) | ((with_reducible apply T.gcase); apply rfl; apply rfl; all_goals (intro _; try (exfalso; omega))) | fail)
  refine T.call rfl rfl (whole_spec inferInstance inferInstance (by omega) hmc) ?_
  rintro _ _ ⟨rfl, rfl⟩
  repeat' (first | ((with_reducible apply T.mv); apply rfl; apply rfl) | ((with_reducible apply T.notB); apply rfl; apply rfl) | ((with_reducible apply T.pickF); apply rfl; apply rfl; apply rfl) | with_reducible refine Sr.nil ?_ | with_reducible refine S.seq ?_ | with_reducible refine S.reg ?_ | with_reducible refine S.skip ?_ | ((with_reducible apply T.ung); apply rfl) | ((with_reducible apply S.condF); apply rfl) | (with_reducible apply T.ofRet) | fail)
  refine Sr.frontR xa ?_
  refine T.call rfl rfl (spoil_spec (by omega)) ?_
  rintro _ _ ⟨rfl, rfl⟩
  repeat' (first | ((with_reducible apply T.mv); apply rfl; apply rfl) | ((with_reducible apply T.len); apply rfl; apply rfl) | ((with_reducible apply T.neq); apply rfl; apply rfl; apply rfl) | ((with_reducible apply T.addI); apply rfl; apply rfl; omega; apply rfl) | ((with_reducible apply T.ung); apply rfl) | (with_reducible apply T.ofRet) | ((with_reducible apply T.gcase); apply rfl; apply rfl; all_goals (intro _; try (exfalso; omega))) | fail)
  refine T.call rfl rfl (same_eq inferInstance inferInstance (by omega)) ?_
  rintro _ _ ⟨rfl, rfl⟩
  repeat' (first | ((with_reducible apply T.mv); apply rfl; apply rfl) | ((with_reducible apply T.notB); apply rfl; apply rfl) | ((with_reducible apply T.pickF); apply rfl; apply rfl; apply rfl) | ((with_reducible apply T.ung); apply rfl) | (with_reducible apply T.ofRet) | fail)
  refine T.call rfl rfl (whole_spec inferInstance inferInstance (by omega) hmc) ?_
  rintro _ _ ⟨rfl, rfl⟩
  repeat' (first | ((with_reducible apply T.mv); apply rfl; apply rfl) | ((with_reducible apply T.len); apply rfl; apply rfl) | ((with_reducible apply T.gtr); apply rfl; apply rfl; apply rfl) | ((with_reducible apply T.notB); apply rfl; apply rfl) | ((with_reducible apply T.pickF); apply rfl; apply rfl; apply rfl) | with_reducible refine Sr.nil ?_ | with_reducible refine S.seq ?_ | with_reducible refine S.reg ?_ | with_reducible refine S.skip ?_ | ((with_reducible apply T.ung); apply rfl) | ((with_reducible apply S.condF); apply rfl) | (with_reducible apply T.ofRet) | fail)
  have hxor : ∀ x : UInt8, (x.toNat ^^^ 4 : Nat) = (x ^^^ 4).toNat := fun x => by rw [UInt8.toNat_xor]; rfl
  have hml := marksL_len 80
  have hbl : (bs ++ marksL 80).length = bs.length + 80 := by rw [List.length_append, hml]
  refine S.cut (fun H' e' => ∃ bs' : List UInt8, bs'.length = bs.length ∧ H' = .row ma mc 5 1 (bs'.length + 80) ((bs' ++ marksL 80).map bV) :: [] ∧ e' = [(1, .int .i64 most), (5, .slice ma bs'.length mc)]) ?_ ?_
  · intro k' hrest
    have hq : ((bs.length : Nat) : Int).tdiv 2 = ((bs.length / 2 : Nat) : Int) := by rw [Int.tdiv_eq_ediv_of_nonneg (by omega)]; omega
    repeat' (first | ((with_reducible apply T.quo (r := ((bs.length / 2 : Nat) : Int))); apply rfl; apply rfl; omega; (rw [hq]; exact i64_in _ (by omega)); apply rfl) | ((with_reducible apply T.xorU8 (n := 4)); apply rfl; apply rfl; (first | exact UInt8.toNat_lt _ | omega); omega; apply rfl; rw [hxor]) | ((with_reducible apply T.mv); apply rfl; apply rfl) | ((with_reducible apply T.len); apply rfl; apply rfl) | ((with_reducible apply T.ixN); apply rfl; apply rfl; infer_instance; omega; (first | omega | (simp; omega)); apply rfl) | ((with_reducible apply T.loadB); apply rfl; infer_instance; omega; apply rfl) | ((with_reducible apply T.storeB); apply rfl; apply rfl; infer_instance; (first | omega | (simp; omega))) | with_reducible refine Sr.nil ?_ | with_reducible refine S.reg ?_ | with_reducible refine S.skip ?_ | ((with_reducible apply S.condQ); apply rfl; all_goals (intro _; try (exfalso; omega))) | fail)
    · refine S.sublist (H' := .row ma mc 5 1 (bs.length + 80) (((bs ++ marksL 80).set (bs.length / 2) ((bs ++ marksL 80).getD (bs.length / 2) 0 ^^^ 4)).map bV) :: []) ?_ (by ((try dsimp only [List.set_cons_zero, List.set_cons_succ]); repeat' first | exact PSub.refl _ | exact PSub.nil | ((with_reducible apply PSub.take); (repeat' first | (with_reducible exact pick_hd) | (with_reducible apply pick_tl))) | (with_reducible apply PSub.drop) | ((apply PSub.take); (repeat' first | exact pick_hd | (apply pick_tl)))))
      have hset : ∀ v, (bs ++ marksL 80).set (bs.length / 2) v = bs.set (bs.length / 2) v ++ marksL 80 := fun v => List.set_append_left _ _ (by omega)
      rw [hset]
      refine hrest _ _ _ ⟨bs.set (bs.length / 2) ((bs ++ marksL 80).getD (bs.length / 2) 0 ^^^ 4), by simp, by simp, rfl⟩ ?_
      rw [List.length_set]
      exact (by repeat' first | exact trivial | refine And.intro rfl ?_)
    · exact S.sublist (hrest _ _ _ ⟨bs, rfl, rfl, rfl⟩ (by repeat' first | exact trivial | refine And.intro rfl ?_)) (by ((try dsimp only [List.set_cons_zero, List.set_cons_succ]); repeat' first | exact PSub.refl _ | exact PSub.nil | ((with_reducible apply PSub.take); (repeat' first | (with_reducible exact pick_hd) | (with_reducible apply pick_tl))) | (with_reducible apply PSub.drop) | ((apply PSub.take); (repeat' first | exact pick_hd | (apply pick_tl)))))
  rintro _ _ ⟨bs', hbs', rfl, rfl⟩
  clear hI hl0 hbl
  repeat' (first | ((with_reducible apply T.mv); apply rfl; apply rfl) | with_reducible refine S.seq ?_ | with_reducible refine S.reg ?_ | fail)
  refine T.call rfl rfl (marked_spec (hR := Rd.left (r := marksL 80) inferInstance) (by omega)) ?_
  rintro _ _ ⟨m2, mc2, rfl, hmc2, rfl⟩
  repeat' (first | ((with_reducible apply T.mv); apply rfl; apply rfl) | (with_reducible apply T.ofRet) | fail)
  refine T.call rfl rfl (inflateR_spec (hR := Rd.left (r := marksL 80) inferInstance) (by omega)) ?_
  have hl0 := hlen bs'
  generalize hI : infl bs' (mostN most) = r at hl0
  obtain ⟨out, n, k⟩ := r
  simp only at hl0
  rintro _ _ ⟨xa, xc, rfl, rfl⟩
  (try rw [hI]); dsimp only
  repeat' (first | ((with_reducible apply T.mv); apply rfl; apply rfl) | ((with_reducible apply T.asn); apply rfl; apply rfl) | ((with_reducible apply T.extract); apply rfl; apply rfl; apply rfl) | with_reducible refine Sr.nil ?_ | with_reducible refine S.seq ?_ | with_reducible refine S.reg ?_ | (with_reducible apply T.ofRet) | fail)
  refine T.call rfl rfl (inflate_spec (hR := Rd.left (r := marksL 80) inferInstance) (by omega)) ?_
  rintro _ _ ⟨ya, yc, rfl, rfl⟩
  (try rw [hI]); dsimp only
  repeat' (first | ((with_reducible apply T.mv); apply rfl; apply rfl) | ((with_reducible apply T.asn); apply rfl; apply rfl) | ((with_reducible apply T.extract); apply rfl; apply rfl; apply rfl) | with_reducible refine Sr.nil ?_ | with_reducible refine S.seq ?_ | with_reducible refine S.reg ?_ | (with_reducible apply T.ofRet) | fail)
  refine T.call rfl rfl (same_eq inferInstance inferInstance (by omega)) ?_
  rintro _ _ ⟨rfl, rfl⟩
  repeat' (first | ((with_reducible apply T.mv); apply rfl; apply rfl) | ((with_reducible apply T.asn); apply rfl; apply rfl) | ((with_reducible apply T.len); apply rfl; apply rfl) | ((with_reducible apply T.lss); apply rfl; apply rfl; apply rfl) | ((with_reducible apply T.neq); apply rfl; apply rfl; apply rfl) | ((with_reducible apply T.notB); apply rfl; apply rfl) | ((with_reducible apply T.pickF); apply rfl; apply rfl; apply rfl) | ((with_reducible apply T.buildAL); apply rfl; apply rfl; apply rfl) | ((with_reducible apply T.storeW); apply rfl; apply rfl; infer_instance; (first | rfl | (simp only [List.length_append, List.length_map, List.length_set, List.length_replicate, List.length_cons, List.length_nil]; omega)); (first | rfl | (simp only [List.length_append, List.length_map, List.length_set, List.length_replicate, List.length_cons, List.length_nil]; omega)); (first | rfl | (repeat' first | apply all_nV | apply all_bV | apply all_iV | rfl | apply all_app))) | ((with_reducible apply T.alloc); apply rfl; intro nb) | with_reducible refine Sr.nil ?_ | with_reducible refine S.seq ?_ | with_reducible refine S.block ?_ | with_reducible refine S.reg ?_ | with_reducible refine S.skip ?_ | ((with_reducible apply T.ung); apply rfl) | ((with_reducible apply T.retW); apply rfl) | (with_reducible apply T.ofRet) | ((with_reducible apply S.condQ); apply rfl; all_goals (intro _; try (exfalso; omega))) | ((with_reducible apply T.gcase); apply rfl; apply rfl; all_goals (intro _; try (exfalso; omega))) | fail)
  · exact ⟨_, by ((try dsimp only [List.set_cons_zero, List.set_cons_succ]); repeat' first | exact PSub.refl _ | exact PSub.nil | ((with_reducible apply PSub.take); (repeat' first | (with_reducible exact pick_hd) | (with_reducible apply pick_tl))) | (with_reducible apply PSub.drop) | ((apply PSub.take); (repeat' first | exact pick_hd | (apply pick_tl)))), rfl⟩
  have hblk : [Value.int .u8 1, .int .u8 1, .int .u8 0, .int .u8 254, .int .u8 255, .int .u8 120] = ([1, 1, 0, 254, 255, 120] : List UInt8).map bV := rfl
  rw [hblk]
  refine S.frontR ma ?_
  refine S.loopE 1 [1, 5, 21] (fun R b' μ H' e => ∃ (i : Nat) (bs2 : List UInt8), H' = .row ma mc 5 1 (bs'.length + 80) ((bs2 ++ marksL 80).map bV) :: R ∧ e = (22, .int .i64 i) :: b' ∧ (i ≤ 6 ∧ bs2.length = bs'.length) ∧ μ = 6 - i) rfl rfl ?_ _ _ ⟨0, bs', rfl, rfl, ⟨by omega, rfl⟩, rfl⟩ (by repeat' first | exact trivial | refine And.intro rfl ?_)
  rintro _ _ _ ⟨i, bs2, rfl, rfl, ⟨hi, hbs2⟩, rfl⟩ ih
  have hbl2 : (bs2 ++ marksL 80).length = bs'.length + 80 := by rw [List.length_append, hml, hbs2]
  repeat' (first | ((with_reducible apply T.mv); apply rfl; apply rfl) | ((with_reducible apply T.lss); apply rfl; apply rfl; apply rfl) | with_reducible refine Sr.nil ?_ | with_reducible refine S.seq ?_ | with_reducible refine S.reg ?_ | fail)
  refine S.condQ rfl (fun hi6 => ?_) fun hi6 => ?_
  · repeat' (first | ((with_reducible apply T.mv); apply rfl; apply rfl) | ((with_reducible apply T.asn); apply rfl; apply rfl) | ((with_reducible apply T.addI); apply rfl; apply rfl; omega; apply rfl) | ((with_reducible apply T.ixN); apply rfl; apply rfl; infer_instance; omega; (first | omega | (simp; omega)); apply rfl) | ((with_reducible apply T.ixAZ); apply rfl; apply rfl; omega; apply rfl) | ((with_reducible apply T.loadCB); apply rfl; infer_instance; apply rfl; (first | omega | (simp; omega)); apply rfl) | ((with_reducible apply T.storeB); apply rfl; apply rfl; infer_instance; (first | omega | (simp; omega))) | with_reducible refine Sr.nil ?_ | with_reducible refine S.seq ?_ | with_reducible refine S.block ?_ | with_reducible refine S.reg ?_ | with_reducible refine S.skip ?_ | with_reducible refine S.inBlock ?_ | fail)
    have hset : ∀ v, (bs2 ++ marksL 80).set i v = bs2.set i v ++ marksL 80 := fun v => List.set_append_left _ _ (by omega)
    rw [hset]
    exact ih _ _ _ _ ⟨i + 1, _, rfl, rfl, ⟨by omega, by rw [List.length_set]; exact hbs2⟩, rfl⟩ (by omega) (by repeat' first | exact trivial | refine And.intro rfl ?_)
  · clear ih hi6 hblk
    rw [← hbs2] at hmc2 ⊢
    repeat' (first | ((with_reducible apply T.mv); apply rfl; apply rfl) | with_reducible refine S.seq ?_ | with_reducible refine S.reg ?_ | ((with_reducible apply S.exit); apply rfl) | fail)
    refine T.call rfl rfl (marked_spec (hR := Rd.left (r := marksL 80) inferInstance) (by omega)) ?_
    rintro _ _ ⟨m3, mc3, rfl, hmc3, rfl⟩
    repeat' (first | ((with_reducible apply T.mv); apply rfl; apply rfl) | (with_reducible apply T.ofRet) | fail)
    refine T.call rfl rfl (inflateR_spec (hR := Rd.left (r := marksL 80) inferInstance) (by omega)) ?_
    have hl2 := hlen bs2
    generalize hI2 : infl bs2 (mostN most) = r at hl2
    obtain ⟨out2, n2, k2⟩ := r
    simp only at hl2
    rintro _ _ ⟨xa2, xc2, rfl, rfl⟩
    (try rw [hI2]); dsimp only
    repeat' (first | ((with_reducible apply T.mv); apply rfl; apply rfl) | ((with_reducible apply T.asn); apply rfl; apply rfl) | ((with_reducible apply T.extract); apply rfl; apply rfl; apply rfl) | with_reducible refine Sr.nil ?_ | with_reducible refine S.seq ?_ | with_reducible refine S.reg ?_ | (with_reducible apply T.ofRet) | fail)
    refine T.call rfl rfl (inflate_spec (hR := Rd.left (r := marksL 80) inferInstance) (by omega)) ?_
    rintro _ _ ⟨ya2, yc2, rfl, rfl⟩
    (try rw [hI2]); dsimp only
    repeat' (first | ((with_reducible apply T.mv); apply rfl; apply rfl) | ((with_reducible apply T.asn); apply rfl; apply rfl) | ((with_reducible apply T.extract); apply rfl; apply rfl; apply rfl) | with_reducible refine Sr.nil ?_ | with_reducible refine S.seq ?_ | with_reducible refine S.reg ?_ | (with_reducible apply T.ofRet) | fail)
    refine T.call rfl rfl (same_eq inferInstance inferInstance (by omega)) ?_
    rintro _ _ ⟨rfl, rfl⟩
    repeat' (first | ((with_reducible apply T.mv); apply rfl; apply rfl) | ((with_reducible apply T.asn); apply rfl; apply rfl) | ((with_reducible apply T.eql); apply rfl; apply rfl; apply rfl) | ((with_reducible apply T.pickT); apply rfl; apply rfl; apply rfl) | with_reducible refine Sr.nil ?_ | ((with_reducible apply T.ung); apply rfl) | ((with_reducible apply T.retW); apply rfl) | (with_reducible apply T.ofRet) | ((with_reducible apply T.gcase); apply rfl; apply rfl; all_goals (intro _; try (exfalso; omega))) | fail)
    exact ⟨[], PSub.nil, by simp⟩
end Go.Proofs.YtjhpbljkpbdnnaaDoor
