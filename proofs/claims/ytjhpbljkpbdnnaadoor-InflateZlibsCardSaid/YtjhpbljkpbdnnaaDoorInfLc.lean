/- The walk of the statement InflateZlibs. -/
import Derived.Test.YtjhpbljkpbdnnaaDoorInfLa
import Derived.Test.YtjhpbljkpbdnnaaDoorInfMa
namespace Go.Proofs.YtjhpbljkpbdnnaaDoor
open Sg Go.IntWalk Infl
set_option maxRecDepth 100000
set_option maxHeartbeats 1000000
theorem zlibs_walk {F : World} {c : Nat} {b : Option Addr} {bs : List UInt8} {most : Int} [hR : ∀ H, Rd F [] H b (bs.map bV)] [hg : ∀ H, Rd F [] H (some ⟨0, 0, none⟩) (ordL.map nV)] (hb : bs.length ≤ 140737488354000) (hc : bs.length ≤ c) :
    Meets Tryd.prog 8 [.slice b bs.length c, .int .i64 most] F [] [] (fun e _ => e = .returned (.bool true)) := by
  refine Meets.enter Tryd.func8 rfl rfl ?_
  have hlen : ∀ xs, (zlib xs (mostN most)).1.length ≤ 1048576 := fun xs => Nat.le_trans (zlib_len _ _) (mostN_le _)
  repeat' (first | ((with_reducible apply T.mv); apply rfl; apply rfl) | ((with_reducible apply T.asn); apply rfl; apply rfl) | with_reducible refine Sr.nil ?_ | with_reducible refine S.seq ?_ | with_reducible refine S.reg ?_ | fail)
  refine T.call rfl rfl (marked_spec (by omega)) ?_
  rintro _ _ ⟨ma, mc, rfl, hmc, rfl⟩
  repeat' (first | ((with_reducible apply T.mv); apply rfl; apply rfl) | ((with_reducible apply T.asn); apply rfl; apply rfl) | with_reducible refine Sr.nil ?_ | with_reducible refine S.seq ?_ | with_reducible refine S.reg ?_ | (with_reducible apply T.ofRet) | fail)
  refine T.call rfl rfl (zlib_spec (hR := Rd.left (r := marksL 80) inferInstance) (by omega) (by omega)) ?_
  have hl0 := hlen bs
  generalize hI : zlib bs (mostN most) = r at hl0
  obtain ⟨out, k⟩ := r
  simp only at hl0
  rintro _ _ ⟨xa, xc, rfl, rfl⟩
  (try rw [hI]); dsimp only
  repeat' (first | ((with_reducible apply T.mv); apply rfl; apply rfl) | ((with_reducible apply T.asn); apply rfl; apply rfl) | ((with_reducible apply T.extract); apply rfl; apply rfl; apply rfl) | with_reducible refine Sr.nil ?_ | with_reducible refine S.seq ?_ | with_reducible refine S.reg ?_ | (with_reducible apply T.ofRet) | fail)
  refine T.call rfl rfl (zlib_spec (hR := Rd.left (r := marksL 80) inferInstance) (by omega) (by omega)) ?_
  rintro _ _ ⟨ya, yc, rfl, rfl⟩
  (try rw [hI]); dsimp only
  repeat' (first | ((with_reducible apply T.mv); apply rfl; apply rfl) | ((with_reducible apply T.asn); apply rfl; apply rfl) | ((with_reducible apply T.extract); apply rfl; apply rfl; apply rfl) | with_reducible refine Sr.nil ?_ | with_reducible refine S.seq ?_ | with_reducible refine S.reg ?_ | (with_reducible apply T.ofRet) | fail)
  refine T.call rfl rfl (zlibR_spec (by omega) hc) ?_
  rintro _ _ ⟨wa, wc, rfl, rfl⟩
  (try rw [hI]); dsimp only
  repeat' (first | ((with_reducible apply T.mv); apply rfl; apply rfl) | ((with_reducible apply T.asn); apply rfl; apply rfl) | ((with_reducible apply T.extract); apply rfl; apply rfl; apply rfl) | with_reducible refine Sr.nil ?_ | with_reducible refine S.seq ?_ | with_reducible refine S.reg ?_ | (with_reducible apply T.ofRet) | fail)
  refine T.call rfl rfl (adler_spec (hR := Rd.left (r := marksL 80) inferInstance) (by omega)) ?_
  rintro _ _ ⟨rfl, rfl⟩
  repeat' (first | ((with_reducible apply T.mv); apply rfl; apply rfl) | ((with_reducible apply T.asn); apply rfl; apply rfl) | with_reducible refine Sr.nil ?_ | with_reducible refine S.seq ?_ | with_reducible refine S.reg ?_ | (with_reducible apply T.ofRet) | fail)
  refine T.call rfl rfl (same_eq inferInstance inferInstance (by omega)) ?_
  rintro _ _ ⟨rfl, rfl⟩
  repeat' (first | ((with_reducible apply T.mv); apply rfl; apply rfl) | ((with_reducible apply T.neq); apply rfl; apply rfl; apply rfl) | ((with_reducible apply T.notB); apply rfl; apply rfl) | ((with_reducible apply T.pickF); apply rfl; apply rfl; apply rfl) | ((with_reducible apply T.ung); apply rfl) | (with_reducible apply T.ofRet) | ((with_reducible apply T.gcase); apply rfl; apply rfl; all_goals (intro _; try (exfalso; omega))) | fail)
  refine T.call rfl rfl (adlerR_spec (by omega)) ?_
  rintro _ _ ⟨rfl, rfl⟩
  repeat' (first | ((with_reducible apply T.mv); apply rfl; apply rfl) | ((with_reducible apply T.neq); apply rfl; apply rfl; apply rfl) | ((with_reducible apply T.pickF); apply rfl; apply rfl; apply rfl) | ((with_reducible apply T.ung); apply rfl) | (with_reducible apply T.ofRet) | ((with_reducible apply T.gcase); apply rfl; apply rfl; all_goals (intro _; try (exfalso; omega))) | fail)
  refine T.call rfl rfl (whole_spec inferInstance inferInstance (by omega) hmc) ?_
  rintro _ _ ⟨rfl, rfl⟩
  repeat' (first | ((with_reducible apply T.mv); apply rfl; apply rfl) | ((with_reducible apply T.notB); apply rfl; apply rfl) | ((with_reducible apply T.pickF); apply rfl; apply rfl; apply rfl) | with_reducible refine Sr.nil ?_ | with_reducible refine S.seq ?_ | with_reducible refine S.reg ?_ | with_reducible refine S.skip ?_ | ((with_reducible apply T.ung); apply rfl) | ((with_reducible apply S.condF); apply rfl) | (with_reducible apply T.ofRet) | fail)
  refine Sr.frontR xa ?_
  refine T.call rfl rfl (spoil_spec (by omega)) ?_
  rintro _ _ ⟨rfl, rfl⟩
  repeat' (first | ((with_reducible apply T.mv); apply rfl; apply rfl) | ((with_reducible apply T.len); apply rfl; apply rfl) | ((with_reducible apply T.neq); apply rfl; apply rfl; apply rfl) | ((with_reducible apply T.addI); apply rfl; apply rfl; omega; apply rfl) | ((with_reducible apply T.ung); apply rfl) | (with_reducible apply T.ofRet) | ((with_reducible apply T.gcase); apply rfl; apply rfl; all_goals (intro _; try (exfalso; omega))) | fail)
  refine T.call rfl rfl (same_eq inferInstance inferInstance (by omega)) ?_
  rintro _ _ ⟨rfl, rfl⟩
  repeat' (first | ((with_reducible apply T.mv); apply rfl; apply rfl) | ((with_reducible apply T.notB); apply rfl; apply rfl) | ((with_reducible apply T.pickF); apply rfl; apply rfl; apply rfl) | ((with_reducible apply T.ung); apply rfl) | (with_reducible apply T.ofRet) | fail)
  refine T.call rfl rfl (whole_spec inferInstance inferInstance (by omega) hmc) ?_
  rintro _ _ ⟨rfl, rfl⟩
  repeat' (first | ((with_reducible apply T.mv); apply rfl; apply rfl) | ((with_reducible apply T.len); apply rfl; apply rfl) | ((with_reducible apply T.gtr); apply rfl; apply rfl; apply rfl) | ((with_reducible apply T.notB); apply rfl; apply rfl) | ((with_reducible apply T.pickF); apply rfl; apply rfl; apply rfl) | with_reducible refine Sr.nil ?_ | with_reducible refine S.seq ?_ | with_reducible refine S.reg ?_ | with_reducible refine S.skip ?_ | ((with_reducible apply T.ung); apply rfl) | ((with_reducible apply S.condF); apply rfl) | (with_reducible apply T.ofRet) | fail)
  have hxor : ∀ x : UInt8, (x.toNat ^^^ 1 : Nat) = (x ^^^ 1).toNat := fun x => by rw [UInt8.toNat_xor]; rfl
  have hml := marksL_len 80
  have hbl : (bs ++ marksL 80).length = bs.length + 80 := by rw [List.length_append, hml]
  refine S.cut (fun H' e' => ∃ bs' : List UInt8, bs'.length = bs.length ∧ H' = .row ma mc 5 1 (bs'.length + 80) ((bs' ++ marksL 80).map bV) :: [] ∧ e' = [(1, .int .i64 most), (5, .slice ma bs'.length mc)]) ?_ ?_
  · intro k' hrest
    have hq : 0 < bs.length → ((bs.length : Nat) : Int) - 1 = ((bs.length - 1 : Nat) : Int) := fun h => by omega
    repeat' (first | ((with_reducible apply T.subI); apply rfl; apply rfl; omega; apply rfl; rw [hq (by omega)]) | ((with_reducible apply T.xorU8 (n := 1)); apply rfl; apply rfl; (first | exact UInt8.toNat_lt _ | omega); omega; apply rfl; rw [hxor]) | ((with_reducible apply T.mv); apply rfl; apply rfl) | ((with_reducible apply T.len); apply rfl; apply rfl) | ((with_reducible apply T.ixN); apply rfl; apply rfl; infer_instance; omega; (first | omega | (simp; omega)); apply rfl) | ((with_reducible apply T.loadB); apply rfl; infer_instance; omega; apply rfl) | ((with_reducible apply T.storeB); apply rfl; apply rfl; infer_instance; (first | omega | (simp; omega))) | with_reducible refine Sr.nil ?_ | with_reducible refine S.reg ?_ | with_reducible refine S.skip ?_ | ((with_reducible apply S.condQ); apply rfl; all_goals (intro _; try (exfalso; omega))) | fail)
    · refine S.sublist (H' := .row ma mc 5 1 (bs.length + 80) (((bs ++ marksL 80).set (bs.length - 1) ((bs ++ marksL 80).getD (bs.length - 1) 0 ^^^ 1)).map bV) :: []) ?_ (by ((try dsimp only [List.set_cons_zero, List.set_cons_succ]); repeat' first | exact PSub.refl _ | exact PSub.nil | ((with_reducible apply PSub.take); (repeat' first | (with_reducible exact pick_hd) | (with_reducible apply pick_tl))) | (with_reducible apply PSub.drop) | ((apply PSub.take); (repeat' first | exact pick_hd | (apply pick_tl)))))
      have hset : ∀ v, (bs ++ marksL 80).set (bs.length - 1) v = bs.set (bs.length - 1) v ++ marksL 80 := fun v => List.set_append_left _ _ (by omega)
      rw [hset]
      refine hrest _ _ _ ⟨bs.set (bs.length - 1) ((bs ++ marksL 80).getD (bs.length - 1) 0 ^^^ 1), by simp, by simp, rfl⟩ ?_
      rw [List.length_set]
      exact (by repeat' first | exact trivial | refine And.intro rfl ?_)
    · exact S.sublist (hrest _ _ _ ⟨bs, rfl, rfl, rfl⟩ (by repeat' first | exact trivial | refine And.intro rfl ?_)) (by ((try dsimp only [List.set_cons_zero, List.set_cons_succ]); repeat' first | exact PSub.refl _ | exact PSub.nil | ((with_reducible apply PSub.take); (repeat' first | (with_reducible exact pick_hd) | (with_reducible apply pick_tl))) | (with_reducible apply PSub.drop) | ((apply PSub.take); (repeat' first | exact pick_hd | (apply pick_tl)))))
  rintro _ _ ⟨bs', hbs', rfl, rfl⟩
  clear hI hl0 hbl
  repeat' (first | ((with_reducible apply T.mv); apply rfl; apply rfl) | with_reducible refine S.seq ?_ | with_reducible refine S.reg ?_ | fail)
  refine T.call rfl rfl (marked_spec (hR := Rd.left (r := marksL 80) inferInstance) (by omega)) ?_
  rintro _ _ ⟨m2, mc2, rfl, hmc2, rfl⟩
  repeat' (first | ((with_reducible apply T.mv); apply rfl; apply rfl) | (with_reducible apply T.ofRet) | fail)
  refine T.call rfl rfl (zlibR_spec (hR := Rd.left (r := marksL 80) inferInstance) (by omega) (by omega)) ?_
  have hl0 := hlen bs'
  generalize hI : zlib bs' (mostN most) = r at hl0
  obtain ⟨out, k⟩ := r
  simp only at hl0
  rintro _ _ ⟨xa, xc, rfl, rfl⟩
  (try rw [hI]); dsimp only
  repeat' (first | ((with_reducible apply T.mv); apply rfl; apply rfl) | ((with_reducible apply T.asn); apply rfl; apply rfl) | ((with_reducible apply T.extract); apply rfl; apply rfl; apply rfl) | with_reducible refine Sr.nil ?_ | with_reducible refine S.seq ?_ | with_reducible refine S.reg ?_ | (with_reducible apply T.ofRet) | fail)
  refine T.call rfl rfl (marked_spec (hR := Rd.left (r := marksL 80) inferInstance) (by omega)) ?_
  rintro _ _ ⟨m3, mc3, rfl, hmc3, rfl⟩
  repeat' (first | (with_reducible apply T.ofRet) | fail)
  refine T.call rfl rfl (adlerR_spec (hR := Rd.left (r := marksL 80) inferInstance) (by omega)) ?_
  rintro _ _ ⟨rfl, rfl⟩
  repeat' (first | ((with_reducible apply T.mv); apply rfl; apply rfl) | ((with_reducible apply T.asn); apply rfl; apply rfl) | with_reducible refine Sr.nil ?_ | with_reducible refine S.seq ?_ | with_reducible refine S.reg ?_ | (with_reducible apply T.ofRet) | fail)
  refine T.call rfl rfl (zlib_spec (hR := Rd.left (r := marksL 80) inferInstance) (by omega) (by omega)) ?_
  rintro _ _ ⟨ya, yc, rfl, rfl⟩
  (try rw [hI]); dsimp only
  repeat' (first | ((with_reducible apply T.mv); apply rfl; apply rfl) | ((with_reducible apply T.asn); apply rfl; apply rfl) | ((with_reducible apply T.extract); apply rfl; apply rfl; apply rfl) | with_reducible refine Sr.nil ?_ | with_reducible refine S.seq ?_ | with_reducible refine S.reg ?_ | (with_reducible apply T.ofRet) | fail)
  refine T.call rfl rfl (same_eq inferInstance inferInstance (by omega)) ?_
  rintro _ _ ⟨rfl, rfl⟩
  repeat' (first | ((with_reducible apply T.mv); apply rfl; apply rfl) | ((with_reducible apply T.eql); apply rfl; apply rfl; apply rfl) | ((with_reducible apply T.pickT); apply rfl; apply rfl; apply rfl) | ((with_reducible apply T.ung); apply rfl) | (with_reducible apply T.ofRet) | ((with_reducible apply T.gcase); apply rfl; apply rfl; all_goals (intro _; try (exfalso; omega))) | fail)
  all_goals
    refine T.call rfl rfl (adler_spec (hR := Rd.left (r := marksL 80) inferInstance) (by omega)) ?_
    rintro _ _ ⟨rfl, rfl⟩
    repeat' (first | ((with_reducible apply T.mv); apply rfl; apply rfl) | ((with_reducible apply T.asn); apply rfl; apply rfl) | ((with_reducible apply T.eql); apply rfl; apply rfl; apply rfl) | ((with_reducible apply T.pickT); apply rfl; apply rfl; apply rfl) | with_reducible refine Sr.nil ?_ | ((with_reducible apply T.ung); apply rfl) | ((with_reducible apply T.retW); apply rfl) | (with_reducible apply T.ofRet) | fail)
    exact ⟨[], PSub.nil, by simp⟩
end Go.Proofs.YtjhpbljkpbdnnaaDoor
