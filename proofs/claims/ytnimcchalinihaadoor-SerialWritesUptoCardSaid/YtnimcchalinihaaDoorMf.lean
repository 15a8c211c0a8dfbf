/- Texts put together by a program: RefJ RefO RefP. -/
import Derived.Test.YtnimcchalinihaaDoorMe
import Derived.Test.YtnimcchalinihaaDoorMb
import Derived.Lib.ValidLaws
import Derived.Lib.TrimUEq
/- The walks of the document's numbers: a number's parts. -/
namespace Sg
theorem digsE_digit {t : List UInt8} {p j : Nat} (h1 : p ≤ j) (h2 : j < digsE t p) : 48 ≤ bAt t j ∧ bAt t j ≤ 57 := by
  have := runD_digit (s := t.drop p) (j := j - p) (by rw [run_drop]; omega)
  rw [bAt_drop] at this
  rwa [show p + (j - p) = j by omega] at this
def AllD (l : List UInt8) : Prop := ∀ j, j < l.length → 48 ≤ bAt l j ∧ bAt l j ≤ 57
theorem bAt_app {a b : List UInt8} (j : Nat) : bAt (a ++ b) j = if j < a.length then bAt a j else bAt b (j - a.length) := by
  unfold bAt
  simp only [List.getD]
  split
  · rw [List.getElem?_append_left (by assumption)]
  · rw [List.getElem?_append_right (by omega)]
theorem AllD.app {a b : List UInt8} (h1 : AllD a) (h2 : AllD b) : AllD (a ++ b) := by
  intro j hj
  rw [List.length_append] at hj
  rw [bAt_app]
  split
  · exact h1 j (by assumption)
  · exact h2 _ (by omega)
theorem bAt_sl {t : List UInt8} {a b j : Nat} (h : a + j < b) : bAt (sl t a b) j = bAt t (a + j) := by
  unfold sl
  rw [← bAt_drop]
  unfold bAt
  simp only [List.getD]
  rw [List.getElem?_take_of_lt (by omega)]
theorem sl_len {t : List UInt8} {a b : Nat} (h : b ≤ t.length) : (sl t a b).length = b - a := by
  unfold sl
  rw [List.length_take, List.length_drop]
  omega
theorem AllD.sl {t : List UInt8} {a b : Nat} (h : b ≤ t.length) (hd : ∀ j, a ≤ j → j < b → 48 ≤ bAt t j ∧ bAt t j ≤ 57) : AllD (sl t a b) := by
  intro j hj
  rw [sl_len h] at hj
  rw [bAt_sl (by omega)]
  exact hd _ (by omega) (by omega)
end Sg
namespace Go.Proofs.YtnimcchalinihaaDoor
open Sg Go.IntWalk
set_option maxRecDepth 100000
set_option maxHeartbeats 4000000
section
variable {F : World} {M : List Nat} {H : List Res} {t : List UInt8} {p : Nat}
/-- A number's cells, as the document keeps it. -/
abbrev rnV (mi : Bool) (dg : Value) (off : Int) (dn : Bool) (ex : Value) (pl : Bool) (w : List UInt8) : List Value := [.bool mi, dg, .int .i64 off, .bool dn, ex, .bool pl, sV w]
theorem refRead_spec (hl : t.length ≤ 1100000) : Meets Tryd.prog 110 [sV t] F M H (fun e H' => ∃ (mi pl dn : Bool) (w : List UInt8) (da ea : Option Addr) (dm dc em ec : Nat) (off : Int), e = .returned (.tuple ⟨[.agg ⟨rnV mi (.slice da dm dc) off dn (.slice ea em ec) pl w⟩, .bool (numP t).isSome]⟩) ∧ H' = H ∧ ∀ x, numP t = some x → x = (mi, w, pl)) := by
  refine Meets.enter Tryd.func110 rfl rfl ?_
  rw [numP_numR]
  have hmin := minR_le t
  have hN : numR t = if digsE t (minR t) = minR t ∨ (bAt t (minR t) = 48 ∧ minR t + 1 < digsE t (minR t)) then none else
      match fracR t (digsE t (minR t)) with
      | none => none
      | some (b, p1) => match expR t b with
        | none => none
        | some (e, p2) => if e = t.length then some (decide (bAt t 0 = 45), sl t (minR t) (digsE t (minR t)), p1 && p2) else none := rfl
  generalize numR t = np at *
  refine S.seq ?_
  repeat' (first | (apply T.asn; apply rfl; apply rfl) | (apply T.alloc; apply rfl; intro nb) | with_reducible refine Sr.nil ?_ | with_reducible refine S.reg ?_ | fail)
  revert nb
  intro b2
  refine S.seq ?_
  repeat' (first | (apply T.buildL; apply rfl; apply rfl; apply rfl) | (apply T.storeW; apply rfl; apply rfl; infer_instance; (first | rfl | (simp only [List.length_append, List.length_map, List.length_set, List.length_replicate, List.length_cons, List.length_nil]; first | done | omega)); (first | rfl | (simp only [List.length_append, List.length_map, List.length_set, List.length_replicate, List.length_cons, List.length_nil]; first | done | omega)); (first | rfl | (repeat' first | apply all_nV | apply all_bV | apply all_iV | rfl | apply all_app))) | (apply T.alloc; apply rfl; intro nb) | with_reducible refine Sr.nil ?_ | with_reducible refine S.reg ?_ | fail)
  revert nb
  intro b4
  refine S.seq ?_
  repeat' (first | (apply T.asn; apply rfl; apply rfl) | with_reducible refine Sr.nil ?_ | with_reducible refine S.reg ?_ | fail)
  refine S.seq ?_
  refine S.cut (fun H' e' => ∃ (mi : Bool) (a : Nat), H' = .blk b4 (rnV mi noL 0 false noL true []) 160 :: .blk b2 (rnV false noL 0 false noL false []) 160 :: H ∧ e' = [(0, sV t), (2, .pointer (some ⟨b2, 0, none⟩)), (4, .pointer (some ⟨b4, 0, none⟩)), (5, .int .i64 a)] ∧ a = minR t ∧ mi = decide (bAt t 0 = 45)) ?_ ?_
  · intro k' hrest
    by_cases h : bAt t 0 = 45
    · have h0 := bAt_lt_of (t := t) (p := 0) (by omega)
      have hb : (t.getD 0 0).toNat = bAt t 0 := rfl
      repeat' (first | (refine T.sidx (i := 0) rfl rfl (by omega) rfl ?_) | (apply T.slen; apply rfl; apply rfl) | (apply T.mv; apply rfl; apply rfl) | (apply T.asn; apply rfl; apply rfl) | (apply T.fieldAddrZ; apply rfl; apply rfl) | (apply T.lss; apply rfl; apply rfl; apply rfl) | (apply T.eql; apply rfl; apply rfl; apply rfl) | (apply T.addI; apply rfl; apply rfl; omega; apply rfl) | (apply T.pickT; apply rfl; apply rfl; apply rfl) | (apply T.store; apply rfl; apply rfl; infer_instance; (first | decide | (simp; omega) | simp); apply rfl) | with_reducible refine Sr.nil ?_ | with_reducible refine S.seq ?_ | with_reducible refine S.reg ?_ | (apply T.ungV; apply rfl; (first | with_reducible rfl | decide)) | (apply S.condQ; apply rfl; all_goals (intro _; try (exfalso; first | omega | with_reducible contradiction))) | (apply T.gcase; apply rfl; apply rfl; all_goals (intro _; try (exfalso; first | omega | with_reducible contradiction))) | fail)
      exact hrest _ _ _ ⟨true, 1, rfl, rfl, by unfold minR; rw [if_pos h], by rw [decide_eq_true h]⟩ (by repeat' first | exact trivial | refine And.intro rfl ?_)
    · have hb : (t.getD 0 0).toNat = bAt t 0 := rfl
      by_cases h0 : 0 < t.length
      · repeat' (first | (refine T.sidx (i := 0) rfl rfl (by omega) rfl ?_) | (apply T.slen; apply rfl; apply rfl) | (apply T.mv; apply rfl; apply rfl) | (apply T.lss; apply rfl; apply rfl; apply rfl) | (apply T.eql; apply rfl; apply rfl; apply rfl) | (apply T.pickT; apply rfl; apply rfl; apply rfl) | with_reducible refine Sr.nil ?_ | with_reducible refine S.seq ?_ | with_reducible refine S.reg ?_ | with_reducible refine S.skip ?_ | (apply T.ungV; apply rfl; (first | with_reducible rfl | decide)) | (apply S.condQ; apply rfl; all_goals (intro _; try (exfalso; first | omega | with_reducible contradiction))) | (apply T.gcase; apply rfl; apply rfl; all_goals (intro _; try (exfalso; first | omega | with_reducible contradiction))) | fail)
        exact hrest _ _ _ ⟨false, 0, rfl, rfl, by unfold minR; rw [if_neg h], by rw [decide_eq_false h]⟩ (by repeat' first | exact trivial | refine And.intro rfl ?_)
      · repeat' (first | (apply T.slen; apply rfl; apply rfl) | (apply T.mv; apply rfl; apply rfl) | (apply T.lss; apply rfl; apply rfl; apply rfl) | (apply T.pickF; apply rfl; apply rfl; apply rfl) | with_reducible refine Sr.nil ?_ | with_reducible refine S.seq ?_ | with_reducible refine S.reg ?_ | with_reducible refine S.skip ?_ | (apply T.skip; apply rfl; (first | with_reducible rfl | decide); apply rfl) | (apply S.condFV; apply rfl; (first | with_reducible rfl | decide)) | (apply T.gcase; apply rfl; apply rfl; all_goals (intro _; try (exfalso; first | omega | with_reducible contradiction))) | fail)
        exact hrest _ _ _ ⟨false, 0, rfl, rfl, by unfold minR; rw [if_neg h], by rw [decide_eq_false h]⟩ (by repeat' first | exact trivial | refine And.intro rfl ?_)
  rintro _ _ ⟨mi, a, rfl, rfl, ha, hmi⟩
  rw [← ha, ← hmi] at hN
  rw [← ha] at hmin
  clear ha hmi
  obtain ⟨hd1, hd2⟩ := digs_len hmin
  refine S.seq ?_
  repeat' (first | (apply T.mv; apply rfl; apply rfl) | (apply T.asn; apply rfl; apply rfl) | with_reducible refine Sr.nil ?_ | with_reducible refine S.reg ?_ | fail)
  refine S.seq ?_
  repeat' (first | (apply T.mv; apply rfl; apply rfl) | with_reducible refine S.reg ?_ | fail)
  refine T.call rfl rfl (refMany_spec hmin (by omega)) ?_
  rintro _ _ ⟨rfl, rfl⟩
  have hdig : ∀ j, a ≤ j → j < digsE t a → 48 ≤ bAt t j ∧ bAt t j ≤ 57 := fun j h1 h2 => digsE_digit h1 h2
  generalize digsE t a = d at *
  repeat' (first | (apply T.asn; apply rfl; apply rfl) | with_reducible refine Sr.nil ?_ | (with_reducible apply T.ofRet) | fail)
  refine S.seq ?_
  refine S.cut (fun H' e' => H' = .blk b4 (rnV mi noL 0 false noL true []) 160 :: .blk b2 (rnV false noL 0 false noL false []) 160 :: H ∧ e' = [(0, sV t), (2, .pointer (some ⟨b2, 0, none⟩)), (4, .pointer (some ⟨b4, 0, none⟩)), (5, .int .i64 d), (6, .int .i64 a)] ∧ ¬ (d = a ∨ (bAt t a = 48 ∧ a + 1 < d))) ?_ ?_
  · intro k' hrest
    have hb : (t.getD a 0).toNat = bAt t a := rfl
    by_cases h : d = a ∨ (bAt t a = 48 ∧ a + 1 < d)
    · rw [if_pos h] at hN
      subst hN
      repeat' (first | (apply T.sidx; apply rfl; apply rfl; omega; apply rfl) | (apply T.mv; apply rfl; apply rfl) | (apply T.asn; apply rfl; apply rfl) | (apply T.gtr; apply rfl; apply rfl; apply rfl) | (apply T.eql; apply rfl; apply rfl; apply rfl) | (apply T.addI; apply rfl; apply rfl; omega; apply rfl) | (apply T.pickT; apply rfl; apply rfl; apply rfl) | (apply T.pickF; apply rfl; apply rfl; apply rfl) | (apply T.loadW; apply rfl; apply rfl; infer_instance; (first | rfl | (simp only [List.length_append, List.length_map, List.length_set, List.length_replicate, List.length_cons, List.length_nil]; first | done | omega)); apply rfl) | (apply T.storeW; apply rfl; apply rfl; infer_instance; (first | rfl | (simp only [List.length_append, List.length_map, List.length_set, List.length_replicate, List.length_cons, List.length_nil]; first | done | omega)); (first | rfl | (simp only [List.length_append, List.length_map, List.length_set, List.length_replicate, List.length_cons, List.length_nil]; first | done | omega)); (first | rfl | (repeat' first | apply all_nV | apply all_bV | apply all_iV | rfl | apply all_app))) | with_reducible refine Sr.nil ?_ | with_reducible refine S.seq ?_ | with_reducible refine S.reg ?_ | (apply T.ungV; apply rfl; (first | with_reducible rfl | decide)) | (apply T.skip; apply rfl; (first | with_reducible rfl | decide); apply rfl) | (apply T.skipU; apply rfl; apply rfl) | (apply S.condTV; apply rfl; (first | with_reducible rfl | decide)) | (apply S.condQ; apply rfl; all_goals (intro _; try (exfalso; first | omega | with_reducible contradiction))) | (apply T.gcase; apply rfl; apply rfl; all_goals (intro _; try (exfalso; first | omega | with_reducible contradiction))) | (apply T.retC; apply rfl; ((repeat' first | apply RV.nil | (apply RV.tmp; apply rfl) | (apply RV.cellW; apply rfl; apply rfl; infer_instance; (first | rfl | (simp only [List.length_append, List.length_map, List.length_set, List.length_replicate, List.length_cons, List.length_nil]; first | done | omega))) | (apply RV.cellP; apply rfl; apply rfl; infer_instance; apply rfl))); apply rfl) | fail)
      all_goals exact ⟨_, PSub.drop (PSub.drop (PSub.refl _)), _, _, _, _, _, _, _, _, _, _, _, rfl, rfl, fun x hx => by cases hx⟩
    · have h1 : ¬ d = a := fun e => h (.inl e)
      have h2 : ¬ (bAt t a = 48 ∧ a + 1 < d) := fun e => h (.inr e)
      have h3 : a < t.length := by omega
      repeat' (first | (apply T.sidx; apply rfl; apply rfl; omega; apply rfl) | (apply T.mv; apply rfl; apply rfl) | (apply T.gtr; apply rfl; apply rfl; apply rfl) | (apply T.eql; apply rfl; apply rfl; apply rfl) | (apply T.addI; apply rfl; apply rfl; omega; apply rfl) | (apply T.pickT; apply rfl; apply rfl; apply rfl) | (apply T.pickF; apply rfl; apply rfl; apply rfl) | with_reducible refine Sr.nil ?_ | with_reducible refine S.seq ?_ | with_reducible refine S.reg ?_ | with_reducible refine S.skip ?_ | (apply T.ungV; apply rfl; (first | with_reducible rfl | decide)) | (apply T.skip; apply rfl; (first | with_reducible rfl | decide); apply rfl) | (apply S.condFV; apply rfl; (first | with_reducible rfl | decide)) | (apply S.condQ; apply rfl; all_goals (intro _; try (exfalso; first | omega | with_reducible contradiction))) | (apply T.gcase; apply rfl; apply rfl; all_goals (intro _; try (exfalso; first | omega | with_reducible contradiction))) | fail)
      all_goals exact hrest _ _ _ ⟨rfl, rfl, h⟩ (by repeat' first | exact trivial | refine And.intro rfl ?_)
  rintro _ _ ⟨rfl, rfl, hbad⟩
  rw [if_neg hbad] at hN
  have hwl := sl_len (t := t) (a := a) hd2
  have hwd := AllD.sl hd2 hdig
  refine S.seq ?_
  repeat' (first | (apply T.sslice; apply rfl; apply rfl; apply rfl; omega; apply rfl) | (apply T.mv; apply rfl; apply rfl) | (apply T.fieldAddrZ; apply rfl; apply rfl) | (apply T.store; apply rfl; apply rfl; infer_instance; (first | decide | (simp; omega) | simp); apply rfl) | with_reducible refine Sr.nil ?_ | with_reducible refine S.reg ?_ | fail)
  refine S.seq ?_
  repeat' (first | (apply T.sslice; apply rfl; apply rfl; apply rfl; omega; apply rfl) | (apply T.mv; apply rfl; apply rfl) | (apply T.asn; apply rfl; apply rfl) | with_reducible refine Sr.nil ?_ | with_reducible refine S.reg ?_ | fail)
  refine S.seq ?_
  repeat' (first | (apply T.mv; apply rfl; apply rfl) | (apply T.fieldAddrZ; apply rfl; apply rfl) | (apply T.subI; apply rfl; apply rfl; omega; apply rfl) | (apply T.store; apply rfl; apply rfl; infer_instance; (first | decide | (simp; omega) | simp); apply rfl) | with_reducible refine Sr.nil ?_ | with_reducible refine S.reg ?_ | fail)
  change S _ _ _ _ _
  have hsl : (t.drop a).take (d - a) = sl t a d := rfl
  rw [hsl]
  generalize sl t a d = w at *
  refine S.seq ?_
  refine S.cut (fun H' e' => ∃ (p1 : Bool) (b : Nat) (all : List UInt8), H' = .blk b4 (rnV mi noL ((d : Int) - a) false noL p1 w) 160 :: .blk b2 (rnV false noL 0 false noL false []) 160 :: H ∧ e' = [(0, sV t), (2, .pointer (some ⟨b2, 0, none⟩)), (4, .pointer (some ⟨b4, 0, none⟩)), (5, .int .i64 b), (7, sV all)] ∧ AllD all ∧ all.length ≤ 2000000 ∧ b ≤ t.length ∧ np = match expR t b with
    | none => none
    | some (e, p2) => if e = t.length then some (mi, w, p1 && p2) else none) ?_ ?_
  · intro k' hrest
    have hb : (t.getD d 0).toNat = bAt t d := rfl
    unfold fracR at hN
    by_cases h : bAt t d = 46
    · have h0 := bAt_lt_of (t := t) (p := d) (by omega)
      obtain ⟨hf1, hf2⟩ := digs_len (t := t) (p := d + 1) (by omega)
      have e1 : (d : Int) + 1 = ((d + 1 : Nat) : Int) := by omega
      have hfd : ∀ j, d + 1 ≤ j → j < digsE t (d + 1) → 48 ≤ bAt t j ∧ bAt t j ≤ 57 := fun j h1 h2 => digsE_digit h1 h2
      rw [if_pos h] at hN
      repeat' (first | (apply T.addI; apply rfl; apply rfl; omega; apply rfl; rw [e1]) | (apply T.slen; apply rfl; apply rfl) | (apply T.sidx; apply rfl; apply rfl; omega; apply rfl) | (apply T.mv; apply rfl; apply rfl) | (apply T.fieldAddrZ; apply rfl; apply rfl) | (apply T.lss; apply rfl; apply rfl; apply rfl) | (apply T.eql; apply rfl; apply rfl; apply rfl) | (apply T.pickT; apply rfl; apply rfl; apply rfl) | (apply T.store; apply rfl; apply rfl; infer_instance; (first | decide | (simp; omega) | simp); apply rfl) | with_reducible refine Sr.nil ?_ | with_reducible refine S.seq ?_ | with_reducible refine S.reg ?_ | (apply T.ungV; apply rfl; (first | with_reducible rfl | decide)) | (apply S.condQ; apply rfl; all_goals (intro _; try (exfalso; first | omega | with_reducible contradiction))) | (apply T.gcase; apply rfl; apply rfl; all_goals (intro _; try (exfalso; first | omega | with_reducible contradiction))) | fail)
      refine T.call rfl rfl (refMany_spec (p := d + 1) (by omega) (by omega)) ?_
      rintro _ _ ⟨rfl, rfl⟩
      generalize digsE t (d + 1) = f at *
      by_cases h1 : f = d + 1
      · rw [if_pos h1] at hN
        subst hN
        repeat' (first | (apply T.addI; apply rfl; apply rfl; omega; apply rfl; rw [e1]) | (apply T.mv; apply rfl; apply rfl) | (apply T.asn; apply rfl; apply rfl) | (apply T.eql; apply rfl; apply rfl; apply rfl) | (apply T.loadW; apply rfl; apply rfl; infer_instance; (first | rfl | (simp only [List.length_append, List.length_map, List.length_set, List.length_replicate, List.length_cons, List.length_nil]; first | done | omega)); apply rfl) | (apply T.storeW; apply rfl; apply rfl; infer_instance; (first | rfl | (simp only [List.length_append, List.length_map, List.length_set, List.length_replicate, List.length_cons, List.length_nil]; first | done | omega)); (first | rfl | (simp only [List.length_append, List.length_map, List.length_set, List.length_replicate, List.length_cons, List.length_nil]; first | done | omega)); (first | rfl | (repeat' first | apply all_nV | apply all_bV | apply all_iV | rfl | apply all_app))) | with_reducible refine Sr.nil ?_ | with_reducible refine S.seq ?_ | with_reducible refine S.reg ?_ | (apply S.condQ; apply rfl; all_goals (intro _; try (exfalso; first | omega | with_reducible contradiction))) | (with_reducible apply T.ofRet) | (apply T.retC; apply rfl; ((repeat' first | apply RV.nil | (apply RV.tmp; apply rfl) | (apply RV.cellW; apply rfl; apply rfl; infer_instance; (first | rfl | (simp only [List.length_append, List.length_map, List.length_set, List.length_replicate, List.length_cons, List.length_nil]; first | done | omega))) | (apply RV.cellP; apply rfl; apply rfl; infer_instance; apply rfl))); apply rfl) | fail)
        exact ⟨_, PSub.drop (PSub.drop (PSub.refl _)), _, _, _, _, _, _, _, _, _, _, _, rfl, rfl, fun x hx => by cases hx⟩
      · rw [if_neg h1] at hN
        have hsl2 : (t.drop (d + 1)).take (f - (d + 1)) = sl t (d + 1) f := rfl
        have hl2 := sl_len (t := t) (a := d + 1) hf2
        have hd2 := AllD.sl hf2 hfd
        repeat' (first | (apply T.addI; apply rfl; apply rfl; omega; apply rfl; rw [e1]) | (apply T.sslice; apply rfl; apply rfl; apply rfl; omega; apply rfl; rw [hsl2]) | (apply T.sadd; apply rfl; apply rfl; omega; apply rfl) | (apply T.mv; apply rfl; apply rfl) | (apply T.asn; apply rfl; apply rfl) | (apply T.eql; apply rfl; apply rfl; apply rfl) | with_reducible refine Sr.nil ?_ | with_reducible refine S.seq ?_ | with_reducible refine S.reg ?_ | with_reducible refine S.skip ?_ | (apply S.condQ; apply rfl; all_goals (intro _; try (exfalso; first | omega | with_reducible contradiction))) | (with_reducible apply T.ofRet) | fail)
        exact hrest _ _ _ ⟨false, f, w ++ sl t (d + 1) f, rfl, rfl, hwd.app hd2, by rw [List.length_append]; omega, hf2, hN⟩ (by repeat' first | exact trivial | refine And.intro rfl ?_)
    · rw [if_neg h] at hN
      by_cases h0 : d < t.length
      · repeat' (first | (apply T.slen; apply rfl; apply rfl) | (apply T.sidx; apply rfl; apply rfl; omega; apply rfl) | (apply T.mv; apply rfl; apply rfl) | (apply T.lss; apply rfl; apply rfl; apply rfl) | (apply T.eql; apply rfl; apply rfl; apply rfl) | (apply T.pickT; apply rfl; apply rfl; apply rfl) | with_reducible refine Sr.nil ?_ | with_reducible refine S.seq ?_ | with_reducible refine S.reg ?_ | with_reducible refine S.skip ?_ | (apply T.ungV; apply rfl; (first | with_reducible rfl | decide)) | (apply S.condQ; apply rfl; all_goals (intro _; try (exfalso; first | omega | with_reducible contradiction))) | (apply T.gcase; apply rfl; apply rfl; all_goals (intro _; try (exfalso; first | omega | with_reducible contradiction))) | fail)
        exact hrest _ _ _ ⟨true, d, w, rfl, rfl, hwd, by omega, hd2, hN⟩ (by repeat' first | exact trivial | refine And.intro rfl ?_)
      · repeat' (first | (apply T.slen; apply rfl; apply rfl) | (apply T.mv; apply rfl; apply rfl) | (apply T.lss; apply rfl; apply rfl; apply rfl) | (apply T.pickF; apply rfl; apply rfl; apply rfl) | with_reducible refine Sr.nil ?_ | with_reducible refine S.seq ?_ | with_reducible refine S.reg ?_ | with_reducible refine S.skip ?_ | (apply T.skip; apply rfl; (first | with_reducible rfl | decide); apply rfl) | (apply S.condFV; apply rfl; (first | with_reducible rfl | decide)) | (apply T.gcase; apply rfl; apply rfl; all_goals (intro _; try (exfalso; first | omega | with_reducible contradiction))) | fail)
        exact hrest _ _ _ ⟨true, d, w, rfl, rfl, hwd, by omega, hd2, hN⟩ (by repeat' first | exact trivial | refine And.intro rfl ?_)
  rintro _ _ ⟨p1, b, all, rfl, rfl, hall, hlall, hb, hN⟩
  obtain ⟨off, hoff⟩ : ∃ off : Int, (d : Int) - a = off := ⟨_, rfl⟩
  have ho : -2000000 ≤ off ∧ off ≤ 2000000 := by omega
  rw [hoff]
  clear hoff hbad hdig hd1 hd2 hmin hwd
  refine S.seq ?_
  refine S.cut (fun H' e' => ∃ (dn pl : Bool) (q : Nat) (ea : Option Addr) (em ec : Nat), H' = .blk b4 (rnV mi noL off dn (.slice ea em ec) pl w) 160 :: .blk b2 (rnV false noL 0 false noL false []) 160 :: H ∧ e' = [(0, sV t), (2, .pointer (some ⟨b2, 0, none⟩)), (4, .pointer (some ⟨b4, 0, none⟩)), (5, .int .i64 q), (7, sV all)] ∧ q ≤ t.length ∧ np = if q = t.length then some (mi, w, pl) else none) ?_ ?_
  · intro k' hrest
    unfold expR at hN
    refine S.seq ?_
    refine S.cut (fun H' e' => ∃ bx : Bool, H' = .blk b4 (rnV mi noL off false noL p1 w) 160 :: .blk b2 (rnV false noL 0 false noL false []) 160 :: H ∧ e' = [(0, sV t), (2, .pointer (some ⟨b2, 0, none⟩)), (4, .pointer (some ⟨b4, 0, none⟩)), (5, .int .i64 b), (7, sV all), (103, .bool bx)] ∧ bx = (decide (bAt t b = 101) || decide (bAt t b = 69))) ?_ ?_
    · intro k'' hmid
      have hbb : (t.getD b 0).toNat = bAt t b := rfl
      by_cases h0 : b < t.length
      · by_cases h1 : bAt t b = 101
        · repeat' (first | (apply T.slen; apply rfl; apply rfl) | (apply T.sidx; apply rfl; apply rfl; omega; apply rfl) | (apply T.mv; apply rfl; apply rfl) | (apply T.lss; apply rfl; apply rfl; apply rfl) | (apply T.eql; apply rfl; apply rfl; apply rfl) | (apply T.pickT; apply rfl; apply rfl; apply rfl) | with_reducible refine Sr.nil ?_ | with_reducible refine S.reg ?_ | (apply T.ungV; apply rfl; (first | with_reducible rfl | decide)) | (apply T.skip; apply rfl; (first | with_reducible rfl | decide); apply rfl) | (apply T.gcase; apply rfl; apply rfl; all_goals (intro _; try (exfalso; first | omega | with_reducible contradiction))) | fail)
          exact hmid _ _ _ ⟨true, rfl, rfl, by rw [decide_eq_true h1]; rfl⟩ (by repeat' first | exact trivial | refine And.intro rfl ?_)
        · repeat' (first | (apply T.slen; apply rfl; apply rfl) | (apply T.sidx; apply rfl; apply rfl; omega; apply rfl) | (apply T.mv; apply rfl; apply rfl) | (apply T.lss; apply rfl; apply rfl; apply rfl) | (apply T.eql; apply rfl; apply rfl; apply rfl) | (apply T.pickT; apply rfl; apply rfl; apply rfl) | (apply T.pickF; apply rfl; apply rfl; apply rfl) | with_reducible refine Sr.nil ?_ | with_reducible refine S.reg ?_ | (apply T.ungV; apply rfl; (first | with_reducible rfl | decide)) | (apply T.gcase; apply rfl; apply rfl; all_goals (intro _; try (exfalso; first | omega | with_reducible contradiction))) | fail)
          refine hmid _ _ _ ⟨decide ((((t.getD b 0).toNat : Nat) : Int) = 69), rfl, rfl, ?_⟩ (by repeat' first | exact trivial | refine And.intro rfl ?_)
          rw [decide_eq_false h1, Bool.false_or, decide_eq_decide]
          omega
      · have h3 := bAt_big (t := t) (p := b) (by omega)
        repeat' (first | (apply T.slen; apply rfl; apply rfl) | (apply T.mv; apply rfl; apply rfl) | (apply T.lss; apply rfl; apply rfl; apply rfl) | (apply T.pickF; apply rfl; apply rfl; apply rfl) | with_reducible refine Sr.nil ?_ | with_reducible refine S.reg ?_ | (apply T.skip; apply rfl; (first | with_reducible rfl | decide); apply rfl) | (apply T.skipU; apply rfl; apply rfl) | (apply T.gcase; apply rfl; apply rfl; all_goals (intro _; try (exfalso; first | omega | with_reducible contradiction))) | fail)
        exact hmid _ _ _ ⟨false, rfl, rfl, by rw [h3]; rfl⟩ (by repeat' first | exact trivial | refine And.intro rfl ?_)
    rintro _ _ ⟨bx, rfl, rfl, hbx⟩
    cases bx with
    | false =>
      have h1 : ¬ (bAt t b = 101 ∨ bAt t b = 69) := by simpa using hbx.symm
      rw [if_neg h1] at hN
      simp only [Bool.and_true] at hN
      repeat' (first | with_reducible refine S.skip ?_ | (apply S.condFV; apply rfl; (first | with_reducible rfl | decide)) | fail)
      exact hrest _ _ _ ⟨false, p1, b, none, 0, 0, rfl, rfl, hb, hN⟩ (by repeat' first | exact trivial | refine And.intro rfl ?_)
    | true =>
      have h1 : bAt t b = 101 ∨ bAt t b = 69 := by simpa using hbx.symm
      rw [if_pos h1] at hN
      have hlt := bAt_lt_of (t := t) (p := b) (by omega)
      have e1 : (b : Int) + 1 = ((b + 1 : Nat) : Int) := by omega
      repeat' (first | (apply S.condTV; apply rfl; (first | with_reducible rfl | decide)) | fail)
      refine S.seq ?_
      repeat' (first | (apply T.fieldAddrZ; apply rfl; apply rfl) | (apply T.store; apply rfl; apply rfl; infer_instance; (first | decide | (simp; omega) | simp); apply rfl) | with_reducible refine Sr.nil ?_ | with_reducible refine S.reg ?_ | fail)
      refine S.seq ?_
      repeat' (first | (apply T.addI; apply rfl; apply rfl; omega; apply rfl; rw [e1]) | (apply T.mv; apply rfl; apply rfl) | (apply T.asn; apply rfl; apply rfl) | with_reducible refine Sr.nil ?_ | with_reducible refine S.reg ?_ | fail)
      refine S.seq ?_
      refine S.cut (fun H' e' => ∃ (dn : Bool) (q : Nat), H' = .blk b4 (rnV mi noL off dn noL false w) 160 :: .blk b2 (rnV false noL 0 false noL false []) 160 :: H ∧ e' = [(0, sV t), (2, .pointer (some ⟨b2, 0, none⟩)), (4, .pointer (some ⟨b4, 0, none⟩)), (5, .int .i64 q), (7, sV all)] ∧ q = signR t (b + 1)) ?_ ?_
      · intro k'' hmid
        generalize b + 1 = c at *
        unfold signR at hmid
        have hbb : (t.getD c 0).toNat = bAt t c := rfl
        by_cases h0 : c < t.length
        · by_cases h2 : bAt t c = 43
          · rw [if_pos (.inl h2)] at hmid
            repeat' (first | (apply T.slen; apply rfl; apply rfl) | (apply T.sidx; apply rfl; apply rfl; omega; apply rfl) | (apply T.mv; apply rfl; apply rfl) | (apply T.asn; apply rfl; apply rfl) | (apply T.fieldAddrZ; apply rfl; apply rfl) | (apply T.lss; apply rfl; apply rfl; apply rfl) | (apply T.eql; apply rfl; apply rfl; apply rfl) | (apply T.addI; apply rfl; apply rfl; omega; apply rfl) | (apply T.pickT; apply rfl; apply rfl; apply rfl) | (apply T.store; apply rfl; apply rfl; infer_instance; (first | decide | (simp; omega) | simp); apply rfl) | with_reducible refine Sr.nil ?_ | with_reducible refine S.seq ?_ | with_reducible refine S.reg ?_ | (apply T.ungV; apply rfl; (first | with_reducible rfl | decide)) | (apply T.skip; apply rfl; (first | with_reducible rfl | decide); apply rfl) | (apply S.condTV; apply rfl; (first | with_reducible rfl | decide)) | (apply T.gcase; apply rfl; apply rfl; all_goals (intro _; try (exfalso; first | omega | with_reducible contradiction))) | fail)
            exact hmid _ _ _ ⟨_, c + 1, rfl, rfl, rfl⟩ (by repeat' first | exact trivial | refine And.intro rfl ?_)
          · by_cases h3 : bAt t c = 45
            · rw [if_pos (.inr h3)] at hmid
              repeat' (first | (apply T.slen; apply rfl; apply rfl) | (apply T.sidx; apply rfl; apply rfl; omega; apply rfl) | (apply T.mv; apply rfl; apply rfl) | (apply T.asn; apply rfl; apply rfl) | (apply T.fieldAddrZ; apply rfl; apply rfl) | (apply T.lss; apply rfl; apply rfl; apply rfl) | (apply T.eql; apply rfl; apply rfl; apply rfl) | (apply T.addI; apply rfl; apply rfl; omega; apply rfl) | (apply T.pickT; apply rfl; apply rfl; apply rfl) | (apply T.pickF; apply rfl; apply rfl; apply rfl) | (apply T.store; apply rfl; apply rfl; infer_instance; (first | decide | (simp; omega) | simp); apply rfl) | with_reducible refine Sr.nil ?_ | with_reducible refine S.seq ?_ | with_reducible refine S.reg ?_ | (apply T.ungV; apply rfl; (first | with_reducible rfl | decide)) | (apply S.condQ; apply rfl; all_goals (intro _; try (exfalso; first | omega | with_reducible contradiction))) | (apply T.gcase; apply rfl; apply rfl; all_goals (intro _; try (exfalso; first | omega | with_reducible contradiction))) | fail)
              exact hmid _ _ _ ⟨_, c + 1, rfl, rfl, rfl⟩ (by repeat' first | exact trivial | refine And.intro rfl ?_)
            · rw [if_neg (fun h => h.elim h2 h3)] at hmid
              repeat' (first | (apply T.slen; apply rfl; apply rfl) | (apply T.sidx; apply rfl; apply rfl; omega; apply rfl) | (apply T.mv; apply rfl; apply rfl) | (apply T.lss; apply rfl; apply rfl; apply rfl) | (apply T.eql; apply rfl; apply rfl; apply rfl) | (apply T.pickT; apply rfl; apply rfl; apply rfl) | (apply T.pickF; apply rfl; apply rfl; apply rfl) | with_reducible refine Sr.nil ?_ | with_reducible refine S.seq ?_ | with_reducible refine S.reg ?_ | with_reducible refine S.skip ?_ | (apply T.ungV; apply rfl; (first | with_reducible rfl | decide)) | (apply S.condQ; apply rfl; all_goals (intro _; try (exfalso; first | omega | with_reducible contradiction))) | (apply T.gcase; apply rfl; apply rfl; all_goals (intro _; try (exfalso; first | omega | with_reducible contradiction))) | fail)
              exact hmid _ _ _ ⟨_, c, rfl, rfl, rfl⟩ (by repeat' first | exact trivial | refine And.intro rfl ?_)
        · have h3 := bAt_big (t := t) (p := c) (by omega)
          rw [if_neg (by omega)] at hmid
          repeat' (first | (apply T.slen; apply rfl; apply rfl) | (apply T.mv; apply rfl; apply rfl) | (apply T.lss; apply rfl; apply rfl; apply rfl) | (apply T.pickF; apply rfl; apply rfl; apply rfl) | with_reducible refine Sr.nil ?_ | with_reducible refine S.seq ?_ | with_reducible refine S.reg ?_ | with_reducible refine S.skip ?_ | (apply T.skip; apply rfl; (first | with_reducible rfl | decide); apply rfl) | (apply T.skipU; apply rfl; apply rfl) | (apply S.condFV; apply rfl; (first | with_reducible rfl | decide)) | (apply T.gcase; apply rfl; apply rfl; all_goals (intro _; try (exfalso; first | omega | with_reducible contradiction))) | fail)
          exact hmid _ _ _ ⟨_, c, rfl, rfl, rfl⟩ (by repeat' first | exact trivial | refine And.intro rfl ?_)
      obtain ⟨hs1, hs2⟩ := signR_le (t := t) (p := b + 1) hlt
      rintro _ _ ⟨dn, q, rfl, rfl, hq⟩
      rw [← hq] at hN hs1 hs2
      clear hq
      obtain ⟨hf1, hf2⟩ := digs_len hs2
      have hfd : ∀ j, q ≤ j → j < digsE t q → 48 ≤ bAt t j ∧ bAt t j ≤ 57 := fun j h1 h2 => digsE_digit h1 h2
      repeat' (first | (apply T.mv; apply rfl; apply rfl) | with_reducible refine S.seq ?_ | with_reducible refine S.reg ?_ | fail)
      refine T.call rfl rfl (refMany_spec hs2 (by omega)) ?_
      rintro _ _ ⟨rfl, rfl⟩
      generalize digsE t q = f at *
      by_cases h2 : f = q
      · rw [if_pos h2] at hN
        subst hN
        repeat' (first | (apply T.mv; apply rfl; apply rfl) | (apply T.asn; apply rfl; apply rfl) | (apply T.eql; apply rfl; apply rfl; apply rfl) | (apply T.loadW; apply rfl; apply rfl; infer_instance; (first | rfl | (simp only [List.length_append, List.length_map, List.length_set, List.length_replicate, List.length_cons, List.length_nil]; first | done | omega)); apply rfl) | (apply T.storeW; apply rfl; apply rfl; infer_instance; (first | rfl | (simp only [List.length_append, List.length_map, List.length_set, List.length_replicate, List.length_cons, List.length_nil]; first | done | omega)); (first | rfl | (simp only [List.length_append, List.length_map, List.length_set, List.length_replicate, List.length_cons, List.length_nil]; first | done | omega)); (first | rfl | (repeat' first | apply all_nV | apply all_bV | apply all_iV | rfl | apply all_app))) | with_reducible refine Sr.nil ?_ | with_reducible refine S.seq ?_ | with_reducible refine S.reg ?_ | (apply S.condQ; apply rfl; all_goals (intro _; try (exfalso; first | omega | with_reducible contradiction))) | (with_reducible apply T.ofRet) | (apply T.retC; apply rfl; ((repeat' first | apply RV.nil | (apply RV.tmp; apply rfl) | (apply RV.cellW; apply rfl; apply rfl; infer_instance; (first | rfl | (simp only [List.length_append, List.length_map, List.length_set, List.length_replicate, List.length_cons, List.length_nil]; first | done | omega))) | (apply RV.cellP; apply rfl; apply rfl; infer_instance; apply rfl))); apply rfl) | fail)
        exact ⟨_, PSub.drop (PSub.drop (PSub.refl _)), _, _, _, _, _, _, _, _, _, _, _, rfl, rfl, fun x hx => by cases hx⟩
      rw [if_neg h2] at hN
      simp only [Bool.and_false] at hN
      refine Sr.nilrow 3 1 ?_
      repeat' (first | (apply T.mv; apply rfl; apply rfl) | (apply T.asn; apply rfl; apply rfl) | (apply T.eql; apply rfl; apply rfl; apply rfl) | with_reducible refine Sr.nil ?_ | with_reducible refine S.seq ?_ | with_reducible refine S.block ?_ | with_reducible refine S.reg ?_ | with_reducible refine S.skip ?_ | (apply S.condQ; apply rfl; all_goals (intro _; try (exfalso; first | omega | with_reducible contradiction))) | fail)
      refine S.loopE 2 [0, 2, 4, 7, 9] (fun R b' μ H' e => ∃ (i m ec : Nat) (ea : Option Addr) (xs : List Nat), H' = .row ea ec 3 1 m (xs.map nV) :: .blk b4 (rnV mi noL off dn (.slice ea m ec) false w) 160 :: R ∧ e = (10, .int .i64 i) :: b' ∧ (q ≤ i ∧ i ≤ f ∧ xs.length = m ∧ m ≤ i) ∧ μ = f - i) rfl rfl ?_ _ _ ⟨q, 0, 0, none, [], rfl, rfl, ⟨Nat.le_refl _, hf1, rfl, Nat.zero_le _⟩, rfl⟩ (by repeat' first | exact trivial | refine And.intro rfl ?_)
      rintro _ _ _ ⟨i, m, ec, ea, xs, rfl, rfl, ⟨g1, g2, g3, g4⟩, rfl⟩ ih
      have hbi : (t.getD i 0).toNat = bAt t i := rfl
      by_cases g5 : i < f
      · have g6 := hfd i g1 g5
        repeat' (first | (apply T.sidx; apply rfl; apply rfl; omega; apply rfl) | (apply T.mv; apply rfl; apply rfl) | (apply T.asn; apply rfl; apply rfl) | (apply T.len; apply rfl; apply rfl) | (apply T.fieldAddrZ; apply rfl; apply rfl) | (apply T.load; apply rfl; apply rfl; infer_instance; apply rfl; apply rfl) | (apply T.lss; apply rfl; apply rfl; apply rfl) | (apply T.gtr; apply rfl; apply rfl; apply rfl) | (apply T.neq; apply rfl; apply rfl; apply rfl) | (apply T.addI; apply rfl; apply rfl; omega; apply rfl) | (apply T.pickT; apply rfl; apply rfl; apply rfl) | (apply T.pickF; apply rfl; apply rfl; apply rfl) | with_reducible refine Sr.nil ?_ | with_reducible refine S.seq ?_ | with_reducible refine S.block ?_ | with_reducible refine S.reg ?_ | with_reducible refine S.skip ?_ | with_reducible refine S.inBlock ?_ | (apply T.ungV; apply rfl; (first | with_reducible rfl | decide)) | (apply T.skip; apply rfl; (first | with_reducible rfl | decide); apply rfl) | (apply S.condTV; apply rfl; (first | with_reducible rfl | decide)) | (apply S.condQ; apply rfl; all_goals (intro _; try (exfalso; first | omega | with_reducible contradiction))) | (apply T.gcase; apply rfl; apply rfl; all_goals (intro _; try (exfalso; first | omega | with_reducible contradiction))) | fail)
        · (apply S.drawL; (case Hs => exact .blk b4 (rnV mi noL off dn (.slice ea m ec) false w) 160 :: .blk b2 (rnV false noL 0 false noL false []) 160 :: H); (case es => exact  [7, 8, 10]); (case lt => exact  [10]); (case n => exact  11); (case hn => rfl))
          repeat' (first | ((with_reducible apply T.subU8N (n := 48)); apply rfl; apply rfl; omega; apply rfl) | (apply T.sidx; apply rfl; apply rfl; omega; apply rfl) | (apply T.mv; apply rfl; apply rfl) | (apply T.asn; apply rfl; apply rfl) | (apply T.fieldAddrZ; apply rfl; apply rfl) | (apply T.load; apply rfl; apply rfl; infer_instance; apply rfl; apply rfl) | (apply T.addI; apply rfl; apply rfl; omega; apply rfl) | (apply T.convI64; apply rfl; omega; apply rfl) | (apply T.store; apply rfl; apply rfl; infer_instance; (first | decide | (simp; omega) | simp); apply rfl) | (apply T.bs; apply rfl; apply rfl; apply rfl; apply rfl; apply rfl; apply rfl; intro nb) | (apply T.appendN; apply rfl; apply rfl; infer_instance; apply rfl; (constructor <;> omega); apply rfl; intro na nc) | with_reducible refine Sr.nil ?_ | with_reducible refine S.reg ?_ | with_reducible refine S.inBlock ?_ | (apply SA.qn; apply rfl; apply rfl; apply rfl; apply rfl; kernel_rfl) | (apply SA.qz; apply rfl; apply rfl; apply rfl; apply rfl; kernel_rfl) | (apply SA.qsn; apply rfl; apply rfl; apply rfl; kernel_rfl; (first | exact fun _ h => h | exact fun _ h => St.psub h (by ((repeat (first | dsimp only [List.set_cons_zero] | dsimp only [List.set_cons_succ])); repeat' first | exact PSub.refl _ | exact PSub.nil | (apply PSub.take; (repeat' first | (with_reducible exact pick_hd) | (with_reducible apply pick_tl))) | (with_reducible apply PSub.drop) | ((apply PSub.take); (repeat' first | exact pick_hd | (apply pick_tl))))))) | (apply SA.en; apply rfl; apply rfl; kernel_rfl) | (apply SA.done; apply rfl; kernel_rfl) | (apply SK.late; decide) | (apply SK.intro; (first | exact fun _ h => h | exact fun _ h => St.psub h (by ((repeat (first | dsimp only [List.set_cons_zero] | dsimp only [List.set_cons_succ])); repeat' first | exact PSub.refl _ | exact PSub.nil | (apply PSub.take; (repeat' first | (with_reducible exact pick_hd) | (with_reducible apply pick_tl))) | (with_reducible apply PSub.drop) | ((apply PSub.take); (repeat' first | exact pick_hd | (apply pick_tl))))))) | fail)
          exact ih _ _ _ _ ⟨i + 1, m + 1, nc, na, xs ++ [(t.getD i 0).toNat - 48], rfl, rfl, ⟨by omega, by omega, by rw [List.length_append, g3]; rfl, by omega⟩, rfl⟩ (by omega) (by repeat' first | exact trivial | refine And.intro rfl ?_)
        · (apply S.drawL; (case Hs => exact .blk b4 (rnV mi noL off dn (.slice ea m ec) false w) 160 :: .blk b2 (rnV false noL 0 false noL false []) 160 :: H); (case es => exact  [7, 8, 10]); (case lt => exact  [10]); (case n => exact  11); (case hn => rfl))
          repeat' (first | ((with_reducible apply T.subU8N (n := 48)); apply rfl; apply rfl; omega; apply rfl) | (apply T.sidx; apply rfl; apply rfl; omega; apply rfl) | (apply T.mv; apply rfl; apply rfl) | (apply T.asn; apply rfl; apply rfl) | (apply T.fieldAddrZ; apply rfl; apply rfl) | (apply T.load; apply rfl; apply rfl; infer_instance; apply rfl; apply rfl) | (apply T.addI; apply rfl; apply rfl; omega; apply rfl) | (apply T.convI64; apply rfl; omega; apply rfl) | (apply T.store; apply rfl; apply rfl; infer_instance; (first | decide | (simp; omega) | simp); apply rfl) | (apply T.bs; apply rfl; apply rfl; apply rfl; apply rfl; apply rfl; apply rfl; intro nb) | (apply T.appendN; apply rfl; apply rfl; infer_instance; apply rfl; (constructor <;> omega); apply rfl; intro na nc) | with_reducible refine Sr.nil ?_ | with_reducible refine S.reg ?_ | with_reducible refine S.inBlock ?_ | (apply SA.qn; apply rfl; apply rfl; apply rfl; apply rfl; kernel_rfl) | (apply SA.qz; apply rfl; apply rfl; apply rfl; apply rfl; kernel_rfl) | (apply SA.qsn; apply rfl; apply rfl; apply rfl; kernel_rfl; (first | exact fun _ h => h | exact fun _ h => St.psub h (by ((repeat (first | dsimp only [List.set_cons_zero] | dsimp only [List.set_cons_succ])); repeat' first | exact PSub.refl _ | exact PSub.nil | (apply PSub.take; (repeat' first | (with_reducible exact pick_hd) | (with_reducible apply pick_tl))) | (with_reducible apply PSub.drop) | ((apply PSub.take); (repeat' first | exact pick_hd | (apply pick_tl))))))) | (apply SA.en; apply rfl; apply rfl; kernel_rfl) | (apply SA.done; apply rfl; kernel_rfl) | (apply SK.late; decide) | (apply SK.intro; (first | exact fun _ h => h | exact fun _ h => St.psub h (by ((repeat (first | dsimp only [List.set_cons_zero] | dsimp only [List.set_cons_succ])); repeat' first | exact PSub.refl _ | exact PSub.nil | (apply PSub.take; (repeat' first | (with_reducible exact pick_hd) | (with_reducible apply pick_tl))) | (with_reducible apply PSub.drop) | ((apply PSub.take); (repeat' first | exact pick_hd | (apply pick_tl))))))) | fail)
          exact ih _ _ _ _ ⟨i + 1, m + 1, nc, na, xs ++ [(t.getD i 0).toNat - 48], rfl, rfl, ⟨by omega, by omega, by rw [List.length_append, g3]; rfl, by omega⟩, rfl⟩ (by omega) (by repeat' first | exact trivial | refine And.intro rfl ?_)
        · exact ih _ _ _ _ ⟨i + 1, m, ec, ea, xs, rfl, rfl, ⟨by omega, by omega, g3, by omega⟩, rfl⟩ (by omega) (by repeat' first | exact trivial | refine And.intro rfl ?_)
      · obtain rfl : i = f := by omega
        repeat' (first | (apply T.mv; apply rfl; apply rfl) | (apply T.asn; apply rfl; apply rfl) | (apply T.lss; apply rfl; apply rfl; apply rfl) | with_reducible refine Sr.nil ?_ | with_reducible refine S.seq ?_ | with_reducible refine S.reg ?_ | (apply S.exit; apply rfl) | (apply S.condQ; apply rfl; all_goals (intro _; try (exfalso; first | omega | with_reducible contradiction))) | fail)
        refine S.sublist ?_ (PSub.drop (PSub.refl _))
        exact hrest _ _ _ ⟨dn, false, i, ea, m, ec, rfl, rfl, hf2, hN⟩ (by repeat' first | exact trivial | refine And.intro rfl ?_)
  clear hN
  rintro _ _ ⟨dn, pl, q, ea, em, ec, rfl, rfl, hq, hN⟩
  refine S.seq ?_
  refine S.cut (fun H' e' => H' = .blk b4 (rnV mi noL off dn (.slice ea em ec) pl w) 160 :: .blk b2 (rnV false noL 0 false noL false []) 160 :: H ∧ e' = [(0, sV t), (2, .pointer (some ⟨b2, 0, none⟩)), (4, .pointer (some ⟨b4, 0, none⟩)), (7, sV all)] ∧ np = some (mi, w, pl)) ?_ ?_
  · intro k' hrest
    by_cases h : q = t.length
    · rw [if_pos h] at hN
      repeat' (first | (apply T.slen; apply rfl; apply rfl) | (apply T.mv; apply rfl; apply rfl) | (apply T.neq; apply rfl; apply rfl; apply rfl) | with_reducible refine Sr.nil ?_ | with_reducible refine S.seq ?_ | with_reducible refine S.reg ?_ | with_reducible refine S.skip ?_ | (apply S.condQ; apply rfl; all_goals (intro _; try (exfalso; first | omega | with_reducible contradiction))) | fail)
      exact hrest _ _ _ ⟨rfl, rfl, hN⟩ (by repeat' first | exact trivial | refine And.intro rfl ?_)
    · rw [if_neg h] at hN
      subst hN
      repeat' (first | (apply T.slen; apply rfl; apply rfl) | (apply T.mv; apply rfl; apply rfl) | (apply T.asn; apply rfl; apply rfl) | (apply T.neq; apply rfl; apply rfl; apply rfl) | (apply T.loadW; apply rfl; apply rfl; infer_instance; (first | rfl | (simp only [List.length_append, List.length_map, List.length_set, List.length_replicate, List.length_cons, List.length_nil]; first | done | omega)); apply rfl) | (apply T.storeW; apply rfl; apply rfl; infer_instance; (first | rfl | (simp only [List.length_append, List.length_map, List.length_set, List.length_replicate, List.length_cons, List.length_nil]; first | done | omega)); (first | rfl | (simp only [List.length_append, List.length_map, List.length_set, List.length_replicate, List.length_cons, List.length_nil]; first | done | omega)); (first | rfl | (repeat' first | apply all_nV | apply all_bV | apply all_iV | rfl | apply all_app))) | with_reducible refine Sr.nil ?_ | with_reducible refine S.seq ?_ | with_reducible refine S.reg ?_ | (apply S.condQ; apply rfl; all_goals (intro _; try (exfalso; first | omega | with_reducible contradiction))) | (apply T.retC; apply rfl; ((repeat' first | apply RV.nil | (apply RV.tmp; apply rfl) | (apply RV.cellW; apply rfl; apply rfl; infer_instance; (first | rfl | (simp only [List.length_append, List.length_map, List.length_set, List.length_replicate, List.length_cons, List.length_nil]; first | done | omega))) | (apply RV.cellP; apply rfl; apply rfl; infer_instance; apply rfl))); apply rfl) | fail)
      exact ⟨_, PSub.drop (PSub.drop (PSub.refl _)), _, _, _, _, _, _, _, _, _, _, _, rfl, rfl, fun x hx => by cases hx⟩
  rintro _ _ ⟨rfl, rfl, hN2⟩
  subst hN2
  clear hN
  refine S.nilrow 3 1 ?_
  repeat' (first | (apply T.asn; apply rfl; apply rfl) | with_reducible refine Sr.nil ?_ | with_reducible refine S.seq ?_ | with_reducible refine S.block ?_ | with_reducible refine S.reg ?_ | fail)
  refine S.loopE 2 [2, 4, 7] (fun R b' μ H' e => ∃ (i m dc : Nat) (da : Option Addr) (xs : List Nat) (o : Int), H' = .row da dc 3 1 m (xs.map nV) :: .blk b4 (rnV mi (.slice da m dc) o dn (.slice ea em ec) pl w) 160 :: R ∧ e = (11, .int .i64 i) :: b' ∧ (i ≤ all.length ∧ xs.length = m ∧ m ≤ i ∧ -2000000 - (i : Int) ≤ o ∧ o ≤ 2000000) ∧ μ = all.length - i) rfl rfl ?_ _ _ ⟨0, 0, 0, none, [], off, rfl, rfl, ⟨Nat.zero_le _, rfl, Nat.zero_le _, by omega, ho.2⟩, rfl⟩ (by repeat' first | exact trivial | refine And.intro rfl ?_)
  rintro _ _ _ ⟨i, m, dc, da, xs, o, rfl, rfl, ⟨g1, g2, g3, g4, g5⟩, rfl⟩ ih
  by_cases g6 : i < all.length
  · have g7 := hall i g6
    have hbi : (all.getD i 0).toNat = bAt all i := rfl
    repeat' (first | ((with_reducible apply T.subU8N (n := 48)); apply rfl; apply rfl; omega; apply rfl) | (apply T.slen; apply rfl; apply rfl) | (apply T.sidx; apply rfl; apply rfl; omega; apply rfl) | (apply T.mv; apply rfl; apply rfl) | (apply T.asn; apply rfl; apply rfl) | (apply T.len; apply rfl; apply rfl) | (apply T.fieldAddrZ; apply rfl; apply rfl) | (apply T.load; apply rfl; apply rfl; infer_instance; apply rfl; apply rfl) | (apply T.lss; apply rfl; apply rfl; apply rfl) | (apply T.gtr; apply rfl; apply rfl; apply rfl) | (apply T.neq; apply rfl; apply rfl; apply rfl) | (apply T.addI; apply rfl; apply rfl; omega; apply rfl) | (apply T.subI; apply rfl; apply rfl; omega; apply rfl) | (apply T.pickT; apply rfl; apply rfl; apply rfl) | (apply T.pickF; apply rfl; apply rfl; apply rfl) | (apply T.convI64; apply rfl; omega; apply rfl) | (apply T.store; apply rfl; apply rfl; infer_instance; (first | decide | (simp; omega) | simp); apply rfl) | (apply T.bs; apply rfl; apply rfl; apply rfl; apply rfl; apply rfl; apply rfl; intro nb) | (apply T.appendN; apply rfl; apply rfl; infer_instance; apply rfl; (constructor <;> omega); apply rfl; intro na nc) | with_reducible refine Sr.nil ?_ | with_reducible refine S.seq ?_ | with_reducible refine S.block ?_ | with_reducible refine S.reg ?_ | with_reducible refine S.skip ?_ | with_reducible refine S.inBlock ?_ | (apply T.ungV; apply rfl; (first | with_reducible rfl | decide)) | (apply T.skip; apply rfl; (first | with_reducible rfl | decide); apply rfl) | (apply S.condTV; apply rfl; (first | with_reducible rfl | decide)) | (apply S.condQ; apply rfl; all_goals (intro _; try (exfalso; first | omega | with_reducible contradiction))) | (apply T.gcase; apply rfl; apply rfl; all_goals (intro _; try (exfalso; first | omega | with_reducible contradiction))) | fail)
    · exact ih _ _ _ _ ⟨i + 1, m + 1, nc, na, xs ++ [(all.getD i 0).toNat - 48], o, rfl, rfl, ⟨by omega, by rw [List.length_append, g2]; rfl, by omega, by omega, g5⟩, rfl⟩ (by omega) (by repeat' first | exact trivial | refine And.intro rfl ?_)
    · exact ih _ _ _ _ ⟨i + 1, m + 1, nc, na, xs ++ [(all.getD i 0).toNat - 48], o, rfl, rfl, ⟨by omega, by rw [List.length_append, g2]; rfl, by omega, by omega, g5⟩, rfl⟩ (by omega) (by repeat' first | exact trivial | refine And.intro rfl ?_)
    · exact ih _ _ _ _ ⟨i + 1, m, dc, da, xs, o - 1, rfl, rfl, ⟨by omega, g2, by omega, by omega, by omega⟩, rfl⟩ (by omega) (by repeat' first | exact trivial | refine And.intro rfl ?_)
  · obtain rfl : i = all.length := by omega
    clear ih
    repeat' (first | (apply T.slen; apply rfl; apply rfl) | (apply T.mv; apply rfl; apply rfl) | (apply T.lss; apply rfl; apply rfl; apply rfl) | with_reducible refine Sr.nil ?_ | with_reducible refine S.seq ?_ | with_reducible refine S.block ?_ | with_reducible refine S.reg ?_ | (apply S.exit; apply rfl) | (apply S.condQ; apply rfl; all_goals (intro _; try (exfalso; first | omega | with_reducible contradiction))) | fail)
    refine S.loopE 2 [2, 4] (fun R b' μ H' e => ∃ (m dc : Nat) (da : Option Addr) (xs : List Nat), H' = .row da dc 3 1 m (xs.map nV) :: .blk b4 (rnV mi (.slice da m dc) o dn (.slice ea em ec) pl w) 160 :: R ∧ e = b' ∧ (m = xs.length ∧ xs.length ≤ 2000000) ∧ μ = xs.length) rfl rfl ?_ _ _ ⟨m, dc, da, xs, rfl, rfl, ⟨g2.symm, by omega⟩, rfl⟩ (by repeat' first | exact trivial | refine And.intro rfl ?_)
    clear g2 g3
    rintro _ _ _ ⟨m, dc, da, xs, rfl, rfl, ⟨rfl, hxb⟩, rfl⟩ ih
    rcases List.eq_nil_or_concat xs with rfl | ⟨ys, v, rfl⟩
    · have g0 : ([] : List Nat).length = 0 := rfl
      repeat' (first | (apply T.mv; apply rfl; apply rfl) | (apply T.asn; apply rfl; apply rfl) | (apply T.len; apply rfl; apply rfl) | (apply T.fieldAddrZ; apply rfl; apply rfl) | (apply T.load; apply rfl; apply rfl; infer_instance; apply rfl; apply rfl) | (apply T.gtr; apply rfl; apply rfl; apply rfl) | (apply T.pickF; apply rfl; apply rfl; apply rfl) | (apply T.loadW; apply rfl; apply rfl; infer_instance; (first | rfl | (simp only [List.length_append, List.length_map, List.length_set, List.length_replicate, List.length_cons, List.length_nil]; first | done | omega)); apply rfl) | (apply T.storeW; apply rfl; apply rfl; infer_instance; (first | rfl | (simp only [List.length_append, List.length_map, List.length_set, List.length_replicate, List.length_cons, List.length_nil]; first | done | omega)); (first | rfl | (simp only [List.length_append, List.length_map, List.length_set, List.length_replicate, List.length_cons, List.length_nil]; first | done | omega)); (first | rfl | (repeat' first | apply all_nV | apply all_bV | apply all_iV | rfl | apply all_app))) | with_reducible refine Sr.nil ?_ | with_reducible refine S.seq ?_ | with_reducible refine S.reg ?_ | (apply S.exit; apply rfl) | (apply T.skip; apply rfl; (first | with_reducible rfl | decide); apply rfl) | (apply S.condFV; apply rfl; (first | with_reducible rfl | decide)) | (apply T.retC; apply rfl; ((repeat' first | apply RV.nil | (apply RV.tmp; apply rfl) | (apply RV.cellW; apply rfl; apply rfl; infer_instance; (first | rfl | (simp only [List.length_append, List.length_map, List.length_set, List.length_replicate, List.length_cons, List.length_nil]; first | done | omega))) | (apply RV.cellP; apply rfl; apply rfl; infer_instance; apply rfl))); apply rfl) | fail)
      exact ⟨_, PSub.drop (PSub.drop (PSub.drop (PSub.refl _))), _, _, _, _, _, _, _, _, _, _, _, rfl, rfl, fun x hx => by cases hx; rfl⟩
    · have hcl : (ys.concat v).length = ys.length + 1 := by simp
      rw [hcl] at hxb ⊢
      have e1 : ((ys.length + 1 : Nat) : Int) - 1 = ((ys.length : Nat) : Int) := by omega
      have hm : (ys.concat v).map nV = ys.map nV ++ [nV v] := by rw [List.concat_eq_append, List.map_append]; rfl
      have hv : (ys.concat v).getD ys.length 0 = v := by simp [List.getD]
      refine S.capR (ad := da) inferInstance fun hcap => ?_
      repeat' (first | (apply T.subI; apply rfl; apply rfl; omega; apply rfl; rw [e1]) | (apply T.loadNat; apply rfl; infer_instance; omega; apply rfl; rw [hv]) | (apply T.mv; apply rfl; apply rfl) | (apply T.asn; apply rfl; apply rfl) | (apply T.len; apply rfl; apply rfl) | (apply T.fieldAddrZ; apply rfl; apply rfl) | (apply T.load; apply rfl; apply rfl; infer_instance; apply rfl; apply rfl) | (apply T.gtr; apply rfl; apply rfl; apply rfl) | (apply T.eql; apply rfl; apply rfl; apply rfl) | (apply T.ixN; apply rfl; apply rfl; infer_instance; omega; (first | omega | (simp only [List.length_map]; omega) | (simp; omega)); apply rfl) | (apply T.pickT; apply rfl; apply rfl; apply rfl) | (apply T.loadW; apply rfl; apply rfl; infer_instance; (first | rfl | (simp only [List.length_append, List.length_map, List.length_set, List.length_replicate, List.length_cons, List.length_nil]; first | done | omega)); apply rfl) | (apply T.sliceHK; apply rfl; apply rfl; omega; apply rfl) | (apply T.storeW; apply rfl; apply rfl; infer_instance; (first | rfl | (simp only [List.length_append, List.length_map, List.length_set, List.length_replicate, List.length_cons, List.length_nil]; first | done | omega)); (first | rfl | (simp only [List.length_append, List.length_map, List.length_set, List.length_replicate, List.length_cons, List.length_nil]; first | done | omega)); (first | rfl | (repeat' first | apply all_nV | apply all_bV | apply all_iV | rfl | apply all_app))) | (apply T.store; apply rfl; apply rfl; infer_instance; (first | decide | (simp; omega) | simp); apply rfl) | with_reducible refine Sr.nil ?_ | with_reducible refine S.seq ?_ | with_reducible refine S.block ?_ | with_reducible refine S.reg ?_ | with_reducible refine S.skip ?_ | with_reducible refine S.inBlock ?_ | (apply S.exit; apply rfl) | (apply T.ungV; apply rfl; (first | with_reducible rfl | decide)) | (apply S.condQ; apply rfl; all_goals (intro _; try (exfalso; first | omega | with_reducible contradiction))) | (apply T.gcase; apply rfl; apply rfl; all_goals (intro _; try (exfalso; first | omega | with_reducible contradiction))) | (apply T.retC; apply rfl; ((repeat' first | apply RV.nil | (apply RV.tmp; apply rfl) | (apply RV.cellW; apply rfl; apply rfl; infer_instance; (first | rfl | (simp only [List.length_append, List.length_map, List.length_set, List.length_replicate, List.length_cons, List.length_nil]; first | done | omega))) | (apply RV.cellP; apply rfl; apply rfl; infer_instance; apply rfl))); apply rfl) | fail)
      · rw [hm]
        refine S.frontR da ?_
        refine S.shrink ?_
        exact ih _ _ _ _ ⟨ys.length, dc, da, ys, rfl, rfl, ⟨rfl, by omega⟩, rfl⟩ (by rw [hcl]; omega) (by repeat' first | exact trivial | refine And.intro rfl ?_)
      · exact ⟨_, PSub.drop (PSub.drop (PSub.drop (PSub.refl _))), _, _, _, _, _, _, _, _, _, _, _, rfl, rfl, fun x hx => by cases hx; rfl⟩
end
end Go.Proofs.YtnimcchalinihaaDoor
/- The walks of the document's numbers: whole ones. -/
namespace Sg
open Go Go.RowKit
section
variable {c : Ctx} {ds : List Deferred} {H : List Res} {ops : Array Oper} {l : List Oper} {κ : List Res → Env → Prop} {q : Mode} {e : Env} {pos : String} {aft : Array Edge} {ty : TypeId}
/-- A number below 0, divided: cut towards 0. -/
theorem T.quoNeg {x y : Operand} {d : Tmp} {t u : TypeId} {m : Nat} (n : Nat) (hx : ev e x = some (.int .i64 (-(m : Int)))) (hy : ev e y = some (.int .i64 (n : Int))) (h0 : 0 < n ∧ m ≤ 9223372036854775808) (hlt : Nat.blt d c.fn.ntmps = true) (hk : Sr q c ds H ops l κ ((d, .int .i64 (-((m / n : Nat) : Int))) :: e)) :
    Sr q c ds H ops (⟨some d, .binOp .quo t x y u, ty, pos, aft, none⟩ :: l) κ e := Sr.p (Pu.quo hx hy (by omega) (by
      have := Nat.div_le_self m n
      rw [Int.neg_tdiv, ← Int.ofNat_tdiv]
      generalize m / n = k at *
      exact IntWalk.i64_in _ (by omega))) rfl hlt rfl hk
theorem T.negI {x : Operand} {d : Tmp} {t : TypeId} {m : Int} (hx : ev e x = some (.int .i64 m)) (h : -9223372036854775808 ≤ 0 - m ∧ 0 - m ≤ 9223372036854775807) (hlt : Nat.blt d c.fn.ntmps = true) (hk : Sr q c ds H ops l κ ((d, .int .i64 (0 - m)) :: e)) :
    Sr q c ds H ops (⟨some d, .unOp .neg t x, ty, pos, aft, none⟩ :: l) κ e := Sr.p (Pu.neg hx (IntWalk.i64_in _ h)) rfl hlt rfl hk
end
end Sg
namespace Go.Proofs.YtnimcchalinihaaDoor
open Sg Go.IntWalk
set_option maxRecDepth 100000
set_option maxHeartbeats 4000000
section
variable {F : World} {M : List Nat} {H : List Res} {t : List UInt8} {p : Nat}
theorem refWhole_spec (hl : t.length ≤ 1100000) : Meets Tryd.prog 85 [sV t] F M H (fun e H' => e = .returned (.tuple ⟨[.int .i64 (wholeX t).1, .bool (wholeX t).2]⟩) ∧ H' = H) := by
  refine Meets.enter Tryd.func85 rfl rfl ?_
  repeat' (first | (apply T.mv; apply rfl; apply rfl) | (apply T.asn; apply rfl; apply rfl) | with_reducible refine Sr.nil ?_ | with_reducible refine S.seq ?_ | with_reducible refine S.reg ?_ | fail)
  refine T.call rfl rfl (refRead_spec hl) ?_
  rintro _ _ ⟨mi, pl, dn, w, da, ea, dm, dc, em, ec, off, rfl, hH, hx⟩
  have hH2 := hH.symm
  subst hH2
  unfold wholeX
  cases hn : numP t with
  | none =>
    repeat' (first | (apply T.mv; apply rfl; apply rfl) | (apply T.asn; apply rfl; apply rfl) | (apply T.extract; apply rfl; apply rfl; apply rfl) | (apply T.notB; apply rfl; apply rfl) | (apply T.pickT; apply rfl; apply rfl; apply rfl) | (apply T.storeW; apply rfl; apply rfl; infer_instance; (first | rfl | (simp only [List.length_append, List.length_map, List.length_set, List.length_replicate, List.length_cons, List.length_nil]; first | done | omega)); (first | rfl | (simp only [List.length_append, List.length_map, List.length_set, List.length_replicate, List.length_cons, List.length_nil]; first | done | omega)); (first | rfl | (repeat' first | apply all_nV | apply all_bV | apply all_iV | rfl | apply all_app))) | (apply T.alloc; apply rfl; intro nb) | with_reducible refine Sr.nil ?_ | with_reducible refine S.seq ?_ | with_reducible refine S.reg ?_ | (apply T.skip; apply rfl; (first | with_reducible rfl | decide); apply rfl) | (apply S.condTV; apply rfl; (first | with_reducible rfl | decide)) | (apply T.retW; apply rfl) | (with_reducible apply T.ofRet) | fail)
    exact ⟨_, PSub.drop (PSub.refl _), rfl, rfl⟩
  | some x =>
    obtain rfl := hx x hn
    obtain ⟨hd, hw⟩ := numP_digits hn
    cases pl with
    | false =>
      repeat' (first | (apply T.mv; apply rfl; apply rfl) | (apply T.asn; apply rfl; apply rfl) | (apply T.fieldAddrZ; apply rfl; apply rfl) | (apply T.load; apply rfl; apply rfl; infer_instance; apply rfl; apply rfl) | (apply T.extract; apply rfl; apply rfl; apply rfl) | (apply T.notB; apply rfl; apply rfl) | (apply T.pickF; apply rfl; apply rfl; apply rfl) | (apply T.storeW; apply rfl; apply rfl; infer_instance; (first | rfl | (simp only [List.length_append, List.length_map, List.length_set, List.length_replicate, List.length_cons, List.length_nil]; first | done | omega)); (first | rfl | (simp only [List.length_append, List.length_map, List.length_set, List.length_replicate, List.length_cons, List.length_nil]; first | done | omega)); (first | rfl | (repeat' first | apply all_nV | apply all_bV | apply all_iV | rfl | apply all_app))) | (apply T.alloc; apply rfl; intro nb) | with_reducible refine Sr.nil ?_ | with_reducible refine S.seq ?_ | with_reducible refine S.reg ?_ | (apply S.condTV; apply rfl; (first | with_reducible rfl | decide)) | (apply T.retW; apply rfl) | (with_reducible apply T.ofRet) | (apply T.ung; apply rfl) | fail)
      exact ⟨_, PSub.drop (PSub.refl _), rfl, rfl⟩
    | true =>
      simp only
      have h00 : (0 : Int) = -((decV (w.take 0) : Nat) : Int) := rfl
      repeat' (first | (apply T.mv; apply rfl; apply rfl) | (apply T.asn; apply rfl; apply rfl) | (apply T.fieldAddrZ; apply rfl; apply rfl) | (apply T.load; apply rfl; apply rfl; infer_instance; apply rfl; apply rfl) | (apply T.extract; apply rfl; apply rfl; apply rfl) | (apply T.notB; apply rfl; apply rfl) | (apply T.pickF; apply rfl; apply rfl; apply rfl) | (apply T.storeW; apply rfl; apply rfl; infer_instance; (first | rfl | (simp only [List.length_append, List.length_map, List.length_set, List.length_replicate, List.length_cons, List.length_nil]; first | done | omega)); (first | rfl | (simp only [List.length_append, List.length_map, List.length_set, List.length_replicate, List.length_cons, List.length_nil]; first | done | omega)); (first | rfl | (repeat' first | apply all_nV | apply all_bV | apply all_iV | rfl | apply all_app))) | (apply T.alloc; apply rfl; intro nb) | with_reducible refine Sr.nil ?_ | with_reducible refine S.seq ?_ | with_reducible refine S.block ?_ | with_reducible refine S.reg ?_ | with_reducible refine S.skip ?_ | (apply S.condFV; apply rfl; (first | with_reducible rfl | decide)) | (with_reducible apply T.ofRet) | (apply T.ung; apply rfl) | fail)
      refine S.loopE 1 [4] (fun R b' μ H' e => ∃ i : Nat, H' = .blk nb (rnV mi (.slice da dm dc) off dn (.slice ea em ec) true w) 160 :: R ∧ e = (6, .int .i64 (-(decV (w.take i) : Nat))) :: (7, .int .i64 i) :: b' ∧ (i ≤ w.length ∧ decV (w.take i) ≤ 9223372036854775808) ∧ μ = w.length - i) rfl rfl ?_ _ _ ⟨0, rfl, rfl, ⟨Nat.zero_le _, by simp [decV]⟩, rfl⟩ (by repeat' first | exact trivial | refine And.intro rfl ?_)
      rintro _ _ _ ⟨i, rfl, rfl, ⟨h1, h2⟩, rfl⟩ ih
      by_cases h3 : i < w.length
      · have hdi := hd i h3
        have hb : (w.getD i 0).toNat = bAt w i := rfl
        have hstep : decV (w.take (i + 1)) = 10 * decV (w.take i) + (bAt w i - 48) := by
          have hg : w[i] = w.getD i 0 := by simp [List.getD, h3]
          rw [List.take_succ_eq_append_getElem h3, decV_snoc, hg, hb]
        have hmono := decV_mono (l := w) (i := i + 1) (by omega)
        have e3 : (-9223372036854775808 : Int) + (((w.getD i 0).toNat - 48 : Nat) : Int) = -((9223372036854775808 - ((w.getD i 0).toNat - 48) : Nat) : Int) := by omega
        have e4 : 10 * (-((decV (w.take i) : Nat) : Int)) - (((w.getD i 0).toNat - 48 : Nat) : Int) = -((decV (w.take (i + 1)) : Nat) : Int) := by rw [hstep, hb]; omega
        generalize hN : 9223372036854775808 - ((w.getD i 0).toNat - 48) = N at *
        by_cases h4 : decV (w.take (i + 1)) ≤ 9223372036854775808
        · have h5 : ¬ (-((decV (w.take i) : Nat) : Int) < -((N / 10 : Nat) : Int)) := by omega
          repeat' (first | ((with_reducible apply T.subU8N (n := 48)); apply rfl; apply rfl; omega; apply rfl) | (apply T.addI; apply rfl; apply rfl; omega; apply rfl; rw [e3]) | (refine T.quoNeg 10 rfl rfl (by omega) rfl ?_) | (apply T.subI; apply rfl; apply rfl; omega; apply rfl; rw [e4]) | (apply T.slen; apply rfl; apply rfl) | (apply T.sidx; apply rfl; apply rfl; omega; apply rfl) | (apply T.mv; apply rfl; apply rfl) | (apply T.asn; apply rfl; apply rfl) | (apply T.fieldAddrZ; apply rfl; apply rfl) | (apply T.load; apply rfl; apply rfl; infer_instance; apply rfl; apply rfl) | (apply T.lss; apply rfl; apply rfl; apply rfl) | (apply T.addI; apply rfl; apply rfl; omega; apply rfl) | (apply T.mulI; apply rfl; apply rfl; omega; apply rfl) | (apply T.convI64; apply rfl; omega; apply rfl) | with_reducible refine Sr.nil ?_ | with_reducible refine S.seq ?_ | with_reducible refine S.block ?_ | with_reducible refine S.reg ?_ | with_reducible refine S.skip ?_ | with_reducible refine S.inBlock ?_ | (apply S.condQ; apply rfl; all_goals (intro _; try (exfalso; first | omega | with_reducible contradiction))) | fail)
          exact ih _ _ _ _ ⟨i + 1, rfl, rfl, ⟨by omega, h4⟩, rfl⟩ (by omega) (by repeat' first | exact trivial | refine And.intro rfl ?_)
        · have hv : whole64 mi (decV w) = (0, false) := by
            unfold whole64
            cases mi
            · rw [if_neg (by simp), if_neg (by omega)]
            · rw [if_pos rfl, if_neg (by omega)]
          have h5 : -((decV (w.take i) : Nat) : Int) < -((N / 10 : Nat) : Int) := by omega
          rw [hv]
          repeat' (first | ((with_reducible apply T.subU8N (n := 48)); apply rfl; apply rfl; omega; apply rfl) | (apply T.addI; apply rfl; apply rfl; omega; apply rfl; rw [e3]) | (refine T.quoNeg 10 rfl rfl (by omega) rfl ?_) | (apply T.slen; apply rfl; apply rfl) | (apply T.sidx; apply rfl; apply rfl; omega; apply rfl) | (apply T.mv; apply rfl; apply rfl) | (apply T.asn; apply rfl; apply rfl) | (apply T.fieldAddrZ; apply rfl; apply rfl) | (apply T.load; apply rfl; apply rfl; infer_instance; apply rfl; apply rfl) | (apply T.lss; apply rfl; apply rfl; apply rfl) | (apply T.convI64; apply rfl; omega; apply rfl) | with_reducible refine Sr.nil ?_ | with_reducible refine S.seq ?_ | with_reducible refine S.block ?_ | with_reducible refine S.reg ?_ | with_reducible refine S.skip ?_ | (apply S.condQ; apply rfl; all_goals (intro _; try (exfalso; first | omega | with_reducible contradiction))) | (apply T.retW; apply rfl) | fail)
          exact ⟨_, PSub.drop (PSub.refl _), rfl, rfl⟩
      · obtain rfl : i = w.length := by omega
        rw [List.take_length] at h2 ⊢
        unfold whole64
        cases mi with
        | true =>
          rw [if_pos rfl, if_pos h2]
          repeat' (first | (apply T.slen; apply rfl; apply rfl) | (apply T.mv; apply rfl; apply rfl) | (apply T.asn; apply rfl; apply rfl) | (apply T.fieldAddrZ; apply rfl; apply rfl) | (apply T.load; apply rfl; apply rfl; infer_instance; apply rfl; apply rfl) | (apply T.lss; apply rfl; apply rfl; apply rfl) | with_reducible refine Sr.nil ?_ | with_reducible refine S.seq ?_ | with_reducible refine S.reg ?_ | (apply S.exit; apply rfl) | (apply S.condTV; apply rfl; (first | with_reducible rfl | decide)) | (apply S.condQ; apply rfl; all_goals (intro _; try (exfalso; first | omega | with_reducible contradiction))) | (apply T.retW; apply rfl) | fail)
          exact ⟨_, PSub.drop (PSub.refl _), rfl, rfl⟩
        | false =>
          rw [if_neg (by simp)]
          by_cases h5 : decV w < 9223372036854775808
          · rw [if_pos h5]
            have e5 : (0 : Int) - -((decV w : Nat) : Int) = ((decV w : Nat) : Int) := by omega
            repeat' (first | (refine T.negI rfl (by omega) rfl ?_; rw [e5]) | (apply T.slen; apply rfl; apply rfl) | (apply T.mv; apply rfl; apply rfl) | (apply T.asn; apply rfl; apply rfl) | (apply T.fieldAddrZ; apply rfl; apply rfl) | (apply T.load; apply rfl; apply rfl; infer_instance; apply rfl; apply rfl) | (apply T.lss; apply rfl; apply rfl; apply rfl) | (apply T.eql; apply rfl; apply rfl; apply rfl) | with_reducible refine Sr.nil ?_ | with_reducible refine S.seq ?_ | with_reducible refine S.reg ?_ | with_reducible refine S.skip ?_ | (apply S.exit; apply rfl) | (apply S.condFV; apply rfl; (first | with_reducible rfl | decide)) | (apply S.condQ; apply rfl; all_goals (intro _; try (exfalso; first | omega | with_reducible contradiction))) | (apply T.retW; apply rfl) | fail)
            exact ⟨_, PSub.drop (PSub.refl _), rfl, rfl⟩
          · rw [if_neg h5]
            repeat' (first | (apply T.slen; apply rfl; apply rfl) | (apply T.mv; apply rfl; apply rfl) | (apply T.asn; apply rfl; apply rfl) | (apply T.fieldAddrZ; apply rfl; apply rfl) | (apply T.load; apply rfl; apply rfl; infer_instance; apply rfl; apply rfl) | (apply T.lss; apply rfl; apply rfl; apply rfl) | (apply T.eql; apply rfl; apply rfl; apply rfl) | with_reducible refine Sr.nil ?_ | with_reducible refine S.seq ?_ | with_reducible refine S.reg ?_ | with_reducible refine S.skip ?_ | (apply S.exit; apply rfl) | (apply S.condFV; apply rfl; (first | with_reducible rfl | decide)) | (apply S.condQ; apply rfl; all_goals (intro _; try (exfalso; first | omega | with_reducible contradiction))) | (apply T.retW; apply rfl) | fail)
            exact ⟨_, PSub.drop (PSub.refl _), rfl, rfl⟩
end
end Go.Proofs.YtnimcchalinihaaDoor
/- The walks of the document's looks at nodes: is a text well formed, may a node stand there. -/
namespace Sg
open Go
theorem valid_seq {t : List UInt8} {p : Nat} (hp : p < t.length) (h : 128 ≤ (t.getD p 0).toNat) : match sequX t p (t.getD p 0) with
    | .ok a _ => Lib.validD (t.drop p) = Lib.validD (t.drop a) ∧ p + 2 ≤ a ∧ a ≤ t.length
    | .bad e _ => Lib.validD (t.drop p) = false ∧ e ≠ 0 := by
  have hc : t[p]? = some (t.getD p 0) := by simp [List.getD, hp]
  have h1 := seq_says hc h
  have hne : t.drop p ≠ [] := fun e => by
    have := congrArg List.length e
    rw [List.length_drop, List.length_nil] at this
    omega
  have h2 := Lib.validD_step (t.drop p) hne
  have h3 := Lib.decodeL_N (t.drop p)
  rw [List.length_drop, Lib.getD_dropU, Lib.getD_dropU, Lib.getD_dropU, Lib.getD_dropU, Nat.add_zero] at h3
  cases hs : sequX t p (t.getD p 0) with
  | ok a u =>
    rw [hs] at h1
    obtain ⟨h4, h5, h6⟩ := h1
    rw [← show Lib.decodeL (t.drop p) = Lib.decodeN (t.length - p) (t.getD p 0).toNat (bAt t (p + 1)) (bAt t (p + 2)) (bAt t (p + 3)) from h3] at h4
    simp only
    rw [h2, if_neg (fun h => by omega), h4, List.drop_drop, show p + (a - p) = a by omega]
    exact ⟨rfl, h5, h6⟩
  | bad e q =>
    rw [hs] at h1
    obtain ⟨h4, h5⟩ := h1
    rw [← show Lib.decodeL (t.drop p) = Lib.decodeN (t.length - p) (t.getD p 0).toNat (bAt t (p + 1)) (bAt t (p + 2)) (bAt t (p + 3)) from h3] at h4
    simp only
    rw [h2, h4, if_pos ⟨rfl, rfl⟩]
    exact ⟨rfl, by omega⟩
theorem valid_one {t : List UInt8} {p : Nat} (hp : p < t.length) (h : (t.getD p 0).toNat < 128) : Lib.validD (t.drop p) = Lib.validD (t.drop (p + 1)) := by
  rw [List.drop_eq_getElem_cons hp]
  exact Lib.validD_cons _ _ (by simpa [List.getD, hp] using h)
end Sg
namespace Go.Proofs.YtnimcchalinihaaDoor
open Sg Go.IntWalk
set_option maxRecDepth 100000
set_option maxHeartbeats 4000000
section
variable {F : World} {M : List Nat} {H : List Res} {t : List UInt8}
theorem refUtf_spec (hl : t.length ≤ 1000000000) : Meets Tryd.prog 57 [sV t] F M H (fun e H' => e = .returned (.bool (Lib.validD t)) ∧ H' = H) := by
  refine Meets.enter Tryd.func57 rfl rfl ?_
  generalize hQ : Lib.validD t = Q
  repeat' (first | (apply T.asn; apply rfl; apply rfl) | with_reducible refine Sr.nil ?_ | with_reducible refine S.seq ?_ | with_reducible refine S.block ?_ | with_reducible refine S.reg ?_ | fail)
  refine S.loopE 0 [0] (fun R b' μ H' e => ∃ p : Nat, H' = R ∧ e = (3, .int .i64 p) :: b' ∧ (p ≤ t.length ∧ Lib.validD (t.drop p) = Q) ∧ μ = t.length - p) rfl rfl ?_ _ _ ⟨0, rfl, rfl, ⟨Nat.zero_le _, hQ⟩, rfl⟩ (by repeat' first | exact trivial | refine And.intro rfl ?_)
  rintro _ _ _ ⟨p, hR1, rfl, ⟨h1, h2⟩, rfl⟩ ih
  subst hR1
  by_cases h3 : p < t.length
  · by_cases h4 : (t.getD p 0).toNat < 128
    · have h5 := valid_one h3 h4
      repeat' (first | (apply T.slen; apply rfl; apply rfl) | (apply T.sidx; apply rfl; apply rfl; omega; apply rfl) | (apply T.mv; apply rfl; apply rfl) | (apply T.asn; apply rfl; apply rfl) | (apply T.lss; apply rfl; apply rfl; apply rfl) | (apply T.addI; apply rfl; apply rfl; omega; apply rfl) | with_reducible refine Sr.nil ?_ | with_reducible refine S.seq ?_ | with_reducible refine S.block ?_ | with_reducible refine S.reg ?_ | with_reducible refine S.skip ?_ | (apply S.exit; apply rfl) | (apply S.condQ; apply rfl; all_goals (intro _; try (exfalso; first | omega | with_reducible contradiction))) | fail)
      exact ih _ _ _ _ ⟨p + 1, rfl, rfl, ⟨h3, by rw [← h5, h2]⟩, rfl⟩ (by omega) (by repeat' first | exact trivial | refine And.intro rfl ?_)
    · have h5 := valid_seq h3 (by omega)
      repeat' (first | (apply T.slen; apply rfl; apply rfl) | (apply T.sidx; apply rfl; apply rfl; omega; apply rfl) | (apply T.mv; apply rfl; apply rfl) | (apply T.lss; apply rfl; apply rfl; apply rfl) | with_reducible refine Sr.nil ?_ | with_reducible refine S.seq ?_ | with_reducible refine S.block ?_ | with_reducible refine S.reg ?_ | with_reducible refine S.skip ?_ | (apply S.condQ; apply rfl; all_goals (intro _; try (exfalso; first | omega | with_reducible contradiction))) | fail)
      refine T.call rfl rfl (refSequence_spec h3 hl) ?_
      cases hs : sequX t p (t.getD p 0) with
      | ok a u =>
        rw [hs] at h5
        obtain ⟨h6, h7, h8⟩ := h5
        rintro _ _ ⟨rfl, rfl⟩
        repeat' (first | (apply T.asn; apply rfl; apply rfl) | (apply T.fieldAddrZ; apply rfl; apply rfl) | (apply T.load; apply rfl; apply rfl; infer_instance; apply rfl; apply rfl) | (apply T.neq; apply rfl; apply rfl; apply rfl) | (apply T.storeW; apply rfl; apply rfl; infer_instance; (first | rfl | (simp only [List.length_append, List.length_map, List.length_set, List.length_replicate, List.length_cons, List.length_nil]; first | done | omega)); (first | rfl | (simp only [List.length_append, List.length_map, List.length_set, List.length_replicate, List.length_cons, List.length_nil]; first | done | omega)); (first | rfl | (repeat' first | apply all_nV | apply all_bV | apply all_iV | rfl | apply all_app))) | (apply T.alloc; apply rfl; intro nb) | with_reducible refine Sr.nil ?_ | with_reducible refine S.seq ?_ | with_reducible refine S.reg ?_ | with_reducible refine S.skip ?_ | with_reducible refine S.inBlock ?_ | (apply S.condFV; apply rfl; (first | with_reducible rfl | decide)) | (with_reducible apply T.ofRet) | fail)
        refine S.sublist ?_ (PSub.drop (PSub.refl _))
        exact ih _ _ _ _ ⟨a, rfl, rfl, ⟨h8, by rw [← h6, h2]⟩, rfl⟩ (by omega) (by repeat' first | exact trivial | refine And.intro rfl ?_)
      | bad e q =>
        rw [hs] at h5
        obtain ⟨h6, h7⟩ := h5
        have h8 : Q = false := by rw [← h2, h6]
        subst h8
        rintro _ _ ⟨rfl, rfl⟩
        repeat' (first | (apply T.asn; apply rfl; apply rfl) | (apply T.fieldAddrZ; apply rfl; apply rfl) | (apply T.load; apply rfl; apply rfl; infer_instance; apply rfl; apply rfl) | (apply T.neq; apply rfl; apply rfl; apply rfl) | (apply T.storeW; apply rfl; apply rfl; infer_instance; (first | rfl | (simp only [List.length_append, List.length_map, List.length_set, List.length_replicate, List.length_cons, List.length_nil]; first | done | omega)); (first | rfl | (simp only [List.length_append, List.length_map, List.length_set, List.length_replicate, List.length_cons, List.length_nil]; first | done | omega)); (first | rfl | (repeat' first | apply all_nV | apply all_bV | apply all_iV | rfl | apply all_app))) | (apply T.alloc; apply rfl; intro nb) | with_reducible refine Sr.nil ?_ | with_reducible refine S.seq ?_ | with_reducible refine S.reg ?_ | (apply S.condQ; apply rfl; all_goals (intro _; try (exfalso; first | omega | with_reducible contradiction))) | (apply T.retW; apply rfl) | (with_reducible apply T.ofRet) | fail)
        exact ⟨_, PSub.drop (PSub.refl _), rfl, rfl⟩
  · obtain rfl : p = t.length := by omega
    have h8 : Q = true := by rw [← h2, List.drop_length]; rfl
    subst h8
    repeat' (first | (apply T.slen; apply rfl; apply rfl) | (apply T.mv; apply rfl; apply rfl) | (apply T.asn; apply rfl; apply rfl) | (apply T.lss; apply rfl; apply rfl; apply rfl) | with_reducible refine Sr.nil ?_ | with_reducible refine S.seq ?_ | with_reducible refine S.reg ?_ | (apply S.exit; apply rfl) | (apply S.condQ; apply rfl; all_goals (intro _; try (exfalso; first | omega | with_reducible contradiction))) | (apply T.retW; apply rfl) | fail)
    exact ⟨_, PSub.refl _, rfl, rfl⟩
theorem refValid_spec (hl : t.length ≤ 1100000) : Meets Tryd.prog 86 [sV t] F M H (fun e H' => e = .returned (.bool (numP t).isSome) ∧ H' = H) := by
  refine Meets.enter Tryd.func86 rfl rfl ?_
  repeat' (first | (apply T.mv; apply rfl; apply rfl) | (apply T.asn; apply rfl; apply rfl) | with_reducible refine Sr.nil ?_ | with_reducible refine S.seq ?_ | with_reducible refine S.reg ?_ | fail)
  refine T.call rfl rfl (refRead_spec hl) ?_
  rintro _ _ ⟨mi, pl, dn, w, da, ea, dm, dc, em, ec, off, rfl, hH, hx⟩
  have hH2 := hH.symm
  subst hH2
  repeat' (first | (apply T.mv; apply rfl; apply rfl) | (apply T.asn; apply rfl; apply rfl) | (apply T.extract; apply rfl; apply rfl; apply rfl) | (apply T.storeW; apply rfl; apply rfl; infer_instance; (first | rfl | (simp only [List.length_append, List.length_map, List.length_set, List.length_replicate, List.length_cons, List.length_nil]; first | done | omega)); (first | rfl | (simp only [List.length_append, List.length_map, List.length_set, List.length_replicate, List.length_cons, List.length_nil]; first | done | omega)); (first | rfl | (repeat' first | apply all_nV | apply all_bV | apply all_iV | rfl | apply all_app))) | (apply T.alloc; apply rfl; intro nb) | with_reducible refine Sr.nil ?_ | with_reducible refine S.seq ?_ | with_reducible refine S.reg ?_ | (apply T.retW; apply rfl) | (with_reducible apply T.ofRet) | fail)
  exact ⟨_, PSub.drop (PSub.refl _), rfl, rfl⟩
theorem refPlain_spec {n : Nd} (hl : n.text.length ≤ 1100000) : Meets Tryd.prog 56 [.agg ⟨ndV n⟩] F M H (fun e H' => e = .returned (.bool (plainX Lib.validD n)) ∧ H' = H) := by
  refine Meets.enter Tryd.func56 rfl rfl ?_
  unfold plainX
  by_cases h1 : n.kind < 1 ∨ 7 < n.kind ∨ n.kids < 0 ∨ (0 < n.kids ∧ n.kind ≠ 6 ∧ n.kind ≠ 7)
  · rw [if_pos h1]
    by_cases a1 : n.kind < 1
    · repeat' (first | (apply T.mv; apply rfl; apply rfl) | (apply T.asn; apply rfl; apply rfl) | (apply T.fieldAddrZ; apply rfl; apply rfl) | (apply T.load; apply rfl; apply rfl; infer_instance; apply rfl; apply rfl) | (apply T.lss; apply rfl; apply rfl; apply rfl) | (apply T.pickT; apply rfl; apply rfl; apply rfl) | (apply T.box; apply rfl; apply rfl; intro nb) | with_reducible refine Sr.nil ?_ | with_reducible refine S.seq ?_ | with_reducible refine S.reg ?_ | (apply T.skip; apply rfl; (first | with_reducible rfl | decide); apply rfl) | (apply T.skipU; apply rfl; apply rfl) | (apply S.condTV; apply rfl; (first | with_reducible rfl | decide)) | (apply T.gcase; apply rfl; apply rfl; all_goals (intro _; try (exfalso; first | omega | with_reducible contradiction))) | (apply T.retW; apply rfl) | fail)
      exact ⟨_, PSub.drop (PSub.refl _), rfl, rfl⟩
    by_cases a2 : 7 < n.kind
    · repeat' (first | (apply T.mv; apply rfl; apply rfl) | (apply T.asn; apply rfl; apply rfl) | (apply T.fieldAddrZ; apply rfl; apply rfl) | (apply T.load; apply rfl; apply rfl; infer_instance; apply rfl; apply rfl) | (apply T.lss; apply rfl; apply rfl; apply rfl) | (apply T.gtr; apply rfl; apply rfl; apply rfl) | (apply T.pickT; apply rfl; apply rfl; apply rfl) | (apply T.pickF; apply rfl; apply rfl; apply rfl) | (apply T.box; apply rfl; apply rfl; intro nb) | with_reducible refine Sr.nil ?_ | with_reducible refine S.seq ?_ | with_reducible refine S.reg ?_ | (apply T.ungV; apply rfl; (first | with_reducible rfl | decide)) | (apply T.skip; apply rfl; (first | with_reducible rfl | decide); apply rfl) | (apply T.skipU; apply rfl; apply rfl) | (apply S.condTV; apply rfl; (first | with_reducible rfl | decide)) | (apply T.gcase; apply rfl; apply rfl; all_goals (intro _; try (exfalso; first | omega | with_reducible contradiction))) | (apply T.retW; apply rfl) | fail)
      exact ⟨_, PSub.drop (PSub.refl _), rfl, rfl⟩
    by_cases a3 : n.kids < 0
    · repeat' (first | (apply T.mv; apply rfl; apply rfl) | (apply T.asn; apply rfl; apply rfl) | (apply T.fieldAddrZ; apply rfl; apply rfl) | (apply T.load; apply rfl; apply rfl; infer_instance; apply rfl; apply rfl) | (apply T.lss; apply rfl; apply rfl; apply rfl) | (apply T.gtr; apply rfl; apply rfl; apply rfl) | (apply T.pickT; apply rfl; apply rfl; apply rfl) | (apply T.pickF; apply rfl; apply rfl; apply rfl) | (apply T.box; apply rfl; apply rfl; intro nb) | with_reducible refine Sr.nil ?_ | with_reducible refine S.seq ?_ | with_reducible refine S.reg ?_ | (apply T.ungV; apply rfl; (first | with_reducible rfl | decide)) | (apply T.skip; apply rfl; (first | with_reducible rfl | decide); apply rfl) | (apply T.skipU; apply rfl; apply rfl) | (apply S.condTV; apply rfl; (first | with_reducible rfl | decide)) | (apply T.gcase; apply rfl; apply rfl; all_goals (intro _; try (exfalso; first | omega | with_reducible contradiction))) | (apply T.retW; apply rfl) | fail)
      exact ⟨_, PSub.drop (PSub.refl _), rfl, rfl⟩
    have a4 : 0 < n.kids := by omega
    have a5 : n.kind < 6 := by omega
    repeat' (first | (apply T.mv; apply rfl; apply rfl) | (apply T.asn; apply rfl; apply rfl) | (apply T.fieldAddrZ; apply rfl; apply rfl) | (apply T.load; apply rfl; apply rfl; infer_instance; apply rfl; apply rfl) | (apply T.lss; apply rfl; apply rfl; apply rfl) | (apply T.gtr; apply rfl; apply rfl; apply rfl) | (apply T.pickT; apply rfl; apply rfl; apply rfl) | (apply T.pickF; apply rfl; apply rfl; apply rfl) | (apply T.box; apply rfl; apply rfl; intro nb) | with_reducible refine Sr.nil ?_ | with_reducible refine S.seq ?_ | with_reducible refine S.reg ?_ | (apply T.ungV; apply rfl; (first | with_reducible rfl | decide)) | (apply S.condQ; apply rfl; all_goals (intro _; try (exfalso; first | omega | with_reducible contradiction))) | (apply T.gcase; apply rfl; apply rfl; all_goals (intro _; try (exfalso; first | omega | with_reducible contradiction))) | (apply T.retW; apply rfl) | fail)
    exact ⟨_, PSub.drop (PSub.refl _), rfl, rfl⟩
  rw [if_neg h1]
  have b1 : ¬ n.kind < 1 := fun h => h1 (.inl h)
  have b2 : ¬ 7 < n.kind := fun h => h1 (.inr (.inl h))
  have b3 : ¬ n.kids < 0 := fun h => h1 (.inr (.inr (.inl h)))
  have b4 : ¬ 0 < n.kids ∨ ¬ n.kind < 6 := by omega
  have key : ∀ {x : Bool}, x = (if n.kind = 4 then (numP n.text).isSome && (n.whole == (wholeX n.text).2) && decide (n.int = (wholeX n.text).1) else if n.whole = true ∨ n.int ≠ 0 then false else if n.kind = 5 then Lib.validD n.text else decide (n.text = [])) → x = (if n.kind = 4 then (numP n.text).isSome && (n.whole == (wholeX n.text).2) && decide (n.int = (wholeX n.text).1) else if n.whole = true ∨ n.int ≠ 0 then false else if n.kind = 5 then Lib.validD n.text else decide (n.text = [])) := fun h => h
  generalize hQ : (if n.kind = 4 then (numP n.text).isSome && (n.whole == (wholeX n.text).2) && decide (n.int = (wholeX n.text).1) else if n.whole = true ∨ n.int ≠ 0 then false else if n.kind = 5 then Lib.validD n.text else decide (n.text = [])) = Q at *
  clear key
  by_cases c0 : 0 < n.kids
  · have c6 : ¬ n.kind < 6 := by omega
    have c4 : ¬ n.kind = 4 := by omega
    have c5 : ¬ n.kind = 5 := by omega
    rw [if_neg c4, if_neg c5] at hQ
    repeat' (first | (apply T.mv; apply rfl; apply rfl) | (apply T.asn; apply rfl; apply rfl) | (apply T.fieldAddrZ; apply rfl; apply rfl) | (apply T.load; apply rfl; apply rfl; infer_instance; apply rfl; apply rfl) | (apply T.lss; apply rfl; apply rfl; apply rfl) | (apply T.gtr; apply rfl; apply rfl; apply rfl) | (apply T.pickT; apply rfl; apply rfl; apply rfl) | (apply T.pickF; apply rfl; apply rfl; apply rfl) | (apply T.box; apply rfl; apply rfl; intro nb) | with_reducible refine Sr.nil ?_ | with_reducible refine S.seq ?_ | with_reducible refine S.reg ?_ | with_reducible refine S.skip ?_ | (apply T.ungV; apply rfl; (first | with_reducible rfl | decide)) | (apply S.condQ; apply rfl; all_goals (intro _; try (exfalso; first | omega | with_reducible contradiction))) | (apply T.gcase; apply rfl; apply rfl; all_goals (intro _; try (exfalso; first | omega | with_reducible contradiction))) | fail)
    refine T.call rfl rfl (refWhole_spec hl) ?_
    rintro _ _ ⟨rfl, rfl⟩
    repeat' (first | (apply T.mv; apply rfl; apply rfl) | (apply T.asn; apply rfl; apply rfl) | (apply T.fieldAddrZ; apply rfl; apply rfl) | (apply T.load; apply rfl; apply rfl; infer_instance; apply rfl; apply rfl) | (apply T.extract; apply rfl; apply rfl; apply rfl) | with_reducible refine Sr.nil ?_ | with_reducible refine S.seq ?_ | with_reducible refine S.reg ?_ | (with_reducible apply T.ofRet) | fail)
    refine T.call rfl rfl (refValid_spec hl) ?_
    rintro _ _ ⟨rfl, rfl⟩
    repeat' (first | (apply T.asn; apply rfl; apply rfl) | (apply T.fieldAddrZ; apply rfl; apply rfl) | (apply T.load; apply rfl; apply rfl; infer_instance; apply rfl; apply rfl) | with_reducible refine Sr.nil ?_ | with_reducible refine S.seq ?_ | with_reducible refine S.reg ?_ | (with_reducible apply T.ofRet) | fail)
    refine T.call rfl rfl (refUtf_spec (by omega)) ?_
    rintro _ _ ⟨rfl, rfl⟩
    by_cases w1 : n.whole = true
    · rw [if_pos (.inl w1)] at hQ
      subst hQ
      repeat' (first | (apply T.mv; apply rfl; apply rfl) | (apply T.asn; apply rfl; apply rfl) | (apply T.fieldAddrZ; apply rfl; apply rfl) | (apply T.load; apply rfl; apply rfl; infer_instance; apply rfl; apply rfl) | (apply T.eql; apply rfl; apply rfl; apply rfl) | with_reducible refine Sr.nil ?_ | with_reducible refine S.seq ?_ | with_reducible refine S.block ?_ | with_reducible refine S.reg ?_ | (apply S.condQ; apply rfl; all_goals (intro _; try (exfalso; first | omega | with_reducible contradiction))) | (with_reducible apply T.ofRet) | fail)
      rw [w1]
      repeat' (first | (apply T.asn; apply rfl; apply rfl) | (apply T.pickT; apply rfl; apply rfl; apply rfl) | with_reducible refine Sr.nil ?_ | with_reducible refine S.seq ?_ | with_reducible refine S.reg ?_ | (apply T.skip; apply rfl; (first | with_reducible rfl | decide); apply rfl) | (apply S.condTV; apply rfl; (first | with_reducible rfl | decide)) | (apply T.retW; apply rfl) | fail)
      exact ⟨_, PSub.drop (PSub.refl _), rfl, rfl⟩
    have w1' : n.whole = false := by simpa using w1
    by_cases w2 : n.int = 0
    · rw [if_neg (by simp [w1', w2])] at hQ
      repeat' (first | (apply T.mv; apply rfl; apply rfl) | (apply T.asn; apply rfl; apply rfl) | (apply T.fieldAddrZ; apply rfl; apply rfl) | (apply T.load; apply rfl; apply rfl; infer_instance; apply rfl; apply rfl) | (apply T.eql; apply rfl; apply rfl; apply rfl) | with_reducible refine Sr.nil ?_ | with_reducible refine S.seq ?_ | with_reducible refine S.block ?_ | with_reducible refine S.reg ?_ | (apply S.condQ; apply rfl; all_goals (intro _; try (exfalso; first | omega | with_reducible contradiction))) | (with_reducible apply T.ofRet) | fail)
      rw [w1']
      repeat' (first | (apply T.seql; apply rfl; apply rfl; apply rfl) | (apply T.mv; apply rfl; apply rfl) | (apply T.asn; apply rfl; apply rfl) | (apply T.fieldAddrZ; apply rfl; apply rfl) | (apply T.load; apply rfl; apply rfl; infer_instance; apply rfl; apply rfl) | (apply T.eql; apply rfl; apply rfl; apply rfl) | (apply T.neq; apply rfl; apply rfl; apply rfl) | (apply T.pickF; apply rfl; apply rfl; apply rfl) | with_reducible refine Sr.nil ?_ | with_reducible refine S.seq ?_ | with_reducible refine S.reg ?_ | with_reducible refine S.skip ?_ | with_reducible refine S.inBlock ?_ | (apply T.ungV; apply rfl; (first | with_reducible rfl | decide)) | (apply S.condQ; apply rfl; all_goals (intro _; try (exfalso; first | omega | with_reducible contradiction))) | (apply T.retW; apply rfl) | fail)
      exact ⟨_, PSub.drop (PSub.refl _), by rw [← hQ], rfl⟩
    · rw [if_pos (.inr w2)] at hQ
      subst hQ
      repeat' (first | (apply T.mv; apply rfl; apply rfl) | (apply T.asn; apply rfl; apply rfl) | (apply T.fieldAddrZ; apply rfl; apply rfl) | (apply T.load; apply rfl; apply rfl; infer_instance; apply rfl; apply rfl) | (apply T.eql; apply rfl; apply rfl; apply rfl) | with_reducible refine Sr.nil ?_ | with_reducible refine S.seq ?_ | with_reducible refine S.block ?_ | with_reducible refine S.reg ?_ | (apply S.condQ; apply rfl; all_goals (intro _; try (exfalso; first | omega | with_reducible contradiction))) | (with_reducible apply T.ofRet) | fail)
      rw [w1']
      repeat' (first | (apply T.asn; apply rfl; apply rfl) | (apply T.fieldAddrZ; apply rfl; apply rfl) | (apply T.load; apply rfl; apply rfl; infer_instance; apply rfl; apply rfl) | (apply T.neq; apply rfl; apply rfl; apply rfl) | (apply T.pickF; apply rfl; apply rfl; apply rfl) | with_reducible refine Sr.nil ?_ | with_reducible refine S.seq ?_ | with_reducible refine S.reg ?_ | (apply T.ungV; apply rfl; (first | with_reducible rfl | decide)) | (apply S.condQ; apply rfl; all_goals (intro _; try (exfalso; first | omega | with_reducible contradiction))) | (apply T.retW; apply rfl) | fail)
      exact ⟨_, PSub.drop (PSub.refl _), rfl, rfl⟩
  · repeat' (first | (apply T.mv; apply rfl; apply rfl) | (apply T.asn; apply rfl; apply rfl) | (apply T.fieldAddrZ; apply rfl; apply rfl) | (apply T.load; apply rfl; apply rfl; infer_instance; apply rfl; apply rfl) | (apply T.lss; apply rfl; apply rfl; apply rfl) | (apply T.gtr; apply rfl; apply rfl; apply rfl) | (apply T.pickF; apply rfl; apply rfl; apply rfl) | (apply T.box; apply rfl; apply rfl; intro nb) | with_reducible refine Sr.nil ?_ | with_reducible refine S.seq ?_ | with_reducible refine S.reg ?_ | with_reducible refine S.skip ?_ | (apply T.ungV; apply rfl; (first | with_reducible rfl | decide)) | (apply T.skip; apply rfl; (first | with_reducible rfl | decide); apply rfl) | (apply S.condFV; apply rfl; (first | with_reducible rfl | decide)) | (apply T.gcase; apply rfl; apply rfl; all_goals (intro _; try (exfalso; first | omega | with_reducible contradiction))) | fail)
    refine T.call rfl rfl (refWhole_spec hl) ?_
    rintro _ _ ⟨rfl, rfl⟩
    repeat' (first | (apply T.mv; apply rfl; apply rfl) | (apply T.asn; apply rfl; apply rfl) | (apply T.fieldAddrZ; apply rfl; apply rfl) | (apply T.load; apply rfl; apply rfl; infer_instance; apply rfl; apply rfl) | (apply T.extract; apply rfl; apply rfl; apply rfl) | with_reducible refine Sr.nil ?_ | with_reducible refine S.seq ?_ | with_reducible refine S.reg ?_ | (with_reducible apply T.ofRet) | fail)
    refine T.call rfl rfl (refValid_spec hl) ?_
    rintro _ _ ⟨rfl, rfl⟩
    repeat' (first | (apply T.asn; apply rfl; apply rfl) | (apply T.fieldAddrZ; apply rfl; apply rfl) | (apply T.load; apply rfl; apply rfl; infer_instance; apply rfl; apply rfl) | with_reducible refine Sr.nil ?_ | with_reducible refine S.seq ?_ | with_reducible refine S.reg ?_ | (with_reducible apply T.ofRet) | fail)
    refine T.call rfl rfl (refUtf_spec (by omega)) ?_
    rintro _ _ ⟨rfl, rfl⟩
    by_cases c4 : n.kind = 4
    · rw [if_pos c4] at hQ
      cases d1 : (numP n.text).isSome with
      | false =>
        rw [d1] at hQ
        subst hQ
        repeat' (first | (apply T.mv; apply rfl; apply rfl) | (apply T.asn; apply rfl; apply rfl) | (apply T.eql; apply rfl; apply rfl; apply rfl) | (apply T.pickF; apply rfl; apply rfl; apply rfl) | with_reducible refine Sr.nil ?_ | with_reducible refine S.seq ?_ | with_reducible refine S.block ?_ | with_reducible refine S.reg ?_ | (apply T.skip; apply rfl; (first | with_reducible rfl | decide); apply rfl) | (apply S.condQ; apply rfl; all_goals (intro _; try (exfalso; first | omega | with_reducible contradiction))) | (apply T.retW; apply rfl) | (with_reducible apply T.ofRet) | fail)
        exact ⟨_, PSub.drop (PSub.refl _), rfl, rfl⟩
      | true =>
        rw [d1] at hQ
        repeat' (first | (apply T.mv; apply rfl; apply rfl) | (apply T.asn; apply rfl; apply rfl) | (apply T.fieldAddrZ; apply rfl; apply rfl) | (apply T.load; apply rfl; apply rfl; infer_instance; apply rfl; apply rfl) | (apply T.eql; apply rfl; apply rfl; apply rfl) | with_reducible refine Sr.nil ?_ | with_reducible refine S.seq ?_ | with_reducible refine S.block ?_ | with_reducible refine S.reg ?_ | (apply T.ungV; apply rfl; (first | with_reducible rfl | decide)) | (apply S.condQ; apply rfl; all_goals (intro _; try (exfalso; first | omega | with_reducible contradiction))) | (with_reducible apply T.ofRet) | fail)
        cases w1 : n.whole <;> cases w2 : (wholeX n.text).2
        all_goals
          rw [w1, w2] at hQ
          by_cases w3 : n.int = (wholeX n.text).1
          · repeat' (first | (apply T.eqlB; apply rfl; apply rfl; apply rfl; first | rw [show (true == true) = true from rfl] | rw [show (false == false) = true from rfl] | rw [show (true == false) = false from rfl] | rw [show (false == true) = false from rfl]) | (apply T.mv; apply rfl; apply rfl) | (apply T.asn; apply rfl; apply rfl) | (apply T.fieldAddrZ; apply rfl; apply rfl) | (apply T.load; apply rfl; apply rfl; infer_instance; apply rfl; apply rfl) | (apply T.eql; apply rfl; apply rfl; apply rfl) | (apply T.pickT; apply rfl; apply rfl; apply rfl) | (apply T.pickF; apply rfl; apply rfl; apply rfl) | with_reducible refine Sr.nil ?_ | (apply T.ungV; apply rfl; (first | with_reducible rfl | decide)) | (apply T.skip; apply rfl; (first | with_reducible rfl | decide); apply rfl) | (apply T.retW; apply rfl) | fail)
            all_goals
              refine ⟨_, PSub.drop (PSub.refl _), ?_, rfl⟩
              rw [← hQ]
              first | (simp [w3]; done) | simp
          · have w4 : ¬ (wholeX n.text).1 = n.int := fun h => w3 h.symm
            repeat' (first | (apply T.eqlB; apply rfl; apply rfl; apply rfl; first | rw [show (true == true) = true from rfl] | rw [show (false == false) = true from rfl] | rw [show (true == false) = false from rfl] | rw [show (false == true) = false from rfl]) | (apply T.mv; apply rfl; apply rfl) | (apply T.asn; apply rfl; apply rfl) | (apply T.fieldAddrZ; apply rfl; apply rfl) | (apply T.load; apply rfl; apply rfl; infer_instance; apply rfl; apply rfl) | (apply T.eql; apply rfl; apply rfl; apply rfl) | (apply T.pickT; apply rfl; apply rfl; apply rfl) | (apply T.pickF; apply rfl; apply rfl; apply rfl) | with_reducible refine Sr.nil ?_ | (apply T.ungV; apply rfl; (first | with_reducible rfl | decide)) | (apply T.skip; apply rfl; (first | with_reducible rfl | decide); apply rfl) | (apply T.retW; apply rfl) | fail)
            all_goals
              refine ⟨_, PSub.drop (PSub.refl _), ?_, rfl⟩
              rw [← hQ]
              first | (simp [w3, w4]; done) | simp
    · rw [if_neg c4] at hQ
      by_cases w1 : n.whole = true
      · rw [if_pos (.inl w1)] at hQ
        subst hQ
        repeat' (first | (apply T.mv; apply rfl; apply rfl) | (apply T.asn; apply rfl; apply rfl) | (apply T.fieldAddrZ; apply rfl; apply rfl) | (apply T.load; apply rfl; apply rfl; infer_instance; apply rfl; apply rfl) | (apply T.eql; apply rfl; apply rfl; apply rfl) | with_reducible refine Sr.nil ?_ | with_reducible refine S.seq ?_ | with_reducible refine S.block ?_ | with_reducible refine S.reg ?_ | (apply S.condQ; apply rfl; all_goals (intro _; try (exfalso; first | omega | with_reducible contradiction))) | (with_reducible apply T.ofRet) | fail)
        rw [w1]
        repeat' (first | (apply T.asn; apply rfl; apply rfl) | (apply T.pickT; apply rfl; apply rfl; apply rfl) | with_reducible refine Sr.nil ?_ | with_reducible refine S.seq ?_ | with_reducible refine S.reg ?_ | (apply T.skip; apply rfl; (first | with_reducible rfl | decide); apply rfl) | (apply S.condTV; apply rfl; (first | with_reducible rfl | decide)) | (apply T.retW; apply rfl) | fail)
        exact ⟨_, PSub.drop (PSub.refl _), rfl, rfl⟩
      have w1' : n.whole = false := by simpa using w1
      by_cases w2 : n.int = 0
      · rw [if_neg (by simp [w1', w2])] at hQ
        by_cases c5 : n.kind = 5
        · rw [if_pos c5] at hQ
          repeat' (first | (apply T.mv; apply rfl; apply rfl) | (apply T.asn; apply rfl; apply rfl) | (apply T.fieldAddrZ; apply rfl; apply rfl) | (apply T.load; apply rfl; apply rfl; infer_instance; apply rfl; apply rfl) | (apply T.eql; apply rfl; apply rfl; apply rfl) | with_reducible refine Sr.nil ?_ | with_reducible refine S.seq ?_ | with_reducible refine S.block ?_ | with_reducible refine S.reg ?_ | (apply S.condQ; apply rfl; all_goals (intro _; try (exfalso; first | omega | with_reducible contradiction))) | (with_reducible apply T.ofRet) | fail)
          rw [w1']
          repeat' (first | (apply T.mv; apply rfl; apply rfl) | (apply T.asn; apply rfl; apply rfl) | (apply T.fieldAddrZ; apply rfl; apply rfl) | (apply T.load; apply rfl; apply rfl; infer_instance; apply rfl; apply rfl) | (apply T.eql; apply rfl; apply rfl; apply rfl) | (apply T.neq; apply rfl; apply rfl; apply rfl) | (apply T.pickF; apply rfl; apply rfl; apply rfl) | with_reducible refine Sr.nil ?_ | with_reducible refine S.seq ?_ | with_reducible refine S.reg ?_ | (apply T.ungV; apply rfl; (first | with_reducible rfl | decide)) | (apply S.condQ; apply rfl; all_goals (intro _; try (exfalso; first | omega | with_reducible contradiction))) | (apply T.retW; apply rfl) | fail)
          exact ⟨_, PSub.drop (PSub.refl _), by rw [← hQ], rfl⟩
        · rw [if_neg c5] at hQ
          repeat' (first | (apply T.mv; apply rfl; apply rfl) | (apply T.asn; apply rfl; apply rfl) | (apply T.fieldAddrZ; apply rfl; apply rfl) | (apply T.load; apply rfl; apply rfl; infer_instance; apply rfl; apply rfl) | (apply T.eql; apply rfl; apply rfl; apply rfl) | with_reducible refine Sr.nil ?_ | with_reducible refine S.seq ?_ | with_reducible refine S.block ?_ | with_reducible refine S.reg ?_ | (apply S.condQ; apply rfl; all_goals (intro _; try (exfalso; first | omega | with_reducible contradiction))) | (with_reducible apply T.ofRet) | fail)
          rw [w1']
          repeat' (first | (apply T.seql; apply rfl; apply rfl; apply rfl) | (apply T.mv; apply rfl; apply rfl) | (apply T.asn; apply rfl; apply rfl) | (apply T.fieldAddrZ; apply rfl; apply rfl) | (apply T.load; apply rfl; apply rfl; infer_instance; apply rfl; apply rfl) | (apply T.eql; apply rfl; apply rfl; apply rfl) | (apply T.neq; apply rfl; apply rfl; apply rfl) | (apply T.pickF; apply rfl; apply rfl; apply rfl) | with_reducible refine Sr.nil ?_ | with_reducible refine S.seq ?_ | with_reducible refine S.reg ?_ | with_reducible refine S.skip ?_ | with_reducible refine S.inBlock ?_ | (apply T.ungV; apply rfl; (first | with_reducible rfl | decide)) | (apply S.condQ; apply rfl; all_goals (intro _; try (exfalso; first | omega | with_reducible contradiction))) | (apply T.retW; apply rfl) | fail)
          exact ⟨_, PSub.drop (PSub.refl _), by rw [← hQ], rfl⟩
      · rw [if_pos (.inr w2)] at hQ
        subst hQ
        repeat' (first | (apply T.mv; apply rfl; apply rfl) | (apply T.asn; apply rfl; apply rfl) | (apply T.fieldAddrZ; apply rfl; apply rfl) | (apply T.load; apply rfl; apply rfl; infer_instance; apply rfl; apply rfl) | (apply T.eql; apply rfl; apply rfl; apply rfl) | with_reducible refine Sr.nil ?_ | with_reducible refine S.seq ?_ | with_reducible refine S.block ?_ | with_reducible refine S.reg ?_ | (apply S.condQ; apply rfl; all_goals (intro _; try (exfalso; first | omega | with_reducible contradiction))) | (with_reducible apply T.ofRet) | fail)
        rw [w1']
        repeat' (first | (apply T.asn; apply rfl; apply rfl) | (apply T.fieldAddrZ; apply rfl; apply rfl) | (apply T.load; apply rfl; apply rfl; infer_instance; apply rfl; apply rfl) | (apply T.neq; apply rfl; apply rfl; apply rfl) | (apply T.pickF; apply rfl; apply rfl; apply rfl) | with_reducible refine Sr.nil ?_ | with_reducible refine S.seq ?_ | with_reducible refine S.reg ?_ | (apply T.ungV; apply rfl; (first | with_reducible rfl | decide)) | (apply S.condQ; apply rfl; all_goals (intro _; try (exfalso; first | omega | with_reducible contradiction))) | (apply T.retW; apply rfl) | fail)
        exact ⟨_, PSub.drop (PSub.refl _), rfl, rfl⟩
end
end Go.Proofs.YtnimcchalinihaaDoor
