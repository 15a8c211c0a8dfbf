/- Texts put together by a program: DecQ JrfI JrfJ JrfO JrfK. -/
import Derived.Test.YtddbdgmaaogclaaGreatDoorMc
import Derived.Test.YtddbdgmaaogclaaGreatDoorMg
import Derived.Test.YtddbdgmaaogclaaGreatDoorMh
/- Numbers of JSON texts, in plain Lean: by places in the text. -/
namespace Sg
def fracR (t : List UInt8) (p : Nat) : Option (Nat × Bool) := if bAt t p = 46 then (if digsE t (p + 1) = p + 1 then none else some (digsE t (p + 1), false)) else some (p, true)
def signR (t : List UInt8) (p : Nat) : Nat := if bAt t p = 43 ∨ bAt t p = 45 then p + 1 else p
def expR (t : List UInt8) (p : Nat) : Option (Nat × Bool) := if bAt t p = 101 ∨ bAt t p = 69 then (if digsE t (signR t (p + 1)) = signR t (p + 1) then none else some (digsE t (signR t (p + 1)), false)) else some (p, true)
def minR (t : List UInt8) : Nat := if bAt t 0 = 45 then 1 else 0
/-- A number, by places. -/
def numR (t : List UInt8) : Option (Bool × List UInt8 × Bool) :=
  if digsE t (minR t) = minR t ∨ (bAt t (minR t) = 48 ∧ minR t + 1 < digsE t (minR t)) then none else
  match fracR t (digsE t (minR t)) with
  | none => none
  | some (b, p1) => match expR t b with
    | none => none
    | some (e, p2) => if e = t.length then some (decide (bAt t 0 = 45), sl t (minR t) (digsE t (minR t)), p1 && p2) else none
theorem bAt_drop (t : List UInt8) (p k : Nat) : bAt (t.drop p) k = bAt t (p + k) := by
  unfold bAt
  simp only [List.getD, List.getElem?_drop]
theorem cut_drop {t : List UInt8} {p : Nat} {c : UInt8} (hc : c ≠ 0) : cutP c (t.drop p) = if bAt t p = c.toNat then (t.drop (p + 1), true) else (t.drop p, false) := by
  rcases Nat.lt_or_ge p t.length with h | h
  · have h1 : t.drop p = t[p] :: t.drop (p + 1) := List.drop_eq_getElem_cons h
    have h2 : bAt t p = t[p].toNat := bAt_of (List.getElem?_eq_getElem h)
    rw [h1, h2]
    unfold cutP
    simp only
    by_cases h3 : t[p] = c
    · rw [if_pos h3, if_pos (by rw [h3])]
    · rw [if_neg h3, if_neg (fun h4 => h3 (UInt8.toNat_inj.1 h4))]
  · rw [List.drop_eq_nil_of_le h, bAt_big h, if_neg (fun h1 => hc (UInt8.toNat_inj.1 h1.symm))]
    rfl
theorem run_drop (t : List UInt8) (p : Nat) : runD (t.drop p) = digsE t p - p := by
  unfold runD digsE
  omega
theorem drop_run (t : List UInt8) (p : Nat) : (t.drop p).drop (runD (t.drop p)) = t.drop (digsE t p) := by
  rw [List.drop_drop]
  rfl
theorem sign_drop (t : List UInt8) (p : Nat) : signP (t.drop p) = t.drop (signR t p) := by
  unfold signR
  rcases Nat.lt_or_ge p t.length with h | h
  · have h1 : t.drop p = t[p] :: t.drop (p + 1) := List.drop_eq_getElem_cons h
    have h2 : bAt t p = t[p].toNat := bAt_of (List.getElem?_eq_getElem h)
    rw [h1, h2]
    unfold signP
    simp only
    by_cases h3 : t[p] = 43 ∨ t[p] = 45
    · rw [if_pos h3, if_pos (h3.imp (fun h => by rw [h]; rfl) (fun h => by rw [h]; rfl))]
    · rw [if_neg h3, if_neg (fun h4 => h3 (h4.imp (fun h => UInt8.toNat_inj.1 h) (fun h => UInt8.toNat_inj.1 h))), h1]
  · rw [List.drop_eq_nil_of_le h, bAt_big h, if_neg (by omega), List.drop_eq_nil_of_le h]
    rfl
theorem signR_le {t : List UInt8} {p : Nat} (h : p ≤ t.length) : p ≤ signR t p ∧ signR t p ≤ t.length := by
  unfold signR
  split
  · rename_i h1
    have := bAt_lt_of (t := t) (p := p) (by omega)
    omega
  · omega
theorem digs_len {t : List UInt8} {p : Nat} (h : p ≤ t.length) : p ≤ digsE t p ∧ digsE t p ≤ t.length := ⟨digs_ge t p, digs_le h⟩
theorem frac_drop {t : List UInt8} {p : Nat} (h : p ≤ t.length) : fracP (t.drop p) = (fracR t p).map fun x => (t.drop x.1, x.2) := by
  unfold fracP fracR
  rw [cut_drop (by decide)]
  by_cases h1 : bAt t p = 46
  · have h2 := digs_ge t (p + 1)
    rw [if_pos (show bAt t p = (46 : UInt8).toNat from h1), if_pos h1, if_pos rfl]
    simp only
    rw [run_drop]
    by_cases h3 : digsE t (p + 1) = p + 1
    · rw [if_pos (by omega), if_pos h3]
      rfl
    · rw [if_neg (by omega), if_neg h3]
      have := drop_run t (p + 1)
      rw [run_drop] at this
      rw [this]
      rfl
  · rw [if_neg (show ¬ bAt t p = (46 : UInt8).toNat from h1), if_neg h1, if_neg (by simp)]
    rfl
theorem exp_drop {t : List UInt8} {p : Nat} (h : p ≤ t.length) : expP (t.drop p) = match expR t p with
    | none => none
    | some (e, p2) => if p2 = true then some (t.drop p, true) else if e = t.length then some ([], false) else none := by
  unfold expR
  by_cases h1 : bAt t p = 101 ∨ bAt t p = 69
  · have h0 := bAt_lt_of (t := t) (p := p) (by omega)
    have h2 : t.drop p = t[p] :: t.drop (p + 1) := List.drop_eq_getElem_cons h0
    have h3 : bAt t p = t[p].toNat := bAt_of (List.getElem?_eq_getElem h0)
    have h4 : t[p] = 101 ∨ t[p] = 69 := by
      rw [h3] at h1
      exact h1.imp (fun h => UInt8.toNat_inj.1 h) (fun h => UInt8.toNat_inj.1 h)
    obtain ⟨h5, h6⟩ := signR_le (t := t) (p := p + 1) h0
    obtain ⟨h7, h8⟩ := digs_len h6
    rw [if_pos h1, h2]
    unfold expP
    simp only
    rw [if_pos h4, sign_drop, run_drop, List.length_drop]
    by_cases h9 : digsE t (signR t (p + 1)) = signR t (p + 1)
    · rw [if_pos h9]
      simp only
      by_cases h10 : signR t (p + 1) = t.length
      · rw [if_pos (.inl (List.drop_eq_nil_of_le (by omega)))]
      · rw [if_pos (.inr (by omega))]
    · rw [if_neg h9]
      simp only [Bool.false_eq_true, if_false]
      by_cases h10 : digsE t (signR t (p + 1)) = t.length
      · rw [if_pos h10, if_neg]
        rintro (h11 | h11)
        · have := List.drop_eq_nil_iff.1 h11
          omega
        · omega
      · rw [if_neg h10, if_pos (.inr (by omega))]
  · rw [if_neg h1]
    simp only [if_true]
    rcases Nat.lt_or_ge p t.length with h0 | h0
    · have h2 : t.drop p = t[p] :: t.drop (p + 1) := List.drop_eq_getElem_cons h0
      have h3 : bAt t p = t[p].toNat := bAt_of (List.getElem?_eq_getElem h0)
      rw [h2]
      unfold expP
      simp only
      rw [if_neg (fun h4 => h1 (h4.imp (fun h => by rw [h3, h]; rfl) (fun h => by rw [h3, h]; rfl)))]
    · rw [List.drop_eq_nil_of_le h0]
      rfl
theorem fracR_le {t : List UInt8} {p b : Nat} {x : Bool} (h : p ≤ t.length) (hf : fracR t p = some (b, x)) : b ≤ t.length ∧ p ≤ b := by
  unfold fracR at hf
  split at hf
  · rename_i h1
    have := bAt_lt_of (t := t) (p := p) (by omega)
    have := digs_len (t := t) (p := p + 1) (by omega)
    split at hf
    · cases hf
    · cases hf
      omega
  · cases hf
    omega
theorem minR_le (t : List UInt8) : minR t ≤ t.length := by
  unfold minR
  split
  · rename_i h
    have := bAt_lt_of (t := t) (p := 0) (by omega)
    omega
  · omega
theorem cut_min (t : List UInt8) : cutP 45 t = (t.drop (minR t), decide (bAt t 0 = 45)) := by
  have := cut_drop (t := t) (p := 0) (c := 45) (by decide)
  rw [List.drop_zero] at this
  rw [this]
  unfold minR
  by_cases h : bAt t 0 = 45
  · rw [if_pos (show bAt t 0 = (45 : UInt8).toNat from h), if_pos h, decide_eq_true h]
  · rw [if_neg (show ¬ bAt t 0 = (45 : UInt8).toNat from h), if_neg h, decide_eq_false h]
    rfl
theorem numP_numR (t : List UInt8) : numP t = numR t := by
  have hm := minR_le t
  obtain ⟨hd1, hd2⟩ := digs_len hm
  unfold numP numR
  rw [cut_min]
  simp only
  have hb : intBad (t.drop (minR t)) = true ↔ (digsE t (minR t) = minR t ∨ (bAt t (minR t) = 48 ∧ minR t + 1 < digsE t (minR t))) := by
    unfold intBad
    rw [run_drop, bAt_drop]
    simp only [Nat.add_zero, Bool.or_eq_true, Bool.and_eq_true, decide_eq_true_eq]
    omega
  by_cases h1 : digsE t (minR t) = minR t ∨ (bAt t (minR t) = 48 ∧ minR t + 1 < digsE t (minR t))
  · rw [if_pos (hb.2 h1), if_pos h1]
  · rw [if_neg (fun h => h1 (hb.1 h)), if_neg h1, drop_run, frac_drop hd2]
    have hsl : (t.drop (minR t)).take (runD (t.drop (minR t))) = sl t (minR t) (digsE t (minR t)) := by
      unfold sl
      rw [run_drop]
    cases hf : fracR t (digsE t (minR t)) with
    | none => rfl
    | some y =>
      obtain ⟨b, p1⟩ := y
      obtain ⟨hb2, -⟩ := fracR_le hd2 hf
      simp only [Option.map_some]
      rw [exp_drop hb2]
      cases he : expR t b with
      | none => rfl
      | some z =>
        obtain ⟨e, p2⟩ := z
        simp only
        cases p2 with
        | true =>
          rw [if_pos rfl]
          have : e = b := by
            unfold expR at he
            split at he
            · split at he <;> cases he
            · cases he; rfl
          subst this
          simp only
          rw [hsl]
          by_cases h3 : e = t.length
          · rw [if_pos h3, if_pos (List.drop_eq_nil_of_le (by omega))]
          · rw [if_neg h3, if_neg (fun h4 => by have := List.drop_eq_nil_iff.1 h4; omega)]
        | false =>
          rw [if_neg (by simp)]
          by_cases h3 : e = t.length
          · rw [if_pos h3, if_pos h3]
            simp only
            rw [if_pos trivial, hsl]
          · rw [if_neg h3, if_neg h3]
end Sg
/- The walks of the document's numbers: read. -/
namespace Go.Proofs.YtddbdgmaaogclaaGreatDoor
open Sg Go.IntWalk
set_option maxRecDepth 100000
set_option maxHeartbeats 4000000
section
variable {F : World} {M : List Nat} {H : List Res} {t : List UInt8} {p : Nat}
theorem refDigit_spec : Meets Tryz.prog 268 [sV t, .int .i64 p] F M H (fun e H' => e = .returned (.bool (decide (48 ≤ bAt t p ∧ bAt t p ≤ 57))) ∧ H' = H) := by
  refine Meets.enter Tryz.func268 rfl rfl ?_
  by_cases hp : p < t.length
  · have hb : (t.getD p 0).toNat = bAt t p := rfl
    by_cases hd : 48 ≤ (t.getD p 0).toNat
    · have e : decide (48 ≤ bAt t p ∧ bAt t p ≤ 57) = decide ((((t.getD p 0).toNat : Nat) : Int) ≤ 57) := by rw [decide_eq_decide]; omega
      rw [e]
      repeat' (first | (apply T.slen; apply rfl; apply rfl) | (apply T.sidx; apply rfl; apply rfl; omega; apply rfl) | (apply T.mv; apply rfl; apply rfl) | (apply T.asn; apply rfl; apply rfl) | (apply T.lss; apply rfl; apply rfl; apply rfl) | (apply T.leq; apply rfl; apply rfl; apply rfl) | (apply T.geq; apply rfl; apply rfl; apply rfl) | (apply T.pickT; apply rfl; apply rfl; apply rfl) | with_reducible refine Sr.nil ?_ | with_reducible refine S.seq ?_ | with_reducible refine S.reg ?_ | (apply T.ungV; apply rfl; (first | with_reducible rfl | decide)) | (apply T.gcase; apply rfl; apply rfl; all_goals (intro _; try (exfalso; first | omega | with_reducible contradiction))) | (apply T.retW; apply rfl) | fail)
      exact ⟨_, PSub.refl _, rfl, rfl⟩
    · have e : decide (48 ≤ bAt t p ∧ bAt t p ≤ 57) = false := decide_eq_false (by omega)
      rw [e]
      repeat' (first | (apply T.slen; apply rfl; apply rfl) | (apply T.sidx; apply rfl; apply rfl; omega; apply rfl) | (apply T.mv; apply rfl; apply rfl) | (apply T.asn; apply rfl; apply rfl) | (apply T.lss; apply rfl; apply rfl; apply rfl) | (apply T.geq; apply rfl; apply rfl; apply rfl) | (apply T.pickT; apply rfl; apply rfl; apply rfl) | (apply T.pickF; apply rfl; apply rfl; apply rfl) | with_reducible refine Sr.nil ?_ | with_reducible refine S.seq ?_ | with_reducible refine S.reg ?_ | (apply T.ungV; apply rfl; (first | with_reducible rfl | decide)) | (apply T.skip; apply rfl; (first | with_reducible rfl | decide); apply rfl) | (apply T.gcase; apply rfl; apply rfl; all_goals (intro _; try (exfalso; first | omega | with_reducible contradiction))) | (apply T.retW; apply rfl) | fail)
      exact ⟨_, PSub.refl _, rfl, rfl⟩
  · have hb := bAt_big (t := t) (p := p) (by omega)
    rw [decide_eq_false (by omega)]
    repeat' (first | (apply T.slen; apply rfl; apply rfl) | (apply T.mv; apply rfl; apply rfl) | (apply T.asn; apply rfl; apply rfl) | (apply T.lss; apply rfl; apply rfl; apply rfl) | (apply T.pickF; apply rfl; apply rfl; apply rfl) | with_reducible refine Sr.nil ?_ | with_reducible refine S.seq ?_ | with_reducible refine S.reg ?_ | (apply T.skip; apply rfl; (first | with_reducible rfl | decide); apply rfl) | (apply T.gcase; apply rfl; apply rfl; all_goals (intro _; try (exfalso; first | omega | with_reducible contradiction))) | (apply T.retW; apply rfl) | fail)
    exact ⟨_, PSub.refl _, rfl, rfl⟩
theorem refMany_spec (hp : p ≤ t.length) (hl : t.length ≤ 1000000000) : Meets Tryz.prog 247 [sV t, .int .i64 p] F M H (fun e H' => e = .returned (.int .i64 (digsE t p : Nat)) ∧ H' = H) := by
  refine Meets.enter Tryz.func247 rfl rfl ?_
  repeat' (first | (apply T.asn; apply rfl; apply rfl) | with_reducible refine Sr.nil ?_ | with_reducible refine S.seq ?_ | with_reducible refine S.block ?_ | with_reducible refine S.reg ?_ | fail)
  refine S.loopE 0 [0] (fun R b' μ H' e => ∃ q : Nat, H' = R ∧ e = (1, .int .i64 q) :: b' ∧ (q ≤ t.length ∧ digsE t p = digsE t q) ∧ μ = t.length - q) rfl rfl ?_ _ _ ⟨p, rfl, rfl, ⟨hp, rfl⟩, rfl⟩ (by repeat' first | exact trivial | refine And.intro rfl ?_)
  rintro _ _ _ ⟨q, rfl, rfl, ⟨h1, h2⟩, rfl⟩ ih
  repeat' (first | (apply T.mv; apply rfl; apply rfl) | with_reducible refine S.seq ?_ | with_reducible refine S.reg ?_ | fail)
  refine T.call rfl rfl refDigit_spec ?_
  rintro _ _ ⟨rfl, rfl⟩
  by_cases h3 : 48 ≤ bAt t q ∧ bAt t q ≤ 57
  · have h4 := bAt_lt_of (t := t) (p := q) (by omega)
    have h5 := digsE_yes h3
    rw [decide_eq_true h3]
    repeat' (first | (apply T.mv; apply rfl; apply rfl) | (apply T.asn; apply rfl; apply rfl) | (apply T.addI; apply rfl; apply rfl; omega; apply rfl) | with_reducible refine Sr.nil ?_ | with_reducible refine S.block ?_ | with_reducible refine S.reg ?_ | with_reducible refine S.skip ?_ | with_reducible refine S.inBlock ?_ | (apply S.condTV; apply rfl; (first | with_reducible rfl | decide)) | (with_reducible apply T.ofRet) | fail)
    exact ih _ _ _ _ ⟨q + 1, rfl, rfl, ⟨by omega, h2.trans h5⟩, rfl⟩ (by omega) (by repeat' first | exact trivial | refine And.intro rfl ?_)
  · have h5 := digsE_no h3
    rw [decide_eq_false h3]
    repeat' (first | (apply T.mv; apply rfl; apply rfl) | (apply T.asn; apply rfl; apply rfl) | with_reducible refine Sr.nil ?_ | with_reducible refine S.seq ?_ | with_reducible refine S.reg ?_ | (apply S.exit; apply rfl) | (apply S.condFV; apply rfl; (first | with_reducible rfl | decide)) | (apply T.retW; apply rfl) | (with_reducible apply T.ofRet) | fail)
    rw [h2, h5]
    exact ⟨_, PSub.refl _, rfl, rfl⟩
end
end Go.Proofs.YtddbdgmaaogclaaGreatDoor
/- The walks of the document's numbers: a number's parts. -/
namespace Sg
theorem digsE_digit {t : List UInt8} {p j : Nat} (h1 : p ≤ j) (h2 : j < digsE t p) : 48 ≤ bAt t j ∧ bAt t j ≤ 57 := by
  have := runD_digit (s := t.drop p) (j := j - p) (by rw [run_drop]; omega)
  rw [bAt_drop] at this
  rwa [show p + (j - p) = j by omega] at this
def AllD (l : List UInt8) : Prop := ∀ j, j < l.length → 48 ≤ bAt l j ∧ bAt l j ≤ 57
theorem bAt_app {a b : List UInt8} (j : Nat) : bAt (a ++ b) j = if j < a.length then bAt a j else bAt b (j - a.length) := by
  unfold bAt
  simp only [List.getD]
  split
  · rw [List.getElem?_append_left (by assumption)]
  · rw [List.getElem?_append_right (by omega)]
theorem AllD.app {a b : List UInt8} (h1 : AllD a) (h2 : AllD b) : AllD (a ++ b) := by
  intro j hj
  rw [List.length_append] at hj
  rw [bAt_app]
  split
  · exact h1 j (by assumption)
  · exact h2 _ (by omega)
theorem bAt_sl {t : List UInt8} {a b j : Nat} (h : a + j < b) : bAt (sl t a b) j = bAt t (a + j) := by
  unfold sl
  rw [← bAt_drop]
  unfold bAt
  simp only [List.getD]
  rw [List.getElem?_take_of_lt (by omega)]
theorem sl_len {t : List UInt8} {a b : Nat} (h : b ≤ t.length) : (sl t a b).length = b - a := by
  unfold sl
  rw [List.length_take, List.length_drop]
  omega
theorem AllD.sl {t : List UInt8} {a b : Nat} (h : b ≤ t.length) (hd : ∀ j, a ≤ j → j < b → 48 ≤ bAt t j ∧ bAt t j ≤ 57) : AllD (sl t a b) := by
  intro j hj
  rw [sl_len h] at hj
  rw [bAt_sl (by omega)]
  exact hd _ (by omega) (by omega)
end Sg
namespace Go.Proofs.YtddbdgmaaogclaaGreatDoor
open Sg Go.IntWalk
set_option maxRecDepth 100000
set_option maxHeartbeats 4000000
section
variable {F : World} {M : List Nat} {H : List Res} {t : List UInt8} {p : Nat}
/-- A number's cells, as the document keeps it. -/
abbrev rnV (mi : Bool) (dg : Value) (off : Int) (dn : Bool) (ex : Value) (pl : Bool) (w : List UInt8) : List Value := [.bool mi, dg, .int .i64 off, .bool dn, ex, .bool pl, sV w]
theorem refRead_spec (hl : t.length ≤ 1000000) : Meets Tryz.prog 216 [sV t] F M H (fun e H' => ∃ (mi pl dn : Bool) (w : List UInt8) (da ea : Option Addr) (dm dc em ec : Nat) (off : Int), e = .returned (.tuple ⟨[.agg ⟨rnV mi (.slice da dm dc) off dn (.slice ea em ec) pl w⟩, .bool (numP t).isSome]⟩) ∧ H' = H ∧ ∀ x, numP t = some x → x = (mi, w, pl)) := by
  refine Meets.enter Tryz.func216 rfl rfl ?_
  rw [numP_numR]
  have hmin := minR_le t
  have hN : numR t = if digsE t (minR t) = minR t ∨ (bAt t (minR t) = 48 ∧ minR t + 1 < digsE t (minR t)) then none else
      match fracR t (digsE t (minR t)) with
      | none => none
      | some (b, p1) => match expR t b with
        | none => none
        | some (e, p2) => if e = t.length then some (decide (bAt t 0 = 45), sl t (minR t) (digsE t (minR t)), p1 && p2) else none := rfl
  generalize numR t = np at *
  refine S.seq ?_
  repeat' (first | (apply T.asn; apply rfl; apply rfl) | (apply T.alloc; apply rfl; intro nb) | with_reducible refine Sr.nil ?_ | with_reducible refine S.reg ?_ | fail)
  revert nb
  intro b2
  refine S.seq ?_
  repeat' (first | (apply T.buildL; apply rfl; apply rfl; apply rfl) | (apply T.storeW; apply rfl; apply rfl; infer_instance; (first | rfl | (simp only [List.length_append, List.length_map, List.length_set, List.length_replicate, List.length_cons, List.length_nil]; first | done | omega)); (first | rfl | (simp only [List.length_append, List.length_map, List.length_set, List.length_replicate, List.length_cons, List.length_nil]; first | done | omega)); (first | rfl | (repeat' first | apply all_nV | apply all_bV | apply all_iV | rfl | apply all_app))) | (apply T.alloc; apply rfl; intro nb) | with_reducible refine Sr.nil ?_ | with_reducible refine S.reg ?_ | fail)
  revert nb
  intro b4
  refine S.seq ?_
  repeat' (first | (apply T.asn; apply rfl; apply rfl) | with_reducible refine Sr.nil ?_ | with_reducible refine S.reg ?_ | fail)
  refine S.seq ?_
  refine S.cut (fun H' e' => ∃ (mi : Bool) (a : Nat), H' = .blk b4 (rnV mi noL 0 false noL true []) 276 :: .blk b2 (rnV false noL 0 false noL false []) 276 :: H ∧ e' = [(0, sV t), (2, .pointer (some ⟨b2, 0, none⟩)), (4, .pointer (some ⟨b4, 0, none⟩)), (5, .int .i64 a)] ∧ a = minR t ∧ mi = decide (bAt t 0 = 45)) ?_ ?_
  · intro k' hrest
    by_cases h : bAt t 0 = 45
    · have h0 := bAt_lt_of (t := t) (p := 0) (by omega)
      have hb : (t.getD 0 0).toNat = bAt t 0 := rfl
      repeat' (first | (refine T.sidx (i := 0) rfl rfl (by omega) rfl ?_) | (apply T.slen; apply rfl; apply rfl) | (apply T.mv; apply rfl; apply rfl) | (apply T.asn; apply rfl; apply rfl) | (apply T.fieldAddrZ; apply rfl; apply rfl) | (apply T.lss; apply rfl; apply rfl; apply rfl) | (apply T.eql; apply rfl; apply rfl; apply rfl) | (apply T.addI; apply rfl; apply rfl; omega; apply rfl) | (apply T.pickT; apply rfl; apply rfl; apply rfl) | (apply T.store; apply rfl; apply rfl; infer_instance; (first | decide | (simp; omega) | simp); apply rfl) | with_reducible refine Sr.nil ?_ | with_reducible refine S.seq ?_ | with_reducible refine S.reg ?_ | (apply T.ungV; apply rfl; (first | with_reducible rfl | decide)) | (apply S.condQ; apply rfl; all_goals (intro _; try (exfalso; first | omega | with_reducible contradiction))) | (apply T.gcase; apply rfl; apply rfl; all_goals (intro _; try (exfalso; first | omega | with_reducible contradiction))) | fail)
      exact hrest _ _ _ ⟨true, 1, rfl, rfl, by unfold minR; rw [if_pos h], by rw [decide_eq_true h]⟩ (by repeat' first | exact trivial | refine And.intro rfl ?_)
    · have hb : (t.getD 0 0).toNat = bAt t 0 := rfl
      by_cases h0 : 0 < t.length
      · repeat' (first | (refine T.sidx (i := 0) rfl rfl (by omega) rfl ?_) | (apply T.slen; apply rfl; apply rfl) | (apply T.mv; apply rfl; apply rfl) | (apply T.lss; apply rfl; apply rfl; apply rfl) | (apply T.eql; apply rfl; apply rfl; apply rfl) | (apply T.pickT; apply rfl; apply rfl; apply rfl) | with_reducible refine Sr.nil ?_ | with_reducible refine S.seq ?_ | with_reducible refine S.reg ?_ | with_reducible refine S.skip ?_ | (apply T.ungV; apply rfl; (first | with_reducible rfl | decide)) | (apply S.condQ; apply rfl; all_goals (intro _; try (exfalso; first | omega | with_reducible contradiction))) | (apply T.gcase; apply rfl; apply rfl; all_goals (intro _; try (exfalso; first | omega | with_reducible contradiction))) | fail)
        exact hrest _ _ _ ⟨false, 0, rfl, rfl, by unfold minR; rw [if_neg h], by rw [decide_eq_false h]⟩ (by repeat' first | exact trivial | refine And.intro rfl ?_)
      · repeat' (first | (apply T.slen; apply rfl; apply rfl) | (apply T.mv; apply rfl; apply rfl) | (apply T.lss; apply rfl; apply rfl; apply rfl) | (apply T.pickF; apply rfl; apply rfl; apply rfl) | with_reducible refine Sr.nil ?_ | with_reducible refine S.seq ?_ | with_reducible refine S.reg ?_ | with_reducible refine S.skip ?_ | (apply T.skip; apply rfl; (first | with_reducible rfl | decide); apply rfl) | (apply S.condFV; apply rfl; (first | with_reducible rfl | decide)) | (apply T.gcase; apply rfl; apply rfl; all_goals (intro _; try (exfalso; first | omega | with_reducible contradiction))) | fail)
        exact hrest _ _ _ ⟨false, 0, rfl, rfl, by unfold minR; rw [if_neg h], by rw [decide_eq_false h]⟩ (by repeat' first | exact trivial | refine And.intro rfl ?_)
  rintro _ _ ⟨mi, a, rfl, rfl, ha, hmi⟩
  rw [← ha, ← hmi] at hN
  rw [← ha] at hmin
  clear ha hmi
  obtain ⟨hd1, hd2⟩ := digs_len hmin
  refine S.seq ?_
  repeat' (first | (apply T.mv; apply rfl; apply rfl) | (apply T.asn; apply rfl; apply rfl) | with_reducible refine Sr.nil ?_ | with_reducible refine S.reg ?_ | fail)
  refine S.seq ?_
  repeat' (first | (apply T.mv; apply rfl; apply rfl) | with_reducible refine S.reg ?_ | fail)
  refine T.call rfl rfl (refMany_spec hmin (by omega)) ?_
  rintro _ _ ⟨rfl, rfl⟩
  have hdig : ∀ j, a ≤ j → j < digsE t a → 48 ≤ bAt t j ∧ bAt t j ≤ 57 := fun j h1 h2 => digsE_digit h1 h2
  generalize digsE t a = d at *
  repeat' (first | (apply T.asn; apply rfl; apply rfl) | with_reducible refine Sr.nil ?_ | (with_reducible apply T.ofRet) | fail)
  refine S.seq ?_
  refine S.cut (fun H' e' => H' = .blk b4 (rnV mi noL 0 false noL true []) 276 :: .blk b2 (rnV false noL 0 false noL false []) 276 :: H ∧ e' = [(0, sV t), (2, .pointer (some ⟨b2, 0, none⟩)), (4, .pointer (some ⟨b4, 0, none⟩)), (5, .int .i64 d), (6, .int .i64 a)] ∧ ¬ (d = a ∨ (bAt t a = 48 ∧ a + 1 < d))) ?_ ?_
  · intro k' hrest
    have hb : (t.getD a 0).toNat = bAt t a := rfl
    by_cases h : d = a ∨ (bAt t a = 48 ∧ a + 1 < d)
    · rw [if_pos h] at hN
      subst hN
      repeat' (first | (apply T.sidx; apply rfl; apply rfl; omega; apply rfl) | (apply T.mv; apply rfl; apply rfl) | (apply T.asn; apply rfl; apply rfl) | (apply T.gtr; apply rfl; apply rfl; apply rfl) | (apply T.eql; apply rfl; apply rfl; apply rfl) | (apply T.addI; apply rfl; apply rfl; omega; apply rfl) | (apply T.pickT; apply rfl; apply rfl; apply rfl) | (apply T.pickF; apply rfl; apply rfl; apply rfl) | (apply T.loadW; apply rfl; apply rfl; infer_instance; (first | rfl | (simp only [List.length_append, List.length_map, List.length_set, List.length_replicate, List.length_cons, List.length_nil]; first | done | omega)); apply rfl) | (apply T.storeW; apply rfl; apply rfl; infer_instance; (first | rfl | (simp only [List.length_append, List.length_map, List.length_set, List.length_replicate, List.length_cons, List.length_nil]; first | done | omega)); (first | rfl | (simp only [List.length_append, List.length_map, List.length_set, List.length_replicate, List.length_cons, List.length_nil]; first | done | omega)); (first | rfl | (repeat' first | apply all_nV | apply all_bV | apply all_iV | rfl | apply all_app))) | with_reducible refine Sr.nil ?_ | with_reducible refine S.seq ?_ | with_reducible refine S.reg ?_ | (apply T.ungV; apply rfl; (first | with_reducible rfl | decide)) | (apply T.skip; apply rfl; (first | with_reducible rfl | decide); apply rfl) | (apply T.skipU; apply rfl; apply rfl) | (apply S.condTV; apply rfl; (first | with_reducible rfl | decide)) | (apply S.condQ; apply rfl; all_goals (intro _; try (exfalso; first | omega | with_reducible contradiction))) | (apply T.gcase; apply rfl; apply rfl; all_goals (intro _; try (exfalso; first | omega | with_reducible contradiction))) | (apply T.retC; apply rfl; ((repeat' first | apply RV.nil | (apply RV.tmp; apply rfl) | (apply RV.cellW; apply rfl; apply rfl; infer_instance; (first | rfl | (simp only [List.length_append, List.length_map, List.length_set, List.length_replicate, List.length_cons, List.length_nil]; first | done | omega))) | (apply RV.cellP; apply rfl; apply rfl; infer_instance; apply rfl))); apply rfl) | fail)
      all_goals exact ⟨_, PSub.drop (PSub.drop (PSub.refl _)), _, _, _, _, _, _, _, _, _, _, _, rfl, rfl, fun x hx => by cases hx⟩
    · have h1 : ¬ d = a := fun e => h (.inl e)
      have h2 : ¬ (bAt t a = 48 ∧ a + 1 < d) := fun e => h (.inr e)
      have h3 : a < t.length := by omega
      repeat' (first | (apply T.sidx; apply rfl; apply rfl; omega; apply rfl) | (apply T.mv; apply rfl; apply rfl) | (apply T.gtr; apply rfl; apply rfl; apply rfl) | (apply T.eql; apply rfl; apply rfl; apply rfl) | (apply T.addI; apply rfl; apply rfl; omega; apply rfl) | (apply T.pickT; apply rfl; apply rfl; apply rfl) | (apply T.pickF; apply rfl; apply rfl; apply rfl) | with_reducible refine Sr.nil ?_ | with_reducible refine S.seq ?_ | with_reducible refine S.reg ?_ | with_reducible refine S.skip ?_ | (apply T.ungV; apply rfl; (first | with_reducible rfl | decide)) | (apply T.skip; apply rfl; (first | with_reducible rfl | decide); apply rfl) | (apply S.condFV; apply rfl; (first | with_reducible rfl | decide)) | (apply S.condQ; apply rfl; all_goals (intro _; try (exfalso; first | omega | with_reducible contradiction))) | (apply T.gcase; apply rfl; apply rfl; all_goals (intro _; try (exfalso; first | omega | with_reducible contradiction))) | fail)
      all_goals exact hrest _ _ _ ⟨rfl, rfl, h⟩ (by repeat' first | exact trivial | refine And.intro rfl ?_)
  rintro _ _ ⟨rfl, rfl, hbad⟩
  rw [if_neg hbad] at hN
  have hwl := sl_len (t := t) (a := a) hd2
  have hwd := AllD.sl hd2 hdig
  refine S.seq ?_
  repeat' (first | (apply T.sslice; apply rfl; apply rfl; apply rfl; omega; apply rfl) | (apply T.mv; apply rfl; apply rfl) | (apply T.fieldAddrZ; apply rfl; apply rfl) | (apply T.store; apply rfl; apply rfl; infer_instance; (first | decide | (simp; omega) | simp); apply rfl) | with_reducible refine Sr.nil ?_ | with_reducible refine S.reg ?_ | fail)
  refine S.seq ?_
  repeat' (first | (apply T.sslice; apply rfl; apply rfl; apply rfl; omega; apply rfl) | (apply T.mv; apply rfl; apply rfl) | (apply T.asn; apply rfl; apply rfl) | with_reducible refine Sr.nil ?_ | with_reducible refine S.reg ?_ | fail)
  refine S.seq ?_
  repeat' (first | (apply T.mv; apply rfl; apply rfl) | (apply T.fieldAddrZ; apply rfl; apply rfl) | (apply T.subI; apply rfl; apply rfl; omega; apply rfl) | (apply T.store; apply rfl; apply rfl; infer_instance; (first | decide | (simp; omega) | simp); apply rfl) | with_reducible refine Sr.nil ?_ | with_reducible refine S.reg ?_ | fail)
  change S _ _ _ _ _
  have hsl : (t.drop a).take (d - a) = sl t a d := rfl
  rw [hsl]
  generalize sl t a d = w at *
  refine S.seq ?_
  refine S.cut (fun H' e' => ∃ (p1 : Bool) (b : Nat) (all : List UInt8), H' = .blk b4 (rnV mi noL ((d : Int) - a) false noL p1 w) 276 :: .blk b2 (rnV false noL 0 false noL false []) 276 :: H ∧ e' = [(0, sV t), (2, .pointer (some ⟨b2, 0, none⟩)), (4, .pointer (some ⟨b4, 0, none⟩)), (5, .int .i64 b), (7, sV all)] ∧ AllD all ∧ all.length ≤ 2000000 ∧ b ≤ t.length ∧ np = match expR t b with
    | none => none
    | some (e, p2) => if e = t.length then some (mi, w, p1 && p2) else none) ?_ ?_
  · intro k' hrest
    have hb : (t.getD d 0).toNat = bAt t d := rfl
    unfold fracR at hN
    by_cases h : bAt t d = 46
    · have h0 := bAt_lt_of (t := t) (p := d) (by omega)
      obtain ⟨hf1, hf2⟩ := digs_len (t := t) (p := d + 1) (by omega)
      have e1 : (d : Int) + 1 = ((d + 1 : Nat) : Int) := by omega
      have hfd : ∀ j, d + 1 ≤ j → j < digsE t (d + 1) → 48 ≤ bAt t j ∧ bAt t j ≤ 57 := fun j h1 h2 => digsE_digit h1 h2
      rw [if_pos h] at hN
      repeat' (first | (apply T.addI; apply rfl; apply rfl; omega; apply rfl; rw [e1]) | (apply T.slen; apply rfl; apply rfl) | (apply T.sidx; apply rfl; apply rfl; omega; apply rfl) | (apply T.mv; apply rfl; apply rfl) | (apply T.fieldAddrZ; apply rfl; apply rfl) | (apply T.lss; apply rfl; apply rfl; apply rfl) | (apply T.eql; apply rfl; apply rfl; apply rfl) | (apply T.pickT; apply rfl; apply rfl; apply rfl) | (apply T.store; apply rfl; apply rfl; infer_instance; (first | decide | (simp; omega) | simp); apply rfl) | with_reducible refine Sr.nil ?_ | with_reducible refine S.seq ?_ | with_reducible refine S.reg ?_ | (apply T.ungV; apply rfl; (first | with_reducible rfl | decide)) | (apply S.condQ; apply rfl; all_goals (intro _; try (exfalso; first | omega | with_reducible contradiction))) | (apply T.gcase; apply rfl; apply rfl; all_goals (intro _; try (exfalso; first | omega | with_reducible contradiction))) | fail)
      refine T.call rfl rfl (refMany_spec (p := d + 1) (by omega) (by omega)) ?_
      rintro _ _ ⟨rfl, rfl⟩
      generalize digsE t (d + 1) = f at *
      by_cases h1 : f = d + 1
      · rw [if_pos h1] at hN
        subst hN
        repeat' (first | (apply T.addI; apply rfl; apply rfl; omega; apply rfl; rw [e1]) | (apply T.mv; apply rfl; apply rfl) | (apply T.asn; apply rfl; apply rfl) | (apply T.eql; apply rfl; apply rfl; apply rfl) | (apply T.loadW; apply rfl; apply rfl; infer_instance; (first | rfl | (simp only [List.length_append, List.length_map, List.length_set, List.length_replicate, List.length_cons, List.length_nil]; first | done | omega)); apply rfl) | (apply T.storeW; apply rfl; apply rfl; infer_instance; (first | rfl | (simp only [List.length_append, List.length_map, List.length_set, List.length_replicate, List.length_cons, List.length_nil]; first | done | omega)); (first | rfl | (simp only [List.length_append, List.length_map, List.length_set, List.length_replicate, List.length_cons, List.length_nil]; first | done | omega)); (first | rfl | (repeat' first | apply all_nV | apply all_bV | apply all_iV | rfl | apply all_app))) | with_reducible refine Sr.nil ?_ | with_reducible refine S.seq ?_ | with_reducible refine S.reg ?_ | (apply S.condQ; apply rfl; all_goals (intro _; try (exfalso; first | omega | with_reducible contradiction))) | (with_reducible apply T.ofRet) | (apply T.retC; apply rfl; ((repeat' first | apply RV.nil | (apply RV.tmp; apply rfl) | (apply RV.cellW; apply rfl; apply rfl; infer_instance; (first | rfl | (simp only [List.length_append, List.length_map, List.length_set, List.length_replicate, List.length_cons, List.length_nil]; first | done | omega))) | (apply RV.cellP; apply rfl; apply rfl; infer_instance; apply rfl))); apply rfl) | fail)
        exact ⟨_, PSub.drop (PSub.drop (PSub.refl _)), _, _, _, _, _, _, _, _, _, _, _, rfl, rfl, fun x hx => by cases hx⟩
      · rw [if_neg h1] at hN
        have hsl2 : (t.drop (d + 1)).take (f - (d + 1)) = sl t (d + 1) f := rfl
        have hl2 := sl_len (t := t) (a := d + 1) hf2
        have hd2 := AllD.sl hf2 hfd
        repeat' (first | (apply T.addI; apply rfl; apply rfl; omega; apply rfl; rw [e1]) | (apply T.sslice; apply rfl; apply rfl; apply rfl; omega; apply rfl; rw [hsl2]) | (apply T.sadd; apply rfl; apply rfl; omega; apply rfl) | (apply T.mv; apply rfl; apply rfl) | (apply T.asn; apply rfl; apply rfl) | (apply T.eql; apply rfl; apply rfl; apply rfl) | with_reducible refine Sr.nil ?_ | with_reducible refine S.seq ?_ | with_reducible refine S.reg ?_ | with_reducible refine S.skip ?_ | (apply S.condQ; apply rfl; all_goals (intro _; try (exfalso; first | omega | with_reducible contradiction))) | (with_reducible apply T.ofRet) | fail)
        exact hrest _ _ _ ⟨false, f, w ++ sl t (d + 1) f, rfl, rfl, hwd.app hd2, by rw [List.length_append]; omega, hf2, hN⟩ (by repeat' first | exact trivial | refine And.intro rfl ?_)
    · rw [if_neg h] at hN
      by_cases h0 : d < t.length
      · repeat' (first | (apply T.slen; apply rfl; apply rfl) | (apply T.sidx; apply rfl; apply rfl; omega; apply rfl) | (apply T.mv; apply rfl; apply rfl) | (apply T.lss; apply rfl; apply rfl; apply rfl) | (apply T.eql; apply rfl; apply rfl; apply rfl) | (apply T.pickT; apply rfl; apply rfl; apply rfl) | with_reducible refine Sr.nil ?_ | with_reducible refine S.seq ?_ | with_reducible refine S.reg ?_ | with_reducible refine S.skip ?_ | (apply T.ungV; apply rfl; (first | with_reducible rfl | decide)) | (apply S.condQ; apply rfl; all_goals (intro _; try (exfalso; first | omega | with_reducible contradiction))) | (apply T.gcase; apply rfl; apply rfl; all_goals (intro _; try (exfalso; first | omega | with_reducible contradiction))) | fail)
        exact hrest _ _ _ ⟨true, d, w, rfl, rfl, hwd, by omega, hd2, hN⟩ (by repeat' first | exact trivial | refine And.intro rfl ?_)
      · repeat' (first | (apply T.slen; apply rfl; apply rfl) | (apply T.mv; apply rfl; apply rfl) | (apply T.lss; apply rfl; apply rfl; apply rfl) | (apply T.pickF; apply rfl; apply rfl; apply rfl) | with_reducible refine Sr.nil ?_ | with_reducible refine S.seq ?_ | with_reducible refine S.reg ?_ | with_reducible refine S.skip ?_ | (apply T.skip; apply rfl; (first | with_reducible rfl | decide); apply rfl) | (apply S.condFV; apply rfl; (first | with_reducible rfl | decide)) | (apply T.gcase; apply rfl; apply rfl; all_goals (intro _; try (exfalso; first | omega | with_reducible contradiction))) | fail)
        exact hrest _ _ _ ⟨true, d, w, rfl, rfl, hwd, by omega, hd2, hN⟩ (by repeat' first | exact trivial | refine And.intro rfl ?_)
  rintro _ _ ⟨p1, b, all, rfl, rfl, hall, hlall, hb, hN⟩
  obtain ⟨off, hoff⟩ : ∃ off : Int, (d : Int) - a = off := ⟨_, rfl⟩
  have ho : -2000000 ≤ off ∧ off ≤ 2000000 := by omega
  rw [hoff]
  clear hoff hbad hdig hd1 hd2 hmin hwd
  refine S.seq ?_
  refine S.cut (fun H' e' => ∃ (dn pl : Bool) (q : Nat) (ea : Option Addr) (em ec : Nat), H' = .blk b4 (rnV mi noL off dn (.slice ea em ec) pl w) 276 :: .blk b2 (rnV false noL 0 false noL false []) 276 :: H ∧ e' = [(0, sV t), (2, .pointer (some ⟨b2, 0, none⟩)), (4, .pointer (some ⟨b4, 0, none⟩)), (5, .int .i64 q), (7, sV all)] ∧ q ≤ t.length ∧ np = if q = t.length then some (mi, w, pl) else none) ?_ ?_
  · intro k' hrest
    unfold expR at hN
    refine S.seq ?_
    refine S.cut (fun H' e' => ∃ bx : Bool, H' = .blk b4 (rnV mi noL off false noL p1 w) 276 :: .blk b2 (rnV false noL 0 false noL false []) 276 :: H ∧ e' = [(0, sV t), (2, .pointer (some ⟨b2, 0, none⟩)), (4, .pointer (some ⟨b4, 0, none⟩)), (5, .int .i64 b), (7, sV all), (103, .bool bx)] ∧ bx = (decide (bAt t b = 101) || decide (bAt t b = 69))) ?_ ?_
    · intro k'' hmid
      have hbb : (t.getD b 0).toNat = bAt t b := rfl
      by_cases h0 : b < t.length
      · by_cases h1 : bAt t b = 101
        · repeat' (first | (apply T.slen; apply rfl; apply rfl) | (apply T.sidx; apply rfl; apply rfl; omega; apply rfl) | (apply T.mv; apply rfl; apply rfl) | (apply T.lss; apply rfl; apply rfl; apply rfl) | (apply T.eql; apply rfl; apply rfl; apply rfl) | (apply T.pickT; apply rfl; apply rfl; apply rfl) | with_reducible refine Sr.nil ?_ | with_reducible refine S.reg ?_ | (apply T.ungV; apply rfl; (first | with_reducible rfl | decide)) | (apply T.skip; apply rfl; (first | with_reducible rfl | decide); apply rfl) | (apply T.gcase; apply rfl; apply rfl; all_goals (intro _; try (exfalso; first | omega | with_reducible contradiction))) | fail)
          exact hmid _ _ _ ⟨true, rfl, rfl, by rw [decide_eq_true h1]; rfl⟩ (by repeat' first | exact trivial | refine And.intro rfl ?_)
        · repeat' (first | (apply T.slen; apply rfl; apply rfl) | (apply T.sidx; apply rfl; apply rfl; omega; apply rfl) | (apply T.mv; apply rfl; apply rfl) | (apply T.lss; apply rfl; apply rfl; apply rfl) | (apply T.eql; apply rfl; apply rfl; apply rfl) | (apply T.pickT; apply rfl; apply rfl; apply rfl) | (apply T.pickF; apply rfl; apply rfl; apply rfl) | with_reducible refine Sr.nil ?_ | with_reducible refine S.reg ?_ | (apply T.ungV; apply rfl; (first | with_reducible rfl | decide)) | (apply T.gcase; apply rfl; apply rfl; all_goals (intro _; try (exfalso; first | omega | with_reducible contradiction))) | fail)
          refine hmid _ _ _ ⟨decide ((((t.getD b 0).toNat : Nat) : Int) = 69), rfl, rfl, ?_⟩ (by repeat' first | exact trivial | refine And.intro rfl ?_)
          rw [decide_eq_false h1, Bool.false_or, decide_eq_decide]
          omega
      · have h3 := bAt_big (t := t) (p := b) (by omega)
        repeat' (first | (apply T.slen; apply rfl; apply rfl) | (apply T.mv; apply rfl; apply rfl) | (apply T.lss; apply rfl; apply rfl; apply rfl) | (apply T.pickF; apply rfl; apply rfl; apply rfl) | with_reducible refine Sr.nil ?_ | with_reducible refine S.reg ?_ | (apply T.skip; apply rfl; (first | with_reducible rfl | decide); apply rfl) | (apply T.skipU; apply rfl; apply rfl) | (apply T.gcase; apply rfl; apply rfl; all_goals (intro _; try (exfalso; first | omega | with_reducible contradiction))) | fail)
        exact hmid _ _ _ ⟨false, rfl, rfl, by rw [h3]; rfl⟩ (by repeat' first | exact trivial | refine And.intro rfl ?_)
    rintro _ _ ⟨bx, rfl, rfl, hbx⟩
    cases bx with
    | false =>
      have h1 : ¬ (bAt t b = 101 ∨ bAt t b = 69) := by simpa using hbx.symm
      rw [if_neg h1] at hN
      simp only [Bool.and_true] at hN
      repeat' (first | with_reducible refine S.skip ?_ | (apply S.condFV; apply rfl; (first | with_reducible rfl | decide)) | fail)
      exact hrest _ _ _ ⟨false, p1, b, none, 0, 0, rfl, rfl, hb, hN⟩ (by repeat' first | exact trivial | refine And.intro rfl ?_)
    | true =>
      have h1 : bAt t b = 101 ∨ bAt t b = 69 := by simpa using hbx.symm
      rw [if_pos h1] at hN
      have hlt := bAt_lt_of (t := t) (p := b) (by omega)
      have e1 : (b : Int) + 1 = ((b + 1 : Nat) : Int) := by omega
      repeat' (first | (apply S.condTV; apply rfl; (first | with_reducible rfl | decide)) | fail)
      refine S.seq ?_
      repeat' (first | (apply T.fieldAddrZ; apply rfl; apply rfl) | (apply T.store; apply rfl; apply rfl; infer_instance; (first | decide | (simp; omega) | simp); apply rfl) | with_reducible refine Sr.nil ?_ | with_reducible refine S.reg ?_ | fail)
      refine S.seq ?_
      repeat' (first | (apply T.addI; apply rfl; apply rfl; omega; apply rfl; rw [e1]) | (apply T.mv; apply rfl; apply rfl) | (apply T.asn; apply rfl; apply rfl) | with_reducible refine Sr.nil ?_ | with_reducible refine S.reg ?_ | fail)
      refine S.seq ?_
      refine S.cut (fun H' e' => ∃ (dn : Bool) (q : Nat), H' = .blk b4 (rnV mi noL off dn noL false w) 276 :: .blk b2 (rnV false noL 0 false noL false []) 276 :: H ∧ e' = [(0, sV t), (2, .pointer (some ⟨b2, 0, none⟩)), (4, .pointer (some ⟨b4, 0, none⟩)), (5, .int .i64 q), (7, sV all)] ∧ q = signR t (b + 1)) ?_ ?_
      · intro k'' hmid
        generalize b + 1 = c at *
        unfold signR at hmid
        have hbb : (t.getD c 0).toNat = bAt t c := rfl
        by_cases h0 : c < t.length
        · by_cases h2 : bAt t c = 43
          · rw [if_pos (.inl h2)] at hmid
            repeat' (first | (apply T.slen; apply rfl; apply rfl) | (apply T.sidx; apply rfl; apply rfl; omega; apply rfl) | (apply T.mv; apply rfl; apply rfl) | (apply T.asn; apply rfl; apply rfl) | (apply T.fieldAddrZ; apply rfl; apply rfl) | (apply T.lss; apply rfl; apply rfl; apply rfl) | (apply T.eql; apply rfl; apply rfl; apply rfl) | (apply T.addI; apply rfl; apply rfl; omega; apply rfl) | (apply T.pickT; apply rfl; apply rfl; apply rfl) | (apply T.store; apply rfl; apply rfl; infer_instance; (first | decide | (simp; omega) | simp); apply rfl) | with_reducible refine Sr.nil ?_ | with_reducible refine S.seq ?_ | with_reducible refine S.reg ?_ | (apply T.ungV; apply rfl; (first | with_reducible rfl | decide)) | (apply T.skip; apply rfl; (first | with_reducible rfl | decide); apply rfl) | (apply S.condTV; apply rfl; (first | with_reducible rfl | decide)) | (apply T.gcase; apply rfl; apply rfl; all_goals (intro _; try (exfalso; first | omega | with_reducible contradiction))) | fail)
            exact hmid _ _ _ ⟨_, c + 1, rfl, rfl, rfl⟩ (by repeat' first | exact trivial | refine And.intro rfl ?_)
          · by_cases h3 : bAt t c = 45
            · rw [if_pos (.inr h3)] at hmid
              repeat' (first | (apply T.slen; apply rfl; apply rfl) | (apply T.sidx; apply rfl; apply rfl; omega; apply rfl) | (apply T.mv; apply rfl; apply rfl) | (apply T.asn; apply rfl; apply rfl) | (apply T.fieldAddrZ; apply rfl; apply rfl) | (apply T.lss; apply rfl; apply rfl; apply rfl) | (apply T.eql; apply rfl; apply rfl; apply rfl) | (apply T.addI; apply rfl; apply rfl; omega; apply rfl) | (apply T.pickT; apply rfl; apply rfl; apply rfl) | (apply T.pickF; apply rfl; apply rfl; apply rfl) | (apply T.store; apply rfl; apply rfl; infer_instance; (first | decide | (simp; omega) | simp); apply rfl) | with_reducible refine Sr.nil ?_ | with_reducible refine S.seq ?_ | with_reducible refine S.reg ?_ | (apply T.ungV; apply rfl; (first | with_reducible rfl | decide)) | (apply S.condQ; apply rfl; all_goals (intro _; try (exfalso; first | omega | with_reducible contradiction))) | (apply T.gcase; apply rfl; apply rfl; all_goals (intro _; try (exfalso; first | omega | with_reducible contradiction))) | fail)
              exact hmid _ _ _ ⟨_, c + 1, rfl, rfl, rfl⟩ (by repeat' first | exact trivial | refine And.intro rfl ?_)
            · rw [if_neg (fun h => h.elim h2 h3)] at hmid
              repeat' (first | (apply T.slen; apply rfl; apply rfl) | (apply T.sidx; apply rfl; apply rfl; omega; apply rfl) | (apply T.mv; apply rfl; apply rfl) | (apply T.lss; apply rfl; apply rfl; apply rfl) | (apply T.eql; apply rfl; apply rfl; apply rfl) | (apply T.pickT; apply rfl; apply rfl; apply rfl) | (apply T.pickF; apply rfl; apply rfl; apply rfl) | with_reducible refine Sr.nil ?_ | with_reducible refine S.seq ?_ | with_reducible refine S.reg ?_ | with_reducible refine S.skip ?_ | (apply T.ungV; apply rfl; (first | with_reducible rfl | decide)) | (apply S.condQ; apply rfl; all_goals (intro _; try (exfalso; first | omega | with_reducible contradiction))) | (apply T.gcase; apply rfl; apply rfl; all_goals (intro _; try (exfalso; first | omega | with_reducible contradiction))) | fail)
              exact hmid _ _ _ ⟨_, c, rfl, rfl, rfl⟩ (by repeat' first | exact trivial | refine And.intro rfl ?_)
        · have h3 := bAt_big (t := t) (p := c) (by omega)
          rw [if_neg (by omega)] at hmid
          repeat' (first | (apply T.slen; apply rfl; apply rfl) | (apply T.mv; apply rfl; apply rfl) | (apply T.lss; apply rfl; apply rfl; apply rfl) | (apply T.pickF; apply rfl; apply rfl; apply rfl) | with_reducible refine Sr.nil ?_ | with_reducible refine S.seq ?_ | with_reducible refine S.reg ?_ | with_reducible refine S.skip ?_ | (apply T.skip; apply rfl; (first | with_reducible rfl | decide); apply rfl) | (apply T.skipU; apply rfl; apply rfl) | (apply S.condFV; apply rfl; (first | with_reducible rfl | decide)) | (apply T.gcase; apply rfl; apply rfl; all_goals (intro _; try (exfalso; first | omega | with_reducible contradiction))) | fail)
          exact hmid _ _ _ ⟨_, c, rfl, rfl, rfl⟩ (by repeat' first | exact trivial | refine And.intro rfl ?_)
      obtain ⟨hs1, hs2⟩ := signR_le (t := t) (p := b + 1) hlt
      rintro _ _ ⟨dn, q, rfl, rfl, hq⟩
      rw [← hq] at hN hs1 hs2
      clear hq
      obtain ⟨hf1, hf2⟩ := digs_len hs2
      have hfd : ∀ j, q ≤ j → j < digsE t q → 48 ≤ bAt t j ∧ bAt t j ≤ 57 := fun j h1 h2 => digsE_digit h1 h2
      repeat' (first | (apply T.mv; apply rfl; apply rfl) | with_reducible refine S.seq ?_ | with_reducible refine S.reg ?_ | fail)
      refine T.call rfl rfl (refMany_spec hs2 (by omega)) ?_
      rintro _ _ ⟨rfl, rfl⟩
      generalize digsE t q = f at *
      by_cases h2 : f = q
      · rw [if_pos h2] at hN
        subst hN
        repeat' (first | (apply T.mv; apply rfl; apply rfl) | (apply T.asn; apply rfl; apply rfl) | (apply T.eql; apply rfl; apply rfl; apply rfl) | (apply T.loadW; apply rfl; apply rfl; infer_instance; (first | rfl | (simp only [List.length_append, List.length_map, List.length_set, List.length_replicate, List.length_cons, List.length_nil]; first | done | omega)); apply rfl) | (apply T.storeW; apply rfl; apply rfl; infer_instance; (first | rfl | (simp only [List.length_append, List.length_map, List.length_set, List.length_replicate, List.length_cons, List.length_nil]; first | done | omega)); (first | rfl | (simp only [List.length_append, List.length_map, List.length_set, List.length_replicate, List.length_cons, List.length_nil]; first | done | omega)); (first | rfl | (repeat' first | apply all_nV | apply all_bV | apply all_iV | rfl | apply all_app))) | with_reducible refine Sr.nil ?_ | with_reducible refine S.seq ?_ | with_reducible refine S.reg ?_ | (apply S.condQ; apply rfl; all_goals (intro _; try (exfalso; first | omega | with_reducible contradiction))) | (with_reducible apply T.ofRet) | (apply T.retC; apply rfl; ((repeat' first | apply RV.nil | (apply RV.tmp; apply rfl) | (apply RV.cellW; apply rfl; apply rfl; infer_instance; (first | rfl | (simp only [List.length_append, List.length_map, List.length_set, List.length_replicate, List.length_cons, List.length_nil]; first | done | omega))) | (apply RV.cellP; apply rfl; apply rfl; infer_instance; apply rfl))); apply rfl) | fail)
        exact ⟨_, PSub.drop (PSub.drop (PSub.refl _)), _, _, _, _, _, _, _, _, _, _, _, rfl, rfl, fun x hx => by cases hx⟩
      rw [if_neg h2] at hN
      simp only [Bool.and_false] at hN
      refine Sr.nilrow 3 1 ?_
      repeat' (first | (apply T.mv; apply rfl; apply rfl) | (apply T.asn; apply rfl; apply rfl) | (apply T.eql; apply rfl; apply rfl; apply rfl) | with_reducible refine Sr.nil ?_ | with_reducible refine S.seq ?_ | with_reducible refine S.block ?_ | with_reducible refine S.reg ?_ | with_reducible refine S.skip ?_ | (apply S.condQ; apply rfl; all_goals (intro _; try (exfalso; first | omega | with_reducible contradiction))) | fail)
      refine S.loopE 2 [0, 2, 4, 7, 9] (fun R b' μ H' e => ∃ (i m ec : Nat) (ea : Option Addr) (xs : List Nat), H' = .row ea ec 3 1 m (xs.map nV) :: .blk b4 (rnV mi noL off dn (.slice ea m ec) false w) 276 :: R ∧ e = (10, .int .i64 i) :: b' ∧ (q ≤ i ∧ i ≤ f ∧ xs.length = m ∧ m ≤ i) ∧ μ = f - i) rfl rfl ?_ _ _ ⟨q, 0, 0, none, [], rfl, rfl, ⟨Nat.le_refl _, hf1, rfl, Nat.zero_le _⟩, rfl⟩ (by repeat' first | exact trivial | refine And.intro rfl ?_)
      rintro _ _ _ ⟨i, m, ec, ea, xs, rfl, rfl, ⟨g1, g2, g3, g4⟩, rfl⟩ ih
      have hbi : (t.getD i 0).toNat = bAt t i := rfl
      by_cases g5 : i < f
      · have g6 := hfd i g1 g5
        repeat' (first | (apply T.sidx; apply rfl; apply rfl; omega; apply rfl) | (apply T.mv; apply rfl; apply rfl) | (apply T.asn; apply rfl; apply rfl) | (apply T.len; apply rfl; apply rfl) | (apply T.fieldAddrZ; apply rfl; apply rfl) | (apply T.load; apply rfl; apply rfl; infer_instance; apply rfl; apply rfl) | (apply T.lss; apply rfl; apply rfl; apply rfl) | (apply T.gtr; apply rfl; apply rfl; apply rfl) | (apply T.neq; apply rfl; apply rfl; apply rfl) | (apply T.addI; apply rfl; apply rfl; omega; apply rfl) | (apply T.pickT; apply rfl; apply rfl; apply rfl) | (apply T.pickF; apply rfl; apply rfl; apply rfl) | with_reducible refine Sr.nil ?_ | with_reducible refine S.seq ?_ | with_reducible refine S.block ?_ | with_reducible refine S.reg ?_ | with_reducible refine S.skip ?_ | with_reducible refine S.inBlock ?_ | (apply T.ungV; apply rfl; (first | with_reducible rfl | decide)) | (apply T.skip; apply rfl; (first | with_reducible rfl | decide); apply rfl) | (apply S.condTV; apply rfl; (first | with_reducible rfl | decide)) | (apply S.condQ; apply rfl; all_goals (intro _; try (exfalso; first | omega | with_reducible contradiction))) | (apply T.gcase; apply rfl; apply rfl; all_goals (intro _; try (exfalso; first | omega | with_reducible contradiction))) | fail)
        · (apply S.drawL; (case Hs => exact .blk b4 (rnV mi noL off dn (.slice ea m ec) false w) 276 :: .blk b2 (rnV false noL 0 false noL false []) 276 :: H); (case es => exact  [7, 8, 10]); (case lt => exact  [10]); (case n => exact  11); (case hn => rfl))
          repeat' (first | ((with_reducible apply T.subU8N (n := 48)); apply rfl; apply rfl; omega; apply rfl) | (apply T.sidx; apply rfl; apply rfl; omega; apply rfl) | (apply T.mv; apply rfl; apply rfl) | (apply T.asn; apply rfl; apply rfl) | (apply T.fieldAddrZ; apply rfl; apply rfl) | (apply T.load; apply rfl; apply rfl; infer_instance; apply rfl; apply rfl) | (apply T.addI; apply rfl; apply rfl; omega; apply rfl) | (apply T.convI64; apply rfl; omega; apply rfl) | (apply T.store; apply rfl; apply rfl; infer_instance; (first | decide | (simp; omega) | simp); apply rfl) | (apply T.bs; apply rfl; apply rfl; apply rfl; apply rfl; apply rfl; apply rfl; intro nb) | (apply T.appendN; apply rfl; apply rfl; infer_instance; apply rfl; (constructor <;> omega); apply rfl; intro na nc) | with_reducible refine Sr.nil ?_ | with_reducible refine S.reg ?_ | with_reducible refine S.inBlock ?_ | (apply SA.qn; apply rfl; apply rfl; apply rfl; apply rfl; kernel_rfl) | (apply SA.qz; apply rfl; apply rfl; apply rfl; apply rfl; kernel_rfl) | (apply SA.qsn; apply rfl; apply rfl; apply rfl; kernel_rfl; (first | exact fun _ h => h | exact fun _ h => St.psub h (by ((repeat (first | dsimp only [List.set_cons_zero] | dsimp only [List.set_cons_succ])); repeat' first | exact PSub.refl _ | exact PSub.nil | (apply PSub.take; (repeat' first | (with_reducible exact pick_hd) | (with_reducible apply pick_tl))) | (with_reducible apply PSub.drop) | ((apply PSub.take); (repeat' first | exact pick_hd | (apply pick_tl))))))) | (apply SA.en; apply rfl; apply rfl; kernel_rfl) | (apply SA.done; apply rfl; kernel_rfl) | (apply SK.late; decide) | (apply SK.intro; (first | exact fun _ h => h | exact fun _ h => St.psub h (by ((repeat (first | dsimp only [List.set_cons_zero] | dsimp only [List.set_cons_succ])); repeat' first | exact PSub.refl _ | exact PSub.nil | (apply PSub.take; (repeat' first | (with_reducible exact pick_hd) | (with_reducible apply pick_tl))) | (with_reducible apply PSub.drop) | ((apply PSub.take); (repeat' first | exact pick_hd | (apply pick_tl))))))) | fail)
          exact ih _ _ _ _ ⟨i + 1, m + 1, nc, na, xs ++ [(t.getD i 0).toNat - 48], rfl, rfl, ⟨by omega, by omega, by rw [List.length_append, g3]; rfl, by omega⟩, rfl⟩ (by omega) (by repeat' first | exact trivial | refine And.intro rfl ?_)
        · (apply S.drawL; (case Hs => exact .blk b4 (rnV mi noL off dn (.slice ea m ec) false w) 276 :: .blk b2 (rnV false noL 0 false noL false []) 276 :: H); (case es => exact  [7, 8, 10]); (case lt => exact  [10]); (case n => exact  11); (case hn => rfl))
          repeat' (first | ((with_reducible apply T.subU8N (n := 48)); apply rfl; apply rfl; omega; apply rfl) | (apply T.sidx; apply rfl; apply rfl; omega; apply rfl) | (apply T.mv; apply rfl; apply rfl) | (apply T.asn; apply rfl; apply rfl) | (apply T.fieldAddrZ; apply rfl; apply rfl) | (apply T.load; apply rfl; apply rfl; infer_instance; apply rfl; apply rfl) | (apply T.addI; apply rfl; apply rfl; omega; apply rfl) | (apply T.convI64; apply rfl; omega; apply rfl) | (apply T.store; apply rfl; apply rfl; infer_instance; (first | decide | (simp; omega) | simp); apply rfl) | (apply T.bs; apply rfl; apply rfl; apply rfl; apply rfl; apply rfl; apply rfl; intro nb) | (apply T.appendN; apply rfl; apply rfl; infer_instance; apply rfl; (constructor <;> omega); apply rfl; intro na nc) | with_reducible refine Sr.nil ?_ | with_reducible refine S.reg ?_ | with_reducible refine S.inBlock ?_ | (apply SA.qn; apply rfl; apply rfl; apply rfl; apply rfl; kernel_rfl) | (apply SA.qz; apply rfl; apply rfl; apply rfl; apply rfl; kernel_rfl) | (apply SA.qsn; apply rfl; apply rfl; apply rfl; kernel_rfl; (first | exact fun _ h => h | exact fun _ h => St.psub h (by ((repeat (first | dsimp only [List.set_cons_zero] | dsimp only [List.set_cons_succ])); repeat' first | exact PSub.refl _ | exact PSub.nil | (apply PSub.take; (repeat' first | (with_reducible exact pick_hd) | (with_reducible apply pick_tl))) | (with_reducible apply PSub.drop) | ((apply PSub.take); (repeat' first | exact pick_hd | (apply pick_tl))))))) | (apply SA.en; apply rfl; apply rfl; kernel_rfl) | (apply SA.done; apply rfl; kernel_rfl) | (apply SK.late; decide) | (apply SK.intro; (first | exact fun _ h => h | exact fun _ h => St.psub h (by ((repeat (first | dsimp only [List.set_cons_zero] | dsimp only [List.set_cons_succ])); repeat' first | exact PSub.refl _ | exact PSub.nil | (apply PSub.take; (repeat' first | (with_reducible exact pick_hd) | (with_reducible apply pick_tl))) | (with_reducible apply PSub.drop) | ((apply PSub.take); (repeat' first | exact pick_hd | (apply pick_tl))))))) | fail)
          exact ih _ _ _ _ ⟨i + 1, m + 1, nc, na, xs ++ [(t.getD i 0).toNat - 48], rfl, rfl, ⟨by omega, by omega, by rw [List.length_append, g3]; rfl, by omega⟩, rfl⟩ (by omega) (by repeat' first | exact trivial | refine And.intro rfl ?_)
        · exact ih _ _ _ _ ⟨i + 1, m, ec, ea, xs, rfl, rfl, ⟨by omega, by omega, g3, by omega⟩, rfl⟩ (by omega) (by repeat' first | exact trivial | refine And.intro rfl ?_)
      · obtain rfl : i = f := by omega
        repeat' (first | (apply T.mv; apply rfl; apply rfl) | (apply T.asn; apply rfl; apply rfl) | (apply T.lss; apply rfl; apply rfl; apply rfl) | with_reducible refine Sr.nil ?_ | with_reducible refine S.seq ?_ | with_reducible refine S.reg ?_ | (apply S.exit; apply rfl) | (apply S.condQ; apply rfl; all_goals (intro _; try (exfalso; first | omega | with_reducible contradiction))) | fail)
        refine S.sublist ?_ (PSub.drop (PSub.refl _))
        exact hrest _ _ _ ⟨dn, false, i, ea, m, ec, rfl, rfl, hf2, hN⟩ (by repeat' first | exact trivial | refine And.intro rfl ?_)
  clear hN
  rintro _ _ ⟨dn, pl, q, ea, em, ec, rfl, rfl, hq, hN⟩
  refine S.seq ?_
  refine S.cut (fun H' e' => H' = .blk b4 (rnV mi noL off dn (.slice ea em ec) pl w) 276 :: .blk b2 (rnV false noL 0 false noL false []) 276 :: H ∧ e' = [(0, sV t), (2, .pointer (some ⟨b2, 0, none⟩)), (4, .pointer (some ⟨b4, 0, none⟩)), (7, sV all)] ∧ np = some (mi, w, pl)) ?_ ?_
  · intro k' hrest
    by_cases h : q = t.length
    · rw [if_pos h] at hN
      repeat' (first | (apply T.slen; apply rfl; apply rfl) | (apply T.mv; apply rfl; apply rfl) | (apply T.neq; apply rfl; apply rfl; apply rfl) | with_reducible refine Sr.nil ?_ | with_reducible refine S.seq ?_ | with_reducible refine S.reg ?_ | with_reducible refine S.skip ?_ | (apply S.condQ; apply rfl; all_goals (intro _; try (exfalso; first | omega | with_reducible contradiction))) | fail)
      exact hrest _ _ _ ⟨rfl, rfl, hN⟩ (by repeat' first | exact trivial | refine And.intro rfl ?_)
    · rw [if_neg h] at hN
      subst hN
      repeat' (first | (apply T.slen; apply rfl; apply rfl) | (apply T.mv; apply rfl; apply rfl) | (apply T.asn; apply rfl; apply rfl) | (apply T.neq; apply rfl; apply rfl; apply rfl) | (apply T.loadW; apply rfl; apply rfl; infer_instance; (first | rfl | (simp only [List.length_append, List.length_map, List.length_set, List.length_replicate, List.length_cons, List.length_nil]; first | done | omega)); apply rfl) | (apply T.storeW; apply rfl; apply rfl; infer_instance; (first | rfl | (simp only [List.length_append, List.length_map, List.length_set, List.length_replicate, List.length_cons, List.length_nil]; first | done | omega)); (first | rfl | (simp only [List.length_append, List.length_map, List.length_set, List.length_replicate, List.length_cons, List.length_nil]; first | done | omega)); (first | rfl | (repeat' first | apply all_nV | apply all_bV | apply all_iV | rfl | apply all_app))) | with_reducible refine Sr.nil ?_ | with_reducible refine S.seq ?_ | with_reducible refine S.reg ?_ | (apply S.condQ; apply rfl; all_goals (intro _; try (exfalso; first | omega | with_reducible contradiction))) | (apply T.retC; apply rfl; ((repeat' first | apply RV.nil | (apply RV.tmp; apply rfl) | (apply RV.cellW; apply rfl; apply rfl; infer_instance; (first | rfl | (simp only [List.length_append, List.length_map, List.length_set, List.length_replicate, List.length_cons, List.length_nil]; first | done | omega))) | (apply RV.cellP; apply rfl; apply rfl; infer_instance; apply rfl))); apply rfl) | fail)
      exact ⟨_, PSub.drop (PSub.drop (PSub.refl _)), _, _, _, _, _, _, _, _, _, _, _, rfl, rfl, fun x hx => by cases hx⟩
  rintro _ _ ⟨rfl, rfl, hN2⟩
  subst hN2
  clear hN
  refine S.nilrow 3 1 ?_
  repeat' (first | (apply T.asn; apply rfl; apply rfl) | with_reducible refine Sr.nil ?_ | with_reducible refine S.seq ?_ | with_reducible refine S.block ?_ | with_reducible refine S.reg ?_ | fail)
  refine S.loopE 2 [2, 4, 7] (fun R b' μ H' e => ∃ (i m dc : Nat) (da : Option Addr) (xs : List Nat) (o : Int), H' = .row da dc 3 1 m (xs.map nV) :: .blk b4 (rnV mi (.slice da m dc) o dn (.slice ea em ec) pl w) 276 :: R ∧ e = (11, .int .i64 i) :: b' ∧ (i ≤ all.length ∧ xs.length = m ∧ m ≤ i ∧ -2000000 - (i : Int) ≤ o ∧ o ≤ 2000000) ∧ μ = all.length - i) rfl rfl ?_ _ _ ⟨0, 0, 0, none, [], off, rfl, rfl, ⟨Nat.zero_le _, rfl, Nat.zero_le _, by omega, ho.2⟩, rfl⟩ (by repeat' first | exact trivial | refine And.intro rfl ?_)
  rintro _ _ _ ⟨i, m, dc, da, xs, o, rfl, rfl, ⟨g1, g2, g3, g4, g5⟩, rfl⟩ ih
  by_cases g6 : i < all.length
  · have g7 := hall i g6
    have hbi : (all.getD i 0).toNat = bAt all i := rfl
    repeat' (first | ((with_reducible apply T.subU8N (n := 48)); apply rfl; apply rfl; omega; apply rfl) | (apply T.slen; apply rfl; apply rfl) | (apply T.sidx; apply rfl; apply rfl; omega; apply rfl) | (apply T.mv; apply rfl; apply rfl) | (apply T.asn; apply rfl; apply rfl) | (apply T.len; apply rfl; apply rfl) | (apply T.fieldAddrZ; apply rfl; apply rfl) | (apply T.load; apply rfl; apply rfl; infer_instance; apply rfl; apply rfl) | (apply T.lss; apply rfl; apply rfl; apply rfl) | (apply T.gtr; apply rfl; apply rfl; apply rfl) | (apply T.neq; apply rfl; apply rfl; apply rfl) | (apply T.addI; apply rfl; apply rfl; omega; apply rfl) | (apply T.subI; apply rfl; apply rfl; omega; apply rfl) | (apply T.pickT; apply rfl; apply rfl; apply rfl) | (apply T.pickF; apply rfl; apply rfl; apply rfl) | (apply T.convI64; apply rfl; omega; apply rfl) | (apply T.store; apply rfl; apply rfl; infer_instance; (first | decide | (simp; omega) | simp); apply rfl) | (apply T.bs; apply rfl; apply rfl; apply rfl; apply rfl; apply rfl; apply rfl; intro nb) | (apply T.appendN; apply rfl; apply rfl; infer_instance; apply rfl; (constructor <;> omega); apply rfl; intro na nc) | with_reducible refine Sr.nil ?_ | with_reducible refine S.seq ?_ | with_reducible refine S.block ?_ | with_reducible refine S.reg ?_ | with_reducible refine S.skip ?_ | with_reducible refine S.inBlock ?_ | (apply T.ungV; apply rfl; (first | with_reducible rfl | decide)) | (apply T.skip; apply rfl; (first | with_reducible rfl | decide); apply rfl) | (apply S.condTV; apply rfl; (first | with_reducible rfl | decide)) | (apply S.condQ; apply rfl; all_goals (intro _; try (exfalso; first | omega | with_reducible contradiction))) | (apply T.gcase; apply rfl; apply rfl; all_goals (intro _; try (exfalso; first | omega | with_reducible contradiction))) | fail)
    · exact ih _ _ _ _ ⟨i + 1, m + 1, nc, na, xs ++ [(all.getD i 0).toNat - 48], o, rfl, rfl, ⟨by omega, by rw [List.length_append, g2]; rfl, by omega, by omega, g5⟩, rfl⟩ (by omega) (by repeat' first | exact trivial | refine And.intro rfl ?_)
    · exact ih _ _ _ _ ⟨i + 1, m + 1, nc, na, xs ++ [(all.getD i 0).toNat - 48], o, rfl, rfl, ⟨by omega, by rw [List.length_append, g2]; rfl, by omega, by omega, g5⟩, rfl⟩ (by omega) (by repeat' first | exact trivial | refine And.intro rfl ?_)
    · exact ih _ _ _ _ ⟨i + 1, m, dc, da, xs, o - 1, rfl, rfl, ⟨by omega, g2, by omega, by omega, by omega⟩, rfl⟩ (by omega) (by repeat' first | exact trivial | refine And.intro rfl ?_)
  · obtain rfl : i = all.length := by omega
    clear ih
    repeat' (first | (apply T.slen; apply rfl; apply rfl) | (apply T.mv; apply rfl; apply rfl) | (apply T.lss; apply rfl; apply rfl; apply rfl) | with_reducible refine Sr.nil ?_ | with_reducible refine S.seq ?_ | with_reducible refine S.block ?_ | with_reducible refine S.reg ?_ | (apply S.exit; apply rfl) | (apply S.condQ; apply rfl; all_goals (intro _; try (exfalso; first | omega | with_reducible contradiction))) | fail)
    refine S.loopE 2 [2, 4] (fun R b' μ H' e => ∃ (m dc : Nat) (da : Option Addr) (xs : List Nat), H' = .row da dc 3 1 m (xs.map nV) :: .blk b4 (rnV mi (.slice da m dc) o dn (.slice ea em ec) pl w) 276 :: R ∧ e = b' ∧ (m = xs.length ∧ xs.length ≤ 2000000) ∧ μ = xs.length) rfl rfl ?_ _ _ ⟨m, dc, da, xs, rfl, rfl, ⟨g2.symm, by omega⟩, rfl⟩ (by repeat' first | exact trivial | refine And.intro rfl ?_)
    clear g2 g3
    rintro _ _ _ ⟨m, dc, da, xs, rfl, rfl, ⟨rfl, hxb⟩, rfl⟩ ih
    rcases List.eq_nil_or_concat xs with rfl | ⟨ys, v, rfl⟩
    · have g0 : ([] : List Nat).length = 0 := rfl
      repeat' (first | (apply T.mv; apply rfl; apply rfl) | (apply T.asn; apply rfl; apply rfl) | (apply T.len; apply rfl; apply rfl) | (apply T.fieldAddrZ; apply rfl; apply rfl) | (apply T.load; apply rfl; apply rfl; infer_instance; apply rfl; apply rfl) | (apply T.gtr; apply rfl; apply rfl; apply rfl) | (apply T.pickF; apply rfl; apply rfl; apply rfl) | (apply T.loadW; apply rfl; apply rfl; infer_instance; (first | rfl | (simp only [List.length_append, List.length_map, List.length_set, List.length_replicate, List.length_cons, List.length_nil]; first | done | omega)); apply rfl) | (apply T.storeW; apply rfl; apply rfl; infer_instance; (first | rfl | (simp only [List.length_append, List.length_map, List.length_set, List.length_replicate, List.length_cons, List.length_nil]; first | done | omega)); (first | rfl | (simp only [List.length_append, List.length_map, List.length_set, List.length_replicate, List.length_cons, List.length_nil]; first | done | omega)); (first | rfl | (repeat' first | apply all_nV | apply all_bV | apply all_iV | rfl | apply all_app))) | with_reducible refine Sr.nil ?_ | with_reducible refine S.seq ?_ | with_reducible refine S.reg ?_ | (apply S.exit; apply rfl) | (apply T.skip; apply rfl; (first | with_reducible rfl | decide); apply rfl) | (apply S.condFV; apply rfl; (first | with_reducible rfl | decide)) | (apply T.retC; apply rfl; ((repeat' first | apply RV.nil | (apply RV.tmp; apply rfl) | (apply RV.cellW; apply rfl; apply rfl; infer_instance; (first | rfl | (simp only [List.length_append, List.length_map, List.length_set, List.length_replicate, List.length_cons, List.length_nil]; first | done | omega))) | (apply RV.cellP; apply rfl; apply rfl; infer_instance; apply rfl))); apply rfl) | fail)
      exact ⟨_, PSub.drop (PSub.drop (PSub.drop (PSub.refl _))), _, _, _, _, _, _, _, _, _, _, _, rfl, rfl, fun x hx => by cases hx; rfl⟩
    · have hcl : (ys.concat v).length = ys.length + 1 := by simp
      rw [hcl] at hxb ⊢
      have e1 : ((ys.length + 1 : Nat) : Int) - 1 = ((ys.length : Nat) : Int) := by omega
      have hm : (ys.concat v).map nV = ys.map nV ++ [nV v] := by rw [List.concat_eq_append, List.map_append]; rfl
      have hv : (ys.concat v).getD ys.length 0 = v := by simp [List.getD]
      refine S.capR (ad := da) inferInstance fun hcap => ?_
      repeat' (first | (apply T.subI; apply rfl; apply rfl; omega; apply rfl; rw [e1]) | (apply T.loadNat; apply rfl; infer_instance; omega; apply rfl; rw [hv]) | (apply T.mv; apply rfl; apply rfl) | (apply T.asn; apply rfl; apply rfl) | (apply T.len; apply rfl; apply rfl) | (apply T.fieldAddrZ; apply rfl; apply rfl) | (apply T.load; apply rfl; apply rfl; infer_instance; apply rfl; apply rfl) | (apply T.gtr; apply rfl; apply rfl; apply rfl) | (apply T.eql; apply rfl; apply rfl; apply rfl) | (apply T.ixN; apply rfl; apply rfl; infer_instance; omega; (first | omega | (simp only [List.length_map]; omega) | (simp; omega)); apply rfl) | (apply T.pickT; apply rfl; apply rfl; apply rfl) | (apply T.loadW; apply rfl; apply rfl; infer_instance; (first | rfl | (simp only [List.length_append, List.length_map, List.length_set, List.length_replicate, List.length_cons, List.length_nil]; first | done | omega)); apply rfl) | (apply T.sliceHK; apply rfl; apply rfl; omega; apply rfl) | (apply T.storeW; apply rfl; apply rfl; infer_instance; (first | rfl | (simp only [List.length_append, List.length_map, List.length_set, List.length_replicate, List.length_cons, List.length_nil]; first | done | omega)); (first | rfl | (simp only [List.length_append, List.length_map, List.length_set, List.length_replicate, List.length_cons, List.length_nil]; first | done | omega)); (first | rfl | (repeat' first | apply all_nV | apply all_bV | apply all_iV | rfl | apply all_app))) | (apply T.store; apply rfl; apply rfl; infer_instance; (first | decide | (simp; omega) | simp); apply rfl) | with_reducible refine Sr.nil ?_ | with_reducible refine S.seq ?_ | with_reducible refine S.block ?_ | with_reducible refine S.reg ?_ | with_reducible refine S.skip ?_ | with_reducible refine S.inBlock ?_ | (apply S.exit; apply rfl) | (apply T.ungV; apply rfl; (first | with_reducible rfl | decide)) | (apply S.condQ; apply rfl; all_goals (intro _; try (exfalso; first | omega | with_reducible contradiction))) | (apply T.gcase; apply rfl; apply rfl; all_goals (intro _; try (exfalso; first | omega | with_reducible contradiction))) | (apply T.retC; apply rfl; ((repeat' first | apply RV.nil | (apply RV.tmp; apply rfl) | (apply RV.cellW; apply rfl; apply rfl; infer_instance; (first | rfl | (simp only [List.length_append, List.length_map, List.length_set, List.length_replicate, List.length_cons, List.length_nil]; first | done | omega))) | (apply RV.cellP; apply rfl; apply rfl; infer_instance; apply rfl))); apply rfl) | fail)
      · rw [hm]
        refine S.frontR da ?_
        refine S.shrink ?_
        exact ih _ _ _ _ ⟨ys.length, dc, da, ys, rfl, rfl, ⟨rfl, by omega⟩, rfl⟩ (by rw [hcl]; omega) (by repeat' first | exact trivial | refine And.intro rfl ?_)
      · exact ⟨_, PSub.drop (PSub.drop (PSub.drop (PSub.refl _))), _, _, _, _, _, _, _, _, _, _, _, rfl, rfl, fun x hx => by cases hx; rfl⟩
end
end Go.Proofs.YtddbdgmaaogclaaGreatDoor
/- The walks of the document's numbers: whole ones. -/
namespace Sg
open Go Go.RowKit
section
variable {c : Ctx} {ds : List Deferred} {H : List Res} {ops : Array Oper} {l : List Oper} {κ : List Res → Env → Prop} {q : Mode} {e : Env} {pos : String} {aft : Array Edge} {ty : TypeId}
/-- A number below 0, divided: cut towards 0. -/
theorem T.quoNeg {x y : Operand} {d : Tmp} {t u : TypeId} {m : Nat} (n : Nat) (hx : ev e x = some (.int .i64 (-(m : Int)))) (hy : ev e y = some (.int .i64 (n : Int))) (h0 : 0 < n ∧ m ≤ 9223372036854775808) (hlt : Nat.blt d c.fn.ntmps = true) (hk : Sr q c ds H ops l κ ((d, .int .i64 (-((m / n : Nat) : Int))) :: e)) :
    Sr q c ds H ops (⟨some d, .binOp .quo t x y u, ty, pos, aft, none⟩ :: l) κ e := Sr.p (Pu.quo hx hy (by omega) (by
      have := Nat.div_le_self m n
      rw [Int.neg_tdiv, ← Int.ofNat_tdiv]
      generalize m / n = k at *
      exact IntWalk.i64_in _ (by omega))) rfl hlt rfl hk
theorem T.negI {x : Operand} {d : Tmp} {t : TypeId} {m : Int} (hx : ev e x = some (.int .i64 m)) (h : -9223372036854775808 ≤ 0 - m ∧ 0 - m ≤ 9223372036854775807) (hlt : Nat.blt d c.fn.ntmps = true) (hk : Sr q c ds H ops l κ ((d, .int .i64 (0 - m)) :: e)) :
    Sr q c ds H ops (⟨some d, .unOp .neg t x, ty, pos, aft, none⟩ :: l) κ e := Sr.p (Pu.neg hx (IntWalk.i64_in _ h)) rfl hlt rfl hk
end
end Sg
namespace Go.Proofs.YtddbdgmaaogclaaGreatDoor
open Sg Go.IntWalk
set_option maxRecDepth 100000
set_option maxHeartbeats 4000000
section
variable {F : World} {M : List Nat} {H : List Res} {t : List UInt8} {p : Nat}
theorem refWhole_spec (hl : t.length ≤ 1000000) : Meets Tryz.prog 177 [sV t] F M H (fun e H' => e = .returned (.tuple ⟨[.int .i64 (wholeX t).1, .bool (wholeX t).2]⟩) ∧ H' = H) := by
  refine Meets.enter Tryz.func177 rfl rfl ?_
  repeat' (first | (apply T.mv; apply rfl; apply rfl) | (apply T.asn; apply rfl; apply rfl) | with_reducible refine Sr.nil ?_ | with_reducible refine S.seq ?_ | with_reducible refine S.reg ?_ | fail)
  refine T.call rfl rfl (refRead_spec hl) ?_
  rintro _ _ ⟨mi, pl, dn, w, da, ea, dm, dc, em, ec, off, rfl, hH, hx⟩
  have hH2 := hH.symm
  subst hH2
  unfold wholeX
  cases hn : numP t with
  | none =>
    repeat' (first | (apply T.mv; apply rfl; apply rfl) | (apply T.asn; apply rfl; apply rfl) | (apply T.extract; apply rfl; apply rfl; apply rfl) | (apply T.notB; apply rfl; apply rfl) | (apply T.pickT; apply rfl; apply rfl; apply rfl) | (apply T.storeW; apply rfl; apply rfl; infer_instance; (first | rfl | (simp only [List.length_append, List.length_map, List.length_set, List.length_replicate, List.length_cons, List.length_nil]; first | done | omega)); (first | rfl | (simp only [List.length_append, List.length_map, List.length_set, List.length_replicate, List.length_cons, List.length_nil]; first | done | omega)); (first | rfl | (repeat' first | apply all_nV | apply all_bV | apply all_iV | rfl | apply all_app))) | (apply T.alloc; apply rfl; intro nb) | with_reducible refine Sr.nil ?_ | with_reducible refine S.seq ?_ | with_reducible refine S.reg ?_ | (apply T.skip; apply rfl; (first | with_reducible rfl | decide); apply rfl) | (apply S.condTV; apply rfl; (first | with_reducible rfl | decide)) | (apply T.retW; apply rfl) | (with_reducible apply T.ofRet) | fail)
    exact ⟨_, PSub.drop (PSub.refl _), rfl, rfl⟩
  | some x =>
    obtain rfl := hx x hn
    obtain ⟨hd, hw⟩ := numP_digits hn
    cases pl with
    | false =>
      repeat' (first | (apply T.mv; apply rfl; apply rfl) | (apply T.asn; apply rfl; apply rfl) | (apply T.fieldAddrZ; apply rfl; apply rfl) | (apply T.load; apply rfl; apply rfl; infer_instance; apply rfl; apply rfl) | (apply T.extract; apply rfl; apply rfl; apply rfl) | (apply T.notB; apply rfl; apply rfl) | (apply T.pickF; apply rfl; apply rfl; apply rfl) | (apply T.storeW; apply rfl; apply rfl; infer_instance; (first | rfl | (simp only [List.length_append, List.length_map, List.length_set, List.length_replicate, List.length_cons, List.length_nil]; first | done | omega)); (first | rfl | (simp only [List.length_append, List.length_map, List.length_set, List.length_replicate, List.length_cons, List.length_nil]; first | done | omega)); (first | rfl | (repeat' first | apply all_nV | apply all_bV | apply all_iV | rfl | apply all_app))) | (apply T.alloc; apply rfl; intro nb) | with_reducible refine Sr.nil ?_ | with_reducible refine S.seq ?_ | with_reducible refine S.reg ?_ | (apply S.condTV; apply rfl; (first | with_reducible rfl | decide)) | (apply T.retW; apply rfl) | (with_reducible apply T.ofRet) | (apply T.ung; apply rfl) | fail)
      exact ⟨_, PSub.drop (PSub.refl _), rfl, rfl⟩
    | true =>
      simp only
      have h00 : (0 : Int) = -((decV (w.take 0) : Nat) : Int) := rfl
      repeat' (first | (apply T.mv; apply rfl; apply rfl) | (apply T.asn; apply rfl; apply rfl) | (apply T.fieldAddrZ; apply rfl; apply rfl) | (apply T.load; apply rfl; apply rfl; infer_instance; apply rfl; apply rfl) | (apply T.extract; apply rfl; apply rfl; apply rfl) | (apply T.notB; apply rfl; apply rfl) | (apply T.pickF; apply rfl; apply rfl; apply rfl) | (apply T.storeW; apply rfl; apply rfl; infer_instance; (first | rfl | (simp only [List.length_append, List.length_map, List.length_set, List.length_replicate, List.length_cons, List.length_nil]; first | done | omega)); (first | rfl | (simp only [List.length_append, List.length_map, List.length_set, List.length_replicate, List.length_cons, List.length_nil]; first | done | omega)); (first | rfl | (repeat' first | apply all_nV | apply all_bV | apply all_iV | rfl | apply all_app))) | (apply T.alloc; apply rfl; intro nb) | with_reducible refine Sr.nil ?_ | with_reducible refine S.seq ?_ | with_reducible refine S.block ?_ | with_reducible refine S.reg ?_ | with_reducible refine S.skip ?_ | (apply S.condFV; apply rfl; (first | with_reducible rfl | decide)) | (with_reducible apply T.ofRet) | (apply T.ung; apply rfl) | fail)
      refine S.loopE 1 [4] (fun R b' μ H' e => ∃ i : Nat, H' = .blk nb (rnV mi (.slice da dm dc) off dn (.slice ea em ec) true w) 276 :: R ∧ e = (6, .int .i64 (-(decV (w.take i) : Nat))) :: (7, .int .i64 i) :: b' ∧ (i ≤ w.length ∧ decV (w.take i) ≤ 9223372036854775808) ∧ μ = w.length - i) rfl rfl ?_ _ _ ⟨0, rfl, rfl, ⟨Nat.zero_le _, by simp [decV]⟩, rfl⟩ (by repeat' first | exact trivial | refine And.intro rfl ?_)
      rintro _ _ _ ⟨i, rfl, rfl, ⟨h1, h2⟩, rfl⟩ ih
      by_cases h3 : i < w.length
      · have hdi := hd i h3
        have hb : (w.getD i 0).toNat = bAt w i := rfl
        have hstep : decV (w.take (i + 1)) = 10 * decV (w.take i) + (bAt w i - 48) := by
          have hg : w[i] = w.getD i 0 := by simp [List.getD, h3]
          rw [List.take_succ_eq_append_getElem h3, decV_snoc, hg, hb]
        have hmono := decV_mono (l := w) (i := i + 1) (by omega)
        have e3 : (-9223372036854775808 : Int) + (((w.getD i 0).toNat - 48 : Nat) : Int) = -((9223372036854775808 - ((w.getD i 0).toNat - 48) : Nat) : Int) := by omega
        have e4 : 10 * (-((decV (w.take i) : Nat) : Int)) - (((w.getD i 0).toNat - 48 : Nat) : Int) = -((decV (w.take (i + 1)) : Nat) : Int) := by rw [hstep, hb]; omega
        generalize hN : 9223372036854775808 - ((w.getD i 0).toNat - 48) = N at *
        by_cases h4 : decV (w.take (i + 1)) ≤ 9223372036854775808
        · have h5 : ¬ (-((decV (w.take i) : Nat) : Int) < -((N / 10 : Nat) : Int)) := by omega
          repeat' (first | ((with_reducible apply T.subU8N (n := 48)); apply rfl; apply rfl; omega; apply rfl) | (apply T.addI; apply rfl; apply rfl; omega; apply rfl; rw [e3]) | (refine T.quoNeg 10 rfl rfl (by omega) rfl ?_) | (apply T.subI; apply rfl; apply rfl; omega; apply rfl; rw [e4]) | (apply T.slen; apply rfl; apply rfl) | (apply T.sidx; apply rfl; apply rfl; omega; apply rfl) | (apply T.mv; apply rfl; apply rfl) | (apply T.asn; apply rfl; apply rfl) | (apply T.fieldAddrZ; apply rfl; apply rfl) | (apply T.load; apply rfl; apply rfl; infer_instance; apply rfl; apply rfl) | (apply T.lss; apply rfl; apply rfl; apply rfl) | (apply T.addI; apply rfl; apply rfl; omega; apply rfl) | (apply T.mulI; apply rfl; apply rfl; omega; apply rfl) | (apply T.convI64; apply rfl; omega; apply rfl) | with_reducible refine Sr.nil ?_ | with_reducible refine S.seq ?_ | with_reducible refine S.block ?_ | with_reducible refine S.reg ?_ | with_reducible refine S.skip ?_ | with_reducible refine S.inBlock ?_ | (apply S.condQ; apply rfl; all_goals (intro _; try (exfalso; first | omega | with_reducible contradiction))) | fail)
          exact ih _ _ _ _ ⟨i + 1, rfl, rfl, ⟨by omega, h4⟩, rfl⟩ (by omega) (by repeat' first | exact trivial | refine And.intro rfl ?_)
        · have hv : whole64 mi (decV w) = (0, false) := by
            unfold whole64
            cases mi
            · rw [if_neg (by simp), if_neg (by omega)]
            · rw [if_pos rfl, if_neg (by omega)]
          have h5 : -((decV (w.take i) : Nat) : Int) < -((N / 10 : Nat) : Int) := by omega
          rw [hv]
          repeat' (first | ((with_reducible apply T.subU8N (n := 48)); apply rfl; apply rfl; omega; apply rfl) | (apply T.addI; apply rfl; apply rfl; omega; apply rfl; rw [e3]) | (refine T.quoNeg 10 rfl rfl (by omega) rfl ?_) | (apply T.slen; apply rfl; apply rfl) | (apply T.sidx; apply rfl; apply rfl; omega; apply rfl) | (apply T.mv; apply rfl; apply rfl) | (apply T.asn; apply rfl; apply rfl) | (apply T.fieldAddrZ; apply rfl; apply rfl) | (apply T.load; apply rfl; apply rfl; infer_instance; apply rfl; apply rfl) | (apply T.lss; apply rfl; apply rfl; apply rfl) | (apply T.convI64; apply rfl; omega; apply rfl) | with_reducible refine Sr.nil ?_ | with_reducible refine S.seq ?_ | with_reducible refine S.block ?_ | with_reducible refine S.reg ?_ | with_reducible refine S.skip ?_ | (apply S.condQ; apply rfl; all_goals (intro _; try (exfalso; first | omega | with_reducible contradiction))) | (apply T.retW; apply rfl) | fail)
          exact ⟨_, PSub.drop (PSub.refl _), rfl, rfl⟩
      · obtain rfl : i = w.length := by omega
        rw [List.take_length] at h2 ⊢
        unfold whole64
        cases mi with
        | true =>
          rw [if_pos rfl, if_pos h2]
          repeat' (first | (apply T.slen; apply rfl; apply rfl) | (apply T.mv; apply rfl; apply rfl) | (apply T.asn; apply rfl; apply rfl) | (apply T.fieldAddrZ; apply rfl; apply rfl) | (apply T.load; apply rfl; apply rfl; infer_instance; apply rfl; apply rfl) | (apply T.lss; apply rfl; apply rfl; apply rfl) | with_reducible refine Sr.nil ?_ | with_reducible refine S.seq ?_ | with_reducible refine S.reg ?_ | (apply S.exit; apply rfl) | (apply S.condTV; apply rfl; (first | with_reducible rfl | decide)) | (apply S.condQ; apply rfl; all_goals (intro _; try (exfalso; first | omega | with_reducible contradiction))) | (apply T.retW; apply rfl) | fail)
          exact ⟨_, PSub.drop (PSub.refl _), rfl, rfl⟩
        | false =>
          rw [if_neg (by simp)]
          by_cases h5 : decV w < 9223372036854775808
          · rw [if_pos h5]
            have e5 : (0 : Int) - -((decV w : Nat) : Int) = ((decV w : Nat) : Int) := by omega
            repeat' (first | (refine T.negI rfl (by omega) rfl ?_; rw [e5]) | (apply T.slen; apply rfl; apply rfl) | (apply T.mv; apply rfl; apply rfl) | (apply T.asn; apply rfl; apply rfl) | (apply T.fieldAddrZ; apply rfl; apply rfl) | (apply T.load; apply rfl; apply rfl; infer_instance; apply rfl; apply rfl) | (apply T.lss; apply rfl; apply rfl; apply rfl) | (apply T.eql; apply rfl; apply rfl; apply rfl) | with_reducible refine Sr.nil ?_ | with_reducible refine S.seq ?_ | with_reducible refine S.reg ?_ | with_reducible refine S.skip ?_ | (apply S.exit; apply rfl) | (apply S.condFV; apply rfl; (first | with_reducible rfl | decide)) | (apply S.condQ; apply rfl; all_goals (intro _; try (exfalso; first | omega | with_reducible contradiction))) | (apply T.retW; apply rfl) | fail)
            exact ⟨_, PSub.drop (PSub.refl _), rfl, rfl⟩
          · rw [if_neg h5]
            repeat' (first | (apply T.slen; apply rfl; apply rfl) | (apply T.mv; apply rfl; apply rfl) | (apply T.asn; apply rfl; apply rfl) | (apply T.fieldAddrZ; apply rfl; apply rfl) | (apply T.load; apply rfl; apply rfl; infer_instance; apply rfl; apply rfl) | (apply T.lss; apply rfl; apply rfl; apply rfl) | (apply T.eql; apply rfl; apply rfl; apply rfl) | with_reducible refine Sr.nil ?_ | with_reducible refine S.seq ?_ | with_reducible refine S.reg ?_ | with_reducible refine S.skip ?_ | (apply S.exit; apply rfl) | (apply S.condFV; apply rfl; (first | with_reducible rfl | decide)) | (apply S.condQ; apply rfl; all_goals (intro _; try (exfalso; first | omega | with_reducible contradiction))) | (apply T.retW; apply rfl) | fail)
            exact ⟨_, PSub.drop (PSub.refl _), rfl, rfl⟩
end
end Go.Proofs.YtddbdgmaaogclaaGreatDoor
/- The walks of the document's reader of JSON: numbers. -/
namespace Go.Proofs.YtddbdgmaaogclaaGreatDoor
open Sg Go.IntWalk
set_option maxRecDepth 100000
set_option maxHeartbeats 4000000
section
variable {F : World} {M : List Nat} {H : List Res} {t : List UInt8} {p : Nat}
theorem digsX_code {t : List UInt8} {q : Nat} {c : Int} {b : Nat} (h : digsX t q = .bad c b) : c = 31 := by
  unfold digsX at h
  split at h
  · cases h; rfl
  · cases h
theorem byteI_is {q c : Nat} (h : bAt t q = c) (hc : 0 < c) : byteI t q = (c : Int) := by
  have := bAt_lt_of (t := t) (p := q) (by omega)
  rw [byteI_lt this, h]
theorem byteI_not {q c : Nat} (h : ¬ bAt t q = c) : ¬ byteI t q = (c : Int) := by
  by_cases hq : q < t.length
  · rw [byteI_lt hq]; omega
  · rw [byteI_ge hq]; omega
/-- A number's node. -/
def numN (t : List UInt8) (p a : Nat) : Nd := { nd 4 with text := sl t p a, int := (wholeX (sl t p a)).1, whole := (wholeX (sl t p a)).2 }
theorem refNumber_spec (hp : p < t.length) (hl : t.length ≤ 262144) : Meets Tryz.prog 125 [sV t, .int .i64 p] F M H (VaE H ((numX t p).bind fun a _ => .ok a [numN t p a])) := by
  refine Meets.enter Tryz.func125 rfl rfl ?_
  have hfit := numX_fits (t := t) (p := p) (by omega)
  have hN : numX t p = (numInt t (if atB t p 45 then p + 1 else p)).bind fun a _ => (numFrac t a).bind fun b _ => numExp t b := rfl
  generalize numX t p = Q at *
  refine S.seq ?_
  repeat' (first | (apply T.alloc; apply rfl; intro nb) | with_reducible refine Sr.nil ?_ | with_reducible refine S.reg ?_ | fail)
  revert nb
  intro b4
  refine S.seq ?_
  repeat' (first | (apply T.mv; apply rfl; apply rfl) | (apply T.asn; apply rfl; apply rfl) | with_reducible refine Sr.nil ?_ | with_reducible refine S.reg ?_ | fail)
  refine S.seq ?_
  refine S.cut (fun H' e' => ∃ a : Nat, H' = .blk b4 (goV 0 noL [] 0 0) 152 :: H ∧ e' = [(0, sV t), (1, .int .i64 p), (4, .pointer (some ⟨b4, 0, none⟩)), (5, .int .i64 a)] ∧ a ≤ t.length ∧ Q = (numInt t a).bind fun a _ => (numFrac t a).bind fun b _ => numExp t b) ?_ ?_
  · intro k' hrest
    have hb : (t.getD p 0).toNat = bAt t p := rfl
    rw [atB_bAt (by decide)] at hN
    by_cases h : bAt t p = 45
    · rw [if_pos (by rw [decide_eq_true_eq]; exact h)] at hN
      repeat' (first | (apply T.sidx; apply rfl; apply rfl; omega; apply rfl) | (apply T.mv; apply rfl; apply rfl) | (apply T.asn; apply rfl; apply rfl) | (apply T.eql; apply rfl; apply rfl; apply rfl) | (apply T.addI; apply rfl; apply rfl; omega; apply rfl) | with_reducible refine Sr.nil ?_ | with_reducible refine S.seq ?_ | with_reducible refine S.reg ?_ | (apply S.condQ; apply rfl; all_goals (intro _; try (exfalso; first | omega | with_reducible contradiction))) | fail)
      exact hrest _ _ _ ⟨p + 1, rfl, rfl, by omega, hN⟩ (by repeat' first | exact trivial | refine And.intro rfl ?_)
    · rw [if_neg (by rw [decide_eq_true_eq]; exact h)] at hN
      repeat' (first | (apply T.sidx; apply rfl; apply rfl; omega; apply rfl) | (apply T.mv; apply rfl; apply rfl) | (apply T.eql; apply rfl; apply rfl; apply rfl) | with_reducible refine Sr.nil ?_ | with_reducible refine S.seq ?_ | with_reducible refine S.reg ?_ | with_reducible refine S.skip ?_ | (apply S.condQ; apply rfl; all_goals (intro _; try (exfalso; first | omega | with_reducible contradiction))) | fail)
      exact hrest _ _ _ ⟨p, rfl, rfl, by omega, hN⟩ (by repeat' first | exact trivial | refine And.intro rfl ?_)
  clear hN
  rintro _ _ ⟨a, rfl, rfl, ha, hN⟩
  refine S.seq ?_
  refine S.cut (fun H' e' => ∃ a : Nat, H' = .blk b4 (goV 0 noL [] 0 0) 152 :: H ∧ e' = [(0, sV t), (1, .int .i64 p), (4, .pointer (some ⟨b4, 0, none⟩)), (5, .int .i64 a)] ∧ a ≤ t.length ∧ Q = (numFrac t a).bind fun b _ => numExp t b) ?_ ?_
  · intro k' hrest
    unfold numInt at hN
    rw [atB_bAt (by decide)] at hN
    repeat' (first | (apply T.mv; apply rfl; apply rfl) | with_reducible refine S.seq ?_ | with_reducible refine S.reg ?_ | fail)
    refine T.call rfl rfl byteAt_spec ?_
    rintro _ _ ⟨rfl, rfl⟩
    by_cases h : bAt t a = 48
    · rw [if_pos (by rw [decide_eq_true_eq]; exact h)] at hN
      have := bAt_lt_of (t := t) (p := a) (by omega)
      rw [byteI_is h (by omega)]
      repeat' (first | (apply T.mv; apply rfl; apply rfl) | (apply T.asn; apply rfl; apply rfl) | (apply T.eql; apply rfl; apply rfl; apply rfl) | (apply T.addI; apply rfl; apply rfl; omega; apply rfl) | with_reducible refine Sr.nil ?_ | with_reducible refine S.reg ?_ | (apply S.condTV; apply rfl; (first | with_reducible rfl | decide)) | (with_reducible apply T.ofRet) | fail)
      exact hrest _ _ _ ⟨a + 1, rfl, rfl, by omega, hN⟩ (by repeat' first | exact trivial | refine And.intro rfl ?_)
    · have hI := byteI_not h
      rw [if_neg (by rw [decide_eq_true_eq]; exact h)] at hN
      repeat' (first | (apply T.mv; apply rfl; apply rfl) | (apply T.eql; apply rfl; apply rfl; apply rfl) | with_reducible refine Sr.nil ?_ | with_reducible refine S.seq ?_ | with_reducible refine S.reg ?_ | (apply S.condQ; apply rfl; all_goals (intro _; try (exfalso; first | omega | with_reducible contradiction))) | (with_reducible apply T.ofRet) | fail)
      refine T.call rfl rfl (refDigits_spec ha (by omega)) ?_
      have hf := digsX_fits ha
      cases hx : digsX t a with
      | bad c b =>
        rw [hx] at hN
        obtain rfl := digsX_code hx
        rw [hN]
        rintro _ _ ⟨rfl, rfl⟩
        repeat' (first | (apply T.fieldAddrZ; apply rfl; apply rfl) | (apply T.load; apply rfl; apply rfl; infer_instance; apply rfl; apply rfl) | (apply T.neq; apply rfl; apply rfl; apply rfl) | (apply T.loadW; apply rfl; apply rfl; infer_instance; (first | rfl | (simp only [List.length_append, List.length_map, List.length_set, List.length_replicate, List.length_cons, List.length_nil]; first | done | omega)); apply rfl) | (apply T.storeW; apply rfl; apply rfl; infer_instance; (first | rfl | (simp only [List.length_append, List.length_map, List.length_set, List.length_replicate, List.length_cons, List.length_nil]; first | done | omega)); (first | rfl | (simp only [List.length_append, List.length_map, List.length_set, List.length_replicate, List.length_cons, List.length_nil]; first | done | omega)); (first | rfl | (repeat' first | apply all_nV | apply all_bV | apply all_iV | rfl | apply all_app))) | (apply T.alloc; apply rfl; intro nb) | with_reducible refine Sr.nil ?_ | with_reducible refine S.seq ?_ | with_reducible refine S.reg ?_ | (apply S.condTV; apply rfl; (first | with_reducible rfl | decide)) | (with_reducible apply T.ofRet) | (apply T.retC; apply rfl; ((repeat' first | apply RV.nil | (apply RV.tmp; apply rfl) | (apply RV.cellW; apply rfl; apply rfl; infer_instance; (first | rfl | (simp only [List.length_append, List.length_map, List.length_set, List.length_replicate, List.length_cons, List.length_nil]; first | done | omega))) | (apply RV.cellP; apply rfl; apply rfl; infer_instance; apply rfl))); apply rfl) | fail)
        exact ⟨_, PSub.drop (PSub.drop (PSub.refl _)), [], rfl, rfl⟩
      | ok b v =>
        rw [hx] at hN
        have := hf b v hx
        rintro _ _ ⟨rfl, rfl⟩
        repeat' (first | (apply T.asn; apply rfl; apply rfl) | (apply T.fieldAddrZ; apply rfl; apply rfl) | (apply T.load; apply rfl; apply rfl; infer_instance; apply rfl; apply rfl) | (apply T.neq; apply rfl; apply rfl; apply rfl) | (apply T.storeW; apply rfl; apply rfl; infer_instance; (first | rfl | (simp only [List.length_append, List.length_map, List.length_set, List.length_replicate, List.length_cons, List.length_nil]; first | done | omega)); (first | rfl | (simp only [List.length_append, List.length_map, List.length_set, List.length_replicate, List.length_cons, List.length_nil]; first | done | omega)); (first | rfl | (repeat' first | apply all_nV | apply all_bV | apply all_iV | rfl | apply all_app))) | (apply T.alloc; apply rfl; intro nb) | with_reducible refine Sr.nil ?_ | with_reducible refine S.seq ?_ | with_reducible refine S.reg ?_ | with_reducible refine S.skip ?_ | (apply S.condFV; apply rfl; (first | with_reducible rfl | decide)) | (with_reducible apply T.ofRet) | fail)
        refine S.sublist ?_ (PSub.drop (PSub.refl _))
        exact hrest _ _ _ ⟨b, rfl, rfl, by omega, hN⟩ (by repeat' first | exact trivial | refine And.intro rfl ?_)
  clear hN ha a
  rintro _ _ ⟨a, rfl, rfl, ha, hN⟩
  refine S.seq ?_
  refine S.cut (fun H' e' => ∃ a : Nat, H' = .blk b4 (goV 0 noL [] 0 0) 152 :: H ∧ e' = [(0, sV t), (1, .int .i64 p), (4, .pointer (some ⟨b4, 0, none⟩)), (5, .int .i64 a)] ∧ a ≤ t.length ∧ Q = numExp t a) ?_ ?_
  · intro k' hrest
    unfold numFrac at hN
    rw [atB_bAt (by decide)] at hN
    repeat' (first | (apply T.mv; apply rfl; apply rfl) | with_reducible refine S.seq ?_ | with_reducible refine S.reg ?_ | fail)
    refine T.call rfl rfl byteAt_spec ?_
    rintro _ _ ⟨rfl, rfl⟩
    by_cases h : bAt t a = 46
    · rw [if_pos (by rw [decide_eq_true_eq]; exact h)] at hN
      have h1 := bAt_lt_of (t := t) (p := a) (by omega)
      have e1 : (a : Int) + 1 = ((a + 1 : Nat) : Int) := by omega
      rw [byteI_is h (by omega)]
      repeat' (first | (apply T.addI; apply rfl; apply rfl; omega; apply rfl; rw [e1]) | (apply T.mv; apply rfl; apply rfl) | (apply T.eql; apply rfl; apply rfl; apply rfl) | with_reducible refine Sr.nil ?_ | with_reducible refine S.seq ?_ | with_reducible refine S.reg ?_ | (apply S.condTV; apply rfl; (first | with_reducible rfl | decide)) | (with_reducible apply T.ofRet) | fail)
      refine T.call rfl rfl (refDigits_spec (p := a + 1) (by omega) (by omega)) ?_
      have hf := digsX_fits (t := t) (p := a + 1) (by omega)
      cases hx : digsX t (a + 1) with
      | bad c b =>
        rw [hx] at hN
        obtain rfl := digsX_code hx
        rw [hN]
        rintro _ _ ⟨rfl, rfl⟩
        repeat' (first | (apply T.fieldAddrZ; apply rfl; apply rfl) | (apply T.load; apply rfl; apply rfl; infer_instance; apply rfl; apply rfl) | (apply T.neq; apply rfl; apply rfl; apply rfl) | (apply T.loadW; apply rfl; apply rfl; infer_instance; (first | rfl | (simp only [List.length_append, List.length_map, List.length_set, List.length_replicate, List.length_cons, List.length_nil]; first | done | omega)); apply rfl) | (apply T.storeW; apply rfl; apply rfl; infer_instance; (first | rfl | (simp only [List.length_append, List.length_map, List.length_set, List.length_replicate, List.length_cons, List.length_nil]; first | done | omega)); (first | rfl | (simp only [List.length_append, List.length_map, List.length_set, List.length_replicate, List.length_cons, List.length_nil]; first | done | omega)); (first | rfl | (repeat' first | apply all_nV | apply all_bV | apply all_iV | rfl | apply all_app))) | (apply T.alloc; apply rfl; intro nb) | with_reducible refine Sr.nil ?_ | with_reducible refine S.seq ?_ | with_reducible refine S.reg ?_ | (apply S.condTV; apply rfl; (first | with_reducible rfl | decide)) | (with_reducible apply T.ofRet) | (apply T.retC; apply rfl; ((repeat' first | apply RV.nil | (apply RV.tmp; apply rfl) | (apply RV.cellW; apply rfl; apply rfl; infer_instance; (first | rfl | (simp only [List.length_append, List.length_map, List.length_set, List.length_replicate, List.length_cons, List.length_nil]; first | done | omega))) | (apply RV.cellP; apply rfl; apply rfl; infer_instance; apply rfl))); apply rfl) | fail)
        exact ⟨_, PSub.drop (PSub.drop (PSub.refl _)), [], rfl, rfl⟩
      | ok b v =>
        rw [hx] at hN
        have := hf b v hx
        rintro _ _ ⟨rfl, rfl⟩
        repeat' (first | (apply T.asn; apply rfl; apply rfl) | (apply T.fieldAddrZ; apply rfl; apply rfl) | (apply T.load; apply rfl; apply rfl; infer_instance; apply rfl; apply rfl) | (apply T.neq; apply rfl; apply rfl; apply rfl) | (apply T.storeW; apply rfl; apply rfl; infer_instance; (first | rfl | (simp only [List.length_append, List.length_map, List.length_set, List.length_replicate, List.length_cons, List.length_nil]; first | done | omega)); (first | rfl | (simp only [List.length_append, List.length_map, List.length_set, List.length_replicate, List.length_cons, List.length_nil]; first | done | omega)); (first | rfl | (repeat' first | apply all_nV | apply all_bV | apply all_iV | rfl | apply all_app))) | (apply T.alloc; apply rfl; intro nb) | with_reducible refine Sr.nil ?_ | with_reducible refine S.seq ?_ | with_reducible refine S.reg ?_ | with_reducible refine S.skip ?_ | (apply S.condFV; apply rfl; (first | with_reducible rfl | decide)) | (with_reducible apply T.ofRet) | fail)
        refine S.sublist ?_ (PSub.drop (PSub.refl _))
        exact hrest _ _ _ ⟨b, rfl, rfl, by omega, hN⟩ (by repeat' first | exact trivial | refine And.intro rfl ?_)
    · have hI := byteI_not h
      rw [if_neg (by rw [decide_eq_true_eq]; exact h)] at hN
      repeat' (first | (apply T.eql; apply rfl; apply rfl; apply rfl) | with_reducible refine Sr.nil ?_ | with_reducible refine S.skip ?_ | (apply S.condQ; apply rfl; all_goals (intro _; try (exfalso; first | omega | with_reducible contradiction))) | (with_reducible apply T.ofRet) | fail)
      exact hrest _ _ _ ⟨a, rfl, rfl, by omega, hN⟩ (by repeat' first | exact trivial | refine And.intro rfl ?_)
  clear hN ha a
  rintro _ _ ⟨a, rfl, rfl, ha, hN⟩
  refine S.seq ?_
  refine S.cut (fun H' e' => ∃ a : Nat, H' = .blk b4 (goV 0 noL [] 0 0) 152 :: H ∧ e' = [(0, sV t), (1, .int .i64 p), (4, .pointer (some ⟨b4, 0, none⟩)), (5, .int .i64 a)] ∧ Q = .ok a ()) ?_ ?_
  · intro k' hrest
    unfold numExp at hN
    rw [atB_bAt (by decide), atB_bAt (by decide)] at hN
    refine S.seq ?_
    refine S.cut (fun H' e' => ∃ bx : Bool, H' = .blk b4 (goV 0 noL [] 0 0) 152 :: H ∧ e' = [(0, sV t), (1, .int .i64 p), (4, .pointer (some ⟨b4, 0, none⟩)), (5, .int .i64 a), (56, .bool bx)] ∧ bx = (decide (bAt t a = 101) || decide (bAt t a = 69))) ?_ ?_
    · intro k'' hmid
      repeat' (first | (apply T.mv; apply rfl; apply rfl) | with_reducible refine S.reg ?_ | fail)
      refine T.call rfl rfl byteAt_spec ?_
      rintro _ _ ⟨rfl, rfl⟩
      by_cases h : bAt t a = 101
      · rw [byteI_is h (by omega)]
        repeat' (first | (apply T.mv; apply rfl; apply rfl) | (apply T.eql; apply rfl; apply rfl; apply rfl) | (apply T.pickT; apply rfl; apply rfl; apply rfl) | with_reducible refine Sr.nil ?_ | (apply T.skip; apply rfl; (first | with_reducible rfl | decide); apply rfl) | (with_reducible apply T.ofRet) | fail)
        exact hmid _ _ _ ⟨true, rfl, rfl, by rw [decide_eq_true h]; rfl⟩ (by repeat' first | exact trivial | refine And.intro rfl ?_)
      · have hI := byteI_not h
        repeat' (first | (apply T.mv; apply rfl; apply rfl) | (apply T.eql; apply rfl; apply rfl; apply rfl) | (apply T.ungV; apply rfl; (first | with_reducible rfl | decide)) | (apply T.gcase; apply rfl; apply rfl; all_goals (intro _; try (exfalso; first | omega | with_reducible contradiction))) | (with_reducible apply T.ofRet) | fail)
        refine T.call rfl rfl byteAt_spec ?_
        rintro _ _ ⟨rfl, rfl⟩
        by_cases h2 : bAt t a = 69
        · rw [byteI_is h2 (by omega)]
          repeat' (first | (apply T.eql; apply rfl; apply rfl; apply rfl) | (apply T.pickF; apply rfl; apply rfl; apply rfl) | with_reducible refine Sr.nil ?_ | (apply T.ungV; apply rfl; (first | with_reducible rfl | decide)) | (with_reducible apply T.ofRet) | fail)
          exact hmid _ _ _ ⟨true, rfl, rfl, by rw [decide_eq_true h2, Bool.or_true]⟩ (by repeat' first | exact trivial | refine And.intro rfl ?_)
        · have hI2 := byteI_not h2
          repeat' (first | (apply T.eql; apply rfl; apply rfl; apply rfl) | (apply T.pickF; apply rfl; apply rfl; apply rfl) | with_reducible refine Sr.nil ?_ | (apply T.ungV; apply rfl; (first | with_reducible rfl | decide)) | (with_reducible apply T.ofRet) | fail)
          refine hmid _ _ _ ⟨decide (byteI t a = 69), rfl, rfl, ?_⟩ (by repeat' first | exact trivial | refine And.intro rfl ?_)
          rw [decide_eq_false h, decide_eq_false h2]
          exact decide_eq_false hI2
    rintro _ _ ⟨bx, rfl, rfl, hbx⟩
    cases bx with
    | false =>
      rw [if_neg (by show ¬ (decide (bAt t a = 101) || decide (bAt t a = 69)) = true; rw [← hbx]; decide)] at hN
      repeat' (first | with_reducible refine S.skip ?_ | (apply S.condFV; apply rfl; (first | with_reducible rfl | decide)) | fail)
      exact hrest _ _ _ ⟨a, rfl, rfl, hN⟩ (by repeat' first | exact trivial | refine And.intro rfl ?_)
    | true =>
      rw [if_pos (show (decide (bAt t a = (101 : UInt8).toNat) || decide (bAt t a = (69 : UInt8).toNat)) = true from hbx.symm)] at hN
      have h1 : bAt t a = 101 ∨ bAt t a = 69 := by simpa using hbx.symm
      have hlt := bAt_lt_of (t := t) (p := a) (by omega)
      have e1 : (a : Int) + 1 = ((a + 1 : Nat) : Int) := by omega
      repeat' (first | (apply S.condTV; apply rfl; (first | with_reducible rfl | decide)) | fail)
      refine S.seq ?_
      repeat' (first | (apply T.addI; apply rfl; apply rfl; omega; apply rfl; rw [e1]) | (apply T.mv; apply rfl; apply rfl) | (apply T.asn; apply rfl; apply rfl) | with_reducible refine Sr.nil ?_ | with_reducible refine S.reg ?_ | fail)
      refine S.seq ?_
      refine S.cut (fun H' e' => ∃ q : Nat, H' = .blk b4 (goV 0 noL [] 0 0) 152 :: H ∧ e' = [(0, sV t), (1, .int .i64 p), (4, .pointer (some ⟨b4, 0, none⟩)), (5, .int .i64 q)] ∧ q ≤ t.length ∧ Q = digsX t q) ?_ ?_
      · intro k'' hmid
        have hN' : Q = digsX t (numSign t (a + 1)) := hN
        unfold numSign at hN'
        rw [atB_bAt (by decide), atB_bAt (by decide)] at hN'
        generalize a + 1 = a' at *
        repeat' (first | (apply T.mv; apply rfl; apply rfl) | with_reducible refine S.seq ?_ | with_reducible refine S.reg ?_ | fail)
        refine T.call rfl rfl byteAt_spec ?_
        rintro _ _ ⟨rfl, rfl⟩
        by_cases h : bAt t a' = 43
        · have hlt2 := bAt_lt_of (t := t) (p := a') (by omega)
          rw [if_pos (by rw [decide_eq_true (show bAt t a' = (43 : UInt8).toNat from h)]; rfl)] at hN'
          rw [byteI_is h (by omega)]
          repeat' (first | (apply T.mv; apply rfl; apply rfl) | (apply T.asn; apply rfl; apply rfl) | (apply T.eql; apply rfl; apply rfl; apply rfl) | (apply T.addI; apply rfl; apply rfl; omega; apply rfl) | (apply T.pickT; apply rfl; apply rfl; apply rfl) | with_reducible refine Sr.nil ?_ | with_reducible refine S.reg ?_ | (apply T.skip; apply rfl; (first | with_reducible rfl | decide); apply rfl) | (apply S.condTV; apply rfl; (first | with_reducible rfl | decide)) | (with_reducible apply T.ofRet) | fail)
          exact hmid _ _ _ ⟨a' + 1, rfl, rfl, by omega, hN'⟩ (by repeat' first | exact trivial | refine And.intro rfl ?_)
        · have hI := byteI_not h
          repeat' (first | (apply T.mv; apply rfl; apply rfl) | (apply T.eql; apply rfl; apply rfl; apply rfl) | (apply T.ungV; apply rfl; (first | with_reducible rfl | decide)) | (apply T.gcase; apply rfl; apply rfl; all_goals (intro _; try (exfalso; first | omega | with_reducible contradiction))) | (with_reducible apply T.ofRet) | fail)
          refine T.call rfl rfl byteAt_spec ?_
          rintro _ _ ⟨rfl, rfl⟩
          by_cases h2 : bAt t a' = 45
          · have hlt2 := bAt_lt_of (t := t) (p := a') (by omega)
            rw [if_pos (by rw [decide_eq_true (show bAt t a' = (45 : UInt8).toNat from h2), Bool.or_true])] at hN'
            rw [byteI_is h2 (by omega)]
            repeat' (first | (apply T.mv; apply rfl; apply rfl) | (apply T.asn; apply rfl; apply rfl) | (apply T.eql; apply rfl; apply rfl; apply rfl) | (apply T.addI; apply rfl; apply rfl; omega; apply rfl) | (apply T.pickF; apply rfl; apply rfl; apply rfl) | with_reducible refine Sr.nil ?_ | with_reducible refine S.reg ?_ | (apply T.ungV; apply rfl; (first | with_reducible rfl | decide)) | (apply S.condTV; apply rfl; (first | with_reducible rfl | decide)) | (with_reducible apply T.ofRet) | fail)
            exact hmid _ _ _ ⟨a' + 1, rfl, rfl, by omega, hN'⟩ (by repeat' first | exact trivial | refine And.intro rfl ?_)
          · have hI2 := byteI_not h2
            rw [if_neg (by rw [decide_eq_false (show ¬ bAt t a' = (43 : UInt8).toNat from h), decide_eq_false (show ¬ bAt t a' = (45 : UInt8).toNat from h2)]; decide)] at hN'
            repeat' (first | (apply T.eql; apply rfl; apply rfl; apply rfl) | (apply T.pickF; apply rfl; apply rfl; apply rfl) | with_reducible refine Sr.nil ?_ | with_reducible refine S.skip ?_ | (apply T.ungV; apply rfl; (first | with_reducible rfl | decide)) | (apply S.condQ; apply rfl; all_goals (intro _; try (exfalso; first | omega | with_reducible contradiction))) | (with_reducible apply T.ofRet) | fail)
            exact hmid _ _ _ ⟨a', rfl, rfl, by omega, hN'⟩ (by repeat' first | exact trivial | refine And.intro rfl ?_)
      clear hN
      rintro _ _ ⟨q, rfl, rfl, hq, hN⟩
      repeat' (first | (apply T.mv; apply rfl; apply rfl) | with_reducible refine S.seq ?_ | with_reducible refine S.reg ?_ | fail)
      refine T.call rfl rfl (refDigits_spec hq (by omega)) ?_
      cases hx : digsX t q with
      | bad c b =>
        rw [hx] at hN
        obtain rfl := digsX_code hx
        rw [hN]
        rintro _ _ ⟨rfl, rfl⟩
        repeat' (first | (apply T.fieldAddrZ; apply rfl; apply rfl) | (apply T.load; apply rfl; apply rfl; infer_instance; apply rfl; apply rfl) | (apply T.neq; apply rfl; apply rfl; apply rfl) | (apply T.loadW; apply rfl; apply rfl; infer_instance; (first | rfl | (simp only [List.length_append, List.length_map, List.length_set, List.length_replicate, List.length_cons, List.length_nil]; first | done | omega)); apply rfl) | (apply T.storeW; apply rfl; apply rfl; infer_instance; (first | rfl | (simp only [List.length_append, List.length_map, List.length_set, List.length_replicate, List.length_cons, List.length_nil]; first | done | omega)); (first | rfl | (simp only [List.length_append, List.length_map, List.length_set, List.length_replicate, List.length_cons, List.length_nil]; first | done | omega)); (first | rfl | (repeat' first | apply all_nV | apply all_bV | apply all_iV | rfl | apply all_app))) | (apply T.alloc; apply rfl; intro nb) | with_reducible refine Sr.nil ?_ | with_reducible refine S.seq ?_ | with_reducible refine S.reg ?_ | (apply S.condTV; apply rfl; (first | with_reducible rfl | decide)) | (with_reducible apply T.ofRet) | (apply T.retC; apply rfl; ((repeat' first | apply RV.nil | (apply RV.tmp; apply rfl) | (apply RV.cellW; apply rfl; apply rfl; infer_instance; (first | rfl | (simp only [List.length_append, List.length_map, List.length_set, List.length_replicate, List.length_cons, List.length_nil]; first | done | omega))) | (apply RV.cellP; apply rfl; apply rfl; infer_instance; apply rfl))); apply rfl) | fail)
        exact ⟨_, PSub.drop (PSub.drop (PSub.refl _)), [], rfl, rfl⟩
      | ok b v =>
        rw [hx] at hN
        rintro _ _ ⟨rfl, rfl⟩
        repeat' (first | (apply T.asn; apply rfl; apply rfl) | (apply T.fieldAddrZ; apply rfl; apply rfl) | (apply T.load; apply rfl; apply rfl; infer_instance; apply rfl; apply rfl) | (apply T.neq; apply rfl; apply rfl; apply rfl) | (apply T.storeW; apply rfl; apply rfl; infer_instance; (first | rfl | (simp only [List.length_append, List.length_map, List.length_set, List.length_replicate, List.length_cons, List.length_nil]; first | done | omega)); (first | rfl | (simp only [List.length_append, List.length_map, List.length_set, List.length_replicate, List.length_cons, List.length_nil]; first | done | omega)); (first | rfl | (repeat' first | apply all_nV | apply all_bV | apply all_iV | rfl | apply all_app))) | (apply T.alloc; apply rfl; intro nb) | with_reducible refine Sr.nil ?_ | with_reducible refine S.seq ?_ | with_reducible refine S.reg ?_ | with_reducible refine S.skip ?_ | (apply S.condFV; apply rfl; (first | with_reducible rfl | decide)) | (with_reducible apply T.ofRet) | fail)
        refine S.sublist ?_ (PSub.drop (PSub.refl _))
        exact hrest _ _ _ ⟨b, rfl, rfl, hN⟩ (by repeat' first | exact trivial | refine And.intro rfl ?_)
  clear hN ha a
  rintro _ _ ⟨a, rfl, rfl, hN⟩
  obtain ⟨h1, h2⟩ := hfit a () hN
  have hsl : (t.drop p).take (a - p) = sl t p a := rfl
  have hln := sl_len (t := t) (a := p) h2
  rw [hN]
  repeat' (first | (apply T.sslice; apply rfl; apply rfl; apply rfl; omega; apply rfl; rw [hsl]) | (apply T.mv; apply rfl; apply rfl) | with_reducible refine S.seq ?_ | with_reducible refine S.reg ?_ | fail)
  refine T.call rfl rfl (refWhole_spec (by omega)) ?_
  rintro _ _ ⟨rfl, rfl⟩
  repeat' (first | (apply T.sslice; apply rfl; apply rfl; apply rfl; omega; apply rfl; rw [hsl]) | (refine Sr.rowOfN (n := 1) (sz := 6) rfl (by decide) ?_) | (apply T.mv; apply rfl; apply rfl) | (apply T.asn; apply rfl; apply rfl) | (apply T.extract; apply rfl; apply rfl; apply rfl) | (apply T.buildL; apply rfl; apply rfl; apply rfl) | (apply T.storeW; apply rfl; apply rfl; infer_instance; (first | rfl | (simp only [List.length_append, List.length_map, List.length_set, List.length_replicate, List.length_cons, List.length_nil]; first | done | omega)); (first | rfl | (simp only [List.length_append, List.length_map, List.length_set, List.length_replicate, List.length_cons, List.length_nil]; first | done | omega)); (first | rfl | (repeat' first | apply all_nV | apply all_bV | apply all_iV | rfl | apply all_app))) | (apply T.bsL; apply rfl; apply rfl; apply rfl; apply rfl; apply rfl; intro nb) | with_reducible refine Sr.nil ?_ | with_reducible refine S.seq ?_ | with_reducible refine S.reg ?_ | (with_reducible apply T.ofRet) | (apply T.retC; apply rfl; ((repeat' first | apply RV.nil | (apply RV.tmp; apply rfl) | (apply RV.cellW; apply rfl; apply rfl; infer_instance; (first | rfl | (simp only [List.length_append, List.length_map, List.length_set, List.length_replicate, List.length_cons, List.length_nil]; first | done | omega))) | (apply RV.cellP; apply rfl; apply rfl; infer_instance; apply rfl))); apply rfl) | fail)
  exact ⟨_, PSub.take pick_hd (PSub.drop (PSub.refl _)), _, _, [], rfl, rfl⟩
end
end Go.Proofs.YtddbdgmaaogclaaGreatDoor
