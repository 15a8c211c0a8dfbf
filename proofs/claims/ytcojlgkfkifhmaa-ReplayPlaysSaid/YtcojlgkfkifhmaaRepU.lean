/- The walks of the document's own answer: what is kept. -/
import Derived.Test.YtcojlgkfkifhmaaRepR
/- maps -/
namespace Go.Proofs.Ytcojlgkfkifhmaa
open Sg Go.IntWalk
set_option maxRecDepth 100000
set_option maxHeartbeats 2000000
/-- By rising names, what lives of the last entries. -/
def keptM (clock : Int) (all : Ents) : Ents := (live clock (lasts all)).foldl (fun o x => eins x o) []
theorem eins_split {x : List UInt8 × Int} : ∀ {o : Ents} {m : Nat}, (∀ p ∈ o.take m, p.1 < x.1) → (∀ p ∈ o.drop m, x.1 < p.1) → eins x o = o.take m ++ x :: o.drop m
  | [], m, _, _ => by simp [eins]
  | y :: r, 0, _, h => by
    have hy : x.1 < y.1 := h y (List.mem_cons_self ..)
    have hb : (Lit.string x.1).before (.string y.1) = true := by
      show bytesBefore x.1 y.1 = true
      rw [before_lt]
      exact decide_eq_true hy
    rw [eins, if_pos hb]
    rfl
  | y :: r, m + 1, h1, h2 => by
    have hy : y.1 < x.1 := h1 y (by simp)
    have hb : ¬ ((Lit.string x.1).before (.string y.1) = true) := fun hb => by
      have h3 : bytesBefore x.1 y.1 = true := hb
      rw [before_lt] at h3
      exact lt_irr _ (List.lt_trans hy (of_decide_eq_true h3))
    rw [eins, if_neg hb, eins_split (o := r) (m := m) (fun p hp => h1 p (by rw [List.take_succ_cons]; exact List.mem_cons_of_mem _ hp)) (fun p hp => h2 p hp)]
    rfl
abbrev mdV (aa : Option Addr) (n ac : Nat) (has : Bool) (clock : Int) : List Value := [.bool has, .int .i64 clock, .slice aa n ac]
theorem kept_spec {F : World} {M : List Nat} {H : List Res} {pm ac : Nat} {aa : Option Addr} {all : Ents} {has : Bool} {clock : Int} [hB : InB H pm (mdV aa all.length ac has clock) 81] [hR : Rd F M H aa (all.flatMap enV)] (hl : all.length ≤ 1000000) :
    Meets Try.prog 44 [.pointer (some ⟨pm, 0, none⟩)] F M H (fun e H' => ∃ oa oc, e = .returned (.slice oa (keptM clock all).length oc) ∧ H' = .row oa oc 85 2 (keptM clock all).length ((keptM clock all).flatMap enV) :: H) := by
  refine Meets.enter Try.func44 rfl rfl ?_
  refine S.nilrow 85 2 ?_
  repeat' (first | ((with_reducible apply T.asn); apply rfl; apply rfl) | with_reducible refine Sr.nil ?_ | with_reducible refine S.seq ?_ | with_reducible refine S.block ?_ | with_reducible refine S.reg ?_ | fail)
  refine S.loopE 1 [0] (fun R b' μ H' e => ∃ (i : Nat) (o : Ents) (oa : Option Addr) (oc : Nat), H' = .row oa oc 85 2 o.length (o.flatMap enV) :: R ∧ e = (3, .slice oa o.length oc) :: (4, .int .i64 i) :: b' ∧ (i ≤ all.length ∧ o.length ≤ i ∧ Rise o ∧ (∀ p ∈ o, ∀ q ∈ all.drop i, p.1 ≠ q.1) ∧ (live clock (lasts (all.drop i))).foldl (fun o x => eins x o) o = keptM clock all) ∧ μ = all.length - i) rfl rfl ?_ _ _ ⟨0, [], none, 0, rfl, rfl, ⟨by omega, by simp, List.Pairwise.nil, fun p hp => absurd hp List.not_mem_nil, by rw [List.drop_zero]; rfl⟩, rfl⟩ (by repeat' first | exact trivial | refine And.intro rfl ?_)
  rintro _ _ _ ⟨i, o, oa, oc, rfl, rfl, ⟨hi, hol, hor, hoa, hk⟩, rfl⟩ ih
  by_cases h1 : i < all.length
  · obtain ⟨x, hx⟩ : ∃ x, all[i]? = some x := ⟨_, List.getElem?_eq_getElem h1⟩
    have hg : all.getD i default = x := by rw [List.getD_eq_getElem?_getD, hx]; rfl
    have hdr : all.drop i = x :: all.drop (i + 1) := by
      rw [List.drop_eq_getElem_cons h1]
      rw [List.getElem?_eq_getElem h1, Option.some.injEq] at hx
      rw [hx]
    have hoa2 : ∀ p ∈ o, ∀ q ∈ all.drop (i + 1), p.1 ≠ q.1 := fun p hp q hq => hoa p hp q (by rw [hdr]; exact List.mem_cons_of_mem _ hq)
    have hox : ∀ p ∈ o, p.1 ≠ x.1 := fun p hp => hoa p hp x (by rw [hdr]; exact List.mem_cons_self ..)
    rw [hdr, lasts] at hk
    repeat' (first | ((with_reducible apply T.mv); apply rfl; apply rfl) | ((with_reducible apply T.asn); apply rfl; apply rfl) | ((with_reducible apply T.len); apply rfl; apply rfl) | ((with_reducible apply T.nilCheck); apply rfl; apply rfl) | ((with_reducible apply T.fieldAddrZ); apply rfl; apply rfl) | ((with_reducible apply T.load); apply rfl; apply rfl; infer_instance; apply rfl; apply rfl) | ((with_reducible apply T.lss); apply rfl; apply rfl; apply rfl) | ((with_reducible apply T.addI); apply rfl; apply rfl; omega; apply rfl) | with_reducible refine Sr.nil ?_ | with_reducible refine S.seq ?_ | with_reducible refine S.block ?_ | with_reducible refine S.reg ?_ | with_reducible refine S.skip ?_ | ((with_reducible apply S.condQ); apply rfl; all_goals (intro _; try (exfalso; omega))) | fail)
    refine S.loopE 0 [0, 3, 4] (fun R b' μ H' e => ∃ (k : Nat) (fl : Bool), H' = R ∧ e = (5, .bool fl) :: (6, .int .i64 k) :: b' ∧ (i + 1 ≤ k ∧ k ≤ all.length ∧ fl = !((all.drop (i + 1)).take (k - (i + 1))).any fun p => decide (p.1 = x.1)) ∧ μ = all.length - k) rfl rfl ?_ _ _ ⟨i + 1, true, rfl, rfl, ⟨by omega, by omega, by simp⟩, rfl⟩ (by repeat' first | exact trivial | refine And.intro rfl ?_)
    rintro _ _ _ ⟨k, fl, rfl, rfl, ⟨hk1, hk2, hfl⟩, rfl⟩ ih2
    by_cases h2 : k < all.length
    · obtain ⟨y, hy⟩ : ∃ y, all[k]? = some y := ⟨_, List.getElem?_eq_getElem h2⟩
      have hgy : all.getD k default = y := by rw [List.getD_eq_getElem?_getD, hy]; rfl
      have htk : (all.drop (i + 1)).take (k + 1 - (i + 1)) = (all.drop (i + 1)).take (k - (i + 1)) ++ [y] := by
        rw [show k + 1 - (i + 1) = (k - (i + 1)) + 1 by omega, List.take_add_one, List.getElem?_drop, show i + 1 + (k - (i + 1)) = k by omega, hy]
        rfl
      have hgx : (all.getD k default).1 = (all.getD i default).1 ↔ y.1 = x.1 := by rw [hg, hgy]
      repeat' (first | ((with_reducible apply T.seql); apply rfl; apply rfl; apply rfl) | ((with_reducible apply T.mv); apply rfl; apply rfl) | ((with_reducible apply T.asn); apply rfl; apply rfl) | ((with_reducible apply T.len); apply rfl; apply rfl) | ((with_reducible apply T.nilCheck); apply rfl; apply rfl) | ((with_reducible apply T.fieldAddrZ); apply rfl; apply rfl) | ((with_reducible apply T.load); apply rfl; apply rfl; infer_instance; apply rfl; apply rfl) | ((with_reducible apply T.lss); apply rfl; apply rfl; apply rfl) | ((with_reducible apply T.addI); apply rfl; apply rfl; omega; apply rfl) | ((with_reducible apply T.ixF); apply rfl; apply rfl; infer_instance; exact (fun _ => rfl); apply rfl; omega; omega; apply rfl) | ((with_reducible apply T.fieldAddrF); apply rfl; infer_instance; exact (fun _ => rfl); apply rfl; omega; apply rfl) | ((with_reducible apply T.loadF); apply rfl; apply rfl; infer_instance; exact (fun _ => rfl); apply rfl; exact getD_some (by omega); apply rfl; apply rfl) | with_reducible refine Sr.nil ?_ | with_reducible refine S.seq ?_ | with_reducible refine S.block ?_ | with_reducible refine S.reg ?_ | with_reducible refine S.skip ?_ | with_reducible refine S.inBlock ?_ | ((with_reducible apply S.quiet); apply rfl; kernel_rfl) | ((with_reducible apply S.condQ); apply rfl; all_goals (intro _; try (exfalso; omega))) | fail)
      · rename_i he
        refine ih2 _ _ _ _ ⟨k + 1, false, rfl, rfl, ⟨by omega, by omega, ?_⟩, rfl⟩ (by omega) (by repeat' first | exact trivial | refine And.intro rfl ?_)
        rw [htk, List.any_append]
        simp [hgx.1 he]
      · rename_i he
        refine ih2 _ _ _ _ ⟨k + 1, fl, rfl, rfl, ⟨by omega, by omega, ?_⟩, rfl⟩ (by omega) (by repeat' first | exact trivial | refine And.intro rfl ?_)
        rw [htk, List.any_append, hfl]
        simp [mt hgx.2 he]
    · obtain rfl : k = all.length := by omega
      clear ih2
      rw [List.take_of_length_le (by rw [List.length_drop]; omega)] at hfl
      cases fl with
      | false =>
        have ha : ((all.drop (i + 1)).any fun p => decide (p.1 = x.1)) = true := by
          cases hq : (all.drop (i + 1)).any fun p => decide (p.1 = x.1) with
          | true => rfl
          | false => rw [hq] at hfl; cases hfl
        rw [if_pos ha] at hk
        repeat' (first | ((with_reducible apply T.mv); apply rfl; apply rfl) | ((with_reducible apply T.asn); apply rfl; apply rfl) | ((with_reducible apply T.len); apply rfl; apply rfl) | ((with_reducible apply T.nilCheck); apply rfl; apply rfl) | ((with_reducible apply T.fieldAddrZ); apply rfl; apply rfl) | ((with_reducible apply T.load); apply rfl; apply rfl; infer_instance; apply rfl; apply rfl) | ((with_reducible apply T.lss); apply rfl; apply rfl; apply rfl) | ((with_reducible apply T.addI); apply rfl; apply rfl; omega; apply rfl) | ((with_reducible apply T.notB); apply rfl; apply rfl) | ((with_reducible apply T.pickT); apply rfl; apply rfl; apply rfl) | with_reducible refine Sr.nil ?_ | with_reducible refine S.seq ?_ | with_reducible refine S.reg ?_ | ((with_reducible apply S.exit); apply rfl) | ((with_reducible apply S.quiet); apply rfl; kernel_rfl) | ((with_reducible apply T.skip); apply rfl; apply rfl; apply rfl) | ((with_reducible apply S.condT); apply rfl) | ((with_reducible apply S.condQ); apply rfl; all_goals (intro _; try (exfalso; omega))) | fail)
        exact ih _ _ _ _ ⟨i + 1, o, oa, oc, rfl, rfl, ⟨by omega, by omega, hor, hoa2, hk⟩, rfl⟩ (by omega) (by repeat' first | exact trivial | refine And.intro rfl ?_)
      | true =>
        have ha : ¬ ((all.drop (i + 1)).any fun p => decide (p.1 = x.1)) = true := fun h => by rw [h] at hfl; cases hfl
        rw [if_neg ha, live, List.filter_cons, ← live] at hk
        by_cases hcl : clock ≤ x.2
        · rw [if_pos (decide_eq_true hcl), List.foldl_cons] at hk
          rw [← hg] at hcl
          repeat' (first | (refine T.appendF (g := enV) (all.getD i default) rfl rfl rfl inferInstance (fun _ => rfl) rfl rfl rfl (by constructor <;> omega) rfl ?_; intro na nc) | ((with_reducible apply T.mv); apply rfl; apply rfl) | ((with_reducible apply T.asn); apply rfl; apply rfl) | ((with_reducible apply T.len); apply rfl; apply rfl) | ((with_reducible apply T.nilCheck); apply rfl; apply rfl) | ((with_reducible apply T.fieldAddrZ); apply rfl; apply rfl) | ((with_reducible apply T.load); apply rfl; apply rfl; infer_instance; apply rfl; apply rfl) | ((with_reducible apply T.lss); apply rfl; apply rfl; apply rfl) | ((with_reducible apply T.ixF); apply rfl; apply rfl; infer_instance; exact (fun _ => rfl); apply rfl; omega; omega; apply rfl) | ((with_reducible apply T.fieldAddrF); apply rfl; infer_instance; exact (fun _ => rfl); apply rfl; omega; apply rfl) | ((with_reducible apply T.loadF); apply rfl; apply rfl; infer_instance; exact (fun _ => rfl); apply rfl; exact getD_some (by omega); apply rfl; apply rfl) | ((with_reducible apply T.loadFN); apply rfl; apply rfl; infer_instance; exact (fun _ => rfl); apply rfl; exact getD_some (by omega); apply rfl) | ((with_reducible apply T.notB); apply rfl; apply rfl) | ((with_reducible apply T.pickF); apply rfl; apply rfl; apply rfl) | ((with_reducible apply T.bsL); apply rfl; apply rfl; apply rfl; apply rfl; apply rfl; intro nb) | with_reducible refine Sr.nil ?_ | with_reducible refine S.seq ?_ | with_reducible refine S.block ?_ | with_reducible refine S.reg ?_ | with_reducible refine S.skip ?_ | ((with_reducible apply S.exit); apply rfl) | ((with_reducible apply S.quiet); apply rfl; kernel_rfl) | ((with_reducible apply T.ung); apply rfl) | ((with_reducible apply S.condQ); apply rfl; all_goals (intro _; try (exfalso; omega))) | fail)
          have hfin : ∀ (m : Nat) (ys : Ents), m ≤ o.length → ys.length = o.length + 1 → ys.take m = o.take m → ys.drop (m + 1) = o.drop m → (∀ p ∈ o.drop m, x.1 < p.1) → (∀ p ∈ o.take m, p.1 < x.1) → ys.set m x = eins x o := fun m ys a1 a2 a3 a4 a5 a6 => by
            rw [eins_split a6 a5, List.set_eq_take_append_cons_drop, if_pos (by omega), a3, a4]
          have hins : (eins x o).length = o.length + 1 := eins_len
          have hrise : Rise (eins x o) := eins_rise hor hox
          have hnew : ∀ p ∈ eins x o, ∀ q ∈ all.drop (i + 1), p.1 ≠ q.1 := fun p hp q hq => by
            rcases eins_mem.1 hp with rfl | hp
            · exact fun he => ha (List.any_eq_true.2 ⟨q, hq, decide_eq_true he.symm⟩)
            · exact hoa2 p hp q hq
          refine S.loopE 1 [0, 3, 4] (fun R b' μ H' e => ∃ (m : Nat) (ys : Ents), H' = .row na nc 85 2 (o.length + 1) (ys.flatMap enV) :: R ∧ e = (7, .int .i64 m) :: b' ∧ (m ≤ o.length ∧ ys.length = o.length + 1 ∧ ys.take m = o.take m ∧ ys.drop (m + 1) = o.drop m ∧ ∀ p ∈ o.drop m, x.1 < p.1) ∧ μ = m) rfl rfl ?_ _ _ ⟨o.length, o ++ [all.getD i default], rfl, rfl, ⟨Nat.le_refl _, by simp, by simp, by simp, by simp⟩, rfl⟩ (by repeat' first | exact trivial | refine And.intro rfl ?_)
          rintro m _ _ ⟨_, ys, rfl, rfl, ⟨hm, hyl, hyt, hyd, hgt⟩, rfl⟩ ih3
          cases m with
          | zero =>
            have hset := hfin 0 ys hm hyl hyt hyd hgt (fun p hp => by simp at hp)
            repeat' (first | ((with_reducible apply T.mv); apply rfl; apply rfl) | ((with_reducible apply T.nilCheck); apply rfl; apply rfl) | ((with_reducible apply T.fieldAddrZ); apply rfl; apply rfl) | ((with_reducible apply T.load); apply rfl; apply rfl; infer_instance; apply rfl; apply rfl) | ((with_reducible apply T.gtr); apply rfl; apply rfl; apply rfl) | ((with_reducible apply T.ixF); apply rfl; apply rfl; infer_instance; exact (fun _ => rfl); apply rfl; omega; omega; apply rfl) | ((with_reducible apply T.loadFN); apply rfl; apply rfl; infer_instance; exact (fun _ => rfl); apply rfl; exact getD_some (by omega); apply rfl) | ((with_reducible apply T.pickF); apply rfl; apply rfl; apply rfl) | with_reducible refine Sr.nil ?_ | with_reducible refine S.seq ?_ | with_reducible refine S.reg ?_ | ((with_reducible apply S.exit); apply rfl) | ((with_reducible apply S.quiet); apply rfl; kernel_rfl) | ((with_reducible apply T.skip); apply rfl; apply rfl; apply rfl) | ((with_reducible apply S.condF); apply rfl) | fail)
            refine T.storeFN (g := enV) (all.getD i default) rfl rfl rfl inferInstance (fun _ => rfl) rfl (by omega) rfl ?_
            rw [hg, hset, ← hins]
            repeat' (first | ((with_reducible apply T.mv); apply rfl; apply rfl) | ((with_reducible apply T.asn); apply rfl; apply rfl) | ((with_reducible apply T.addI); apply rfl; apply rfl; omega; apply rfl) | with_reducible refine Sr.nil ?_ | with_reducible refine S.reg ?_ | with_reducible refine S.inBlock ?_ | fail)
            exact ih _ _ _ _ ⟨i + 1, eins x o, na, nc, rfl, rfl, ⟨by omega, by omega, hrise, hnew, hk⟩, rfl⟩ (by omega) (by repeat' first | exact trivial | refine And.intro rfl ?_)
          | succ j =>
            have hyj : ys.getD j default = o.getD j default := by
              have h5 := congrArg (fun l => l[j]?) hyt
              simp only [List.getElem?_take_of_lt (Nat.lt_succ_self j)] at h5
              rw [List.getD_eq_getElem?_getD, List.getD_eq_getElem?_getD, h5]
            have hoj : o.getD j default ∈ o := by
              rw [List.getD_eq_getElem?_getD, List.getElem?_eq_getElem (by omega)]
              exact List.getElem_mem _
            have e1 : ((j + 1 : Nat) : Int) - 1 = (j : Int) := by omega
            by_cases hgj : x.1 < (o.getD j default).1
            · have hcmp : (!(Op.bytesLess (ys.getD j default).1 (all.getD i default).1 || decide ((ys.getD j default).1 = (all.getD i default).1))) = true := by
                have := gtB_eq (ys.getD j default).1 (all.getD i default).1
                unfold gtB at this
                rw [this, hyj, hg]
                exact decide_eq_true hgj
              repeat' (first | ((with_reducible apply T.subI (m := ((j + 1 : Nat) : Int))); apply rfl; apply rfl; omega; apply rfl; rw [e1]) | ((with_reducible apply T.sgtr); apply rfl; apply rfl; apply rfl; rw [hcmp]) | ((with_reducible apply T.mv); apply rfl; apply rfl) | ((with_reducible apply T.nilCheck); apply rfl; apply rfl) | ((with_reducible apply T.fieldAddrZ); apply rfl; apply rfl) | ((with_reducible apply T.load); apply rfl; apply rfl; infer_instance; apply rfl; apply rfl) | ((with_reducible apply T.gtr); apply rfl; apply rfl; apply rfl) | ((with_reducible apply T.ixF); apply rfl; apply rfl; infer_instance; exact (fun _ => rfl); apply rfl; omega; omega; apply rfl) | ((with_reducible apply T.fieldAddrF); apply rfl; infer_instance; exact (fun _ => rfl); apply rfl; omega; apply rfl) | ((with_reducible apply T.loadF); apply rfl; apply rfl; infer_instance; exact (fun _ => rfl); apply rfl; exact getD_some (by omega); apply rfl; apply rfl) | ((with_reducible apply T.loadFN); apply rfl; apply rfl; infer_instance; exact (fun _ => rfl); apply rfl; exact getD_some (by omega); apply rfl) | ((with_reducible apply T.pickT); apply rfl; apply rfl; apply rfl) | with_reducible refine Sr.nil ?_ | with_reducible refine S.seq ?_ | with_reducible refine S.block ?_ | with_reducible refine S.reg ?_ | with_reducible refine S.skip ?_ | ((with_reducible apply S.quiet); apply rfl; kernel_rfl) | ((with_reducible apply T.ung); apply rfl) | ((with_reducible apply S.condT); apply rfl) | ((with_reducible apply T.gcase); apply rfl; apply rfl; all_goals (intro _; try (exfalso; omega))) | fail)
              refine T.storeFN (g := enV) (ys.getD j default) rfl rfl rfl inferInstance (fun _ => rfl) rfl (by omega) rfl ?_
              repeat' (first | ((with_reducible apply T.subI (m := ((j + 1 : Nat) : Int))); apply rfl; apply rfl; omega; apply rfl; rw [e1]) | ((with_reducible apply T.mv); apply rfl; apply rfl) | ((with_reducible apply T.asn); apply rfl; apply rfl) | with_reducible refine Sr.nil ?_ | with_reducible refine S.reg ?_ | with_reducible refine S.inBlock ?_ | fail)
              refine ih3 _ _ _ _ ⟨j, ys.set (j + 1) (ys.getD j default), rfl, rfl, ⟨by omega, by simpa using hyl, ?_, ?_, ?_⟩, rfl⟩ (by omega) (by repeat' first | exact trivial | refine And.intro rfl ?_)
              · rw [List.take_set_of_le (by omega)]
                have := congrArg (List.take j) hyt
                rwa [List.take_take, List.take_take, Nat.min_eq_left (by omega)] at this
              · have hyl2 : j + 1 < ys.length := by omega
                rw [List.drop_set, if_neg (by omega), Nat.sub_self, List.drop_eq_getElem_cons hyl2, List.set_cons_zero, hyd, hyj]
                rw [List.getD_eq_getElem?_getD, List.getElem?_eq_getElem (by omega), Option.getD_some]
                exact (List.drop_eq_getElem_cons (by omega)).symm
              · intro p hp
                rw [List.drop_eq_getElem_cons (by omega)] at hp
                rcases List.mem_cons.1 hp with rfl | hp
                · rw [List.getD_eq_getElem?_getD, List.getElem?_eq_getElem (by omega), Option.getD_some] at hgj
                  exact hgj
                · exact hgt p hp
            · have hcmp : (!(Op.bytesLess (ys.getD j default).1 (all.getD i default).1 || decide ((ys.getD j default).1 = (all.getD i default).1))) = false := by
                have := gtB_eq (ys.getD j default).1 (all.getD i default).1
                unfold gtB at this
                rw [this, hyj, hg]
                exact decide_eq_false hgj
              repeat' (first | ((with_reducible apply T.subI (m := ((j + 1 : Nat) : Int))); apply rfl; apply rfl; omega; apply rfl; rw [e1]) | ((with_reducible apply T.sgtr); apply rfl; apply rfl; apply rfl; rw [hcmp]) | ((with_reducible apply T.mv); apply rfl; apply rfl) | ((with_reducible apply T.nilCheck); apply rfl; apply rfl) | ((with_reducible apply T.fieldAddrZ); apply rfl; apply rfl) | ((with_reducible apply T.load); apply rfl; apply rfl; infer_instance; apply rfl; apply rfl) | ((with_reducible apply T.gtr); apply rfl; apply rfl; apply rfl) | ((with_reducible apply T.ixF); apply rfl; apply rfl; infer_instance; exact (fun _ => rfl); apply rfl; omega; omega; apply rfl) | ((with_reducible apply T.fieldAddrF); apply rfl; infer_instance; exact (fun _ => rfl); apply rfl; omega; apply rfl) | ((with_reducible apply T.loadF); apply rfl; apply rfl; infer_instance; exact (fun _ => rfl); apply rfl; exact getD_some (by omega); apply rfl; apply rfl) | ((with_reducible apply T.loadFN); apply rfl; apply rfl; infer_instance; exact (fun _ => rfl); apply rfl; exact getD_some (by omega); apply rfl) | ((with_reducible apply T.pickT); apply rfl; apply rfl; apply rfl) | with_reducible refine Sr.nil ?_ | with_reducible refine S.seq ?_ | with_reducible refine S.reg ?_ | ((with_reducible apply S.exit); apply rfl) | ((with_reducible apply S.quiet); apply rfl; kernel_rfl) | ((with_reducible apply T.ung); apply rfl) | ((with_reducible apply S.condF); apply rfl) | ((with_reducible apply T.gcase); apply rfl; apply rfl; all_goals (intro _; try (exfalso; omega))) | fail)
              have hlow : ∀ p ∈ o.take (j + 1), p.1 < x.1 := by
                have hlast : (o.getD j default).1 < x.1 := lt_tri hgj (fun he => hox _ hoj he.symm)
                intro p hp
                obtain ⟨n, hn, rfl⟩ := List.getElem_of_mem hp
                have hn2 : n < j + 1 := by
                  rw [List.length_take] at hn
                  omega
                rw [List.getElem_take]
                have hoj2 : o.getD j default = o[j]'(by omega) := by rw [List.getD_eq_getElem?_getD, List.getElem?_eq_getElem (by omega), Option.getD_some]
                rw [hoj2] at hlast
                by_cases hnj : n = j
                · subst hnj
                  exact hlast
                · exact List.lt_trans (List.pairwise_iff_getElem.1 hor n j (by omega) (by omega) (by omega)) hlast
              have hset := hfin (j + 1) ys hm hyl hyt hyd hgt hlow
              refine T.storeFN (g := enV) (all.getD i default) rfl rfl rfl inferInstance (fun _ => rfl) rfl (by omega) rfl ?_
              rw [hg, hset, ← hins]
              repeat' (first | ((with_reducible apply T.mv); apply rfl; apply rfl) | ((with_reducible apply T.asn); apply rfl; apply rfl) | ((with_reducible apply T.addI); apply rfl; apply rfl; omega; apply rfl) | with_reducible refine Sr.nil ?_ | with_reducible refine S.reg ?_ | with_reducible refine S.inBlock ?_ | fail)
              exact ih _ _ _ _ ⟨i + 1, eins x o, na, nc, rfl, rfl, ⟨by omega, by omega, hrise, hnew, hk⟩, rfl⟩ (by omega) (by repeat' first | exact trivial | refine And.intro rfl ?_)
        · rw [if_neg (by simpa using hcl)] at hk
          rw [← hg] at hcl
          repeat' (first | ((with_reducible apply T.mv); apply rfl; apply rfl) | ((with_reducible apply T.asn); apply rfl; apply rfl) | ((with_reducible apply T.len); apply rfl; apply rfl) | ((with_reducible apply T.nilCheck); apply rfl; apply rfl) | ((with_reducible apply T.fieldAddrZ); apply rfl; apply rfl) | ((with_reducible apply T.load); apply rfl; apply rfl; infer_instance; apply rfl; apply rfl) | ((with_reducible apply T.lss); apply rfl; apply rfl; apply rfl) | ((with_reducible apply T.addI); apply rfl; apply rfl; omega; apply rfl) | ((with_reducible apply T.ixF); apply rfl; apply rfl; infer_instance; exact (fun _ => rfl); apply rfl; omega; omega; apply rfl) | ((with_reducible apply T.fieldAddrF); apply rfl; infer_instance; exact (fun _ => rfl); apply rfl; omega; apply rfl) | ((with_reducible apply T.loadF); apply rfl; apply rfl; infer_instance; exact (fun _ => rfl); apply rfl; exact getD_some (by omega); apply rfl; apply rfl) | ((with_reducible apply T.notB); apply rfl; apply rfl) | ((with_reducible apply T.pickF); apply rfl; apply rfl; apply rfl) | with_reducible refine Sr.nil ?_ | with_reducible refine S.seq ?_ | with_reducible refine S.reg ?_ | ((with_reducible apply S.exit); apply rfl) | ((with_reducible apply S.quiet); apply rfl; kernel_rfl) | ((with_reducible apply T.ung); apply rfl) | ((with_reducible apply S.condQ); apply rfl; all_goals (intro _; try (exfalso; omega))) | fail)
          exact ih _ _ _ _ ⟨i + 1, o, oa, oc, rfl, rfl, ⟨by omega, by omega, hor, hoa2, hk⟩, rfl⟩ (by omega) (by repeat' first | exact trivial | refine And.intro rfl ?_)
  · obtain rfl : i = all.length := by omega
    rw [List.drop_length] at hk
    have hn : o = keptM clock all := hk
    rw [← hn]
    repeat' (first | ((with_reducible apply T.mv); apply rfl; apply rfl) | ((with_reducible apply T.asn); apply rfl; apply rfl) | ((with_reducible apply T.len); apply rfl; apply rfl) | ((with_reducible apply T.nilCheck); apply rfl; apply rfl) | ((with_reducible apply T.fieldAddrZ); apply rfl; apply rfl) | ((with_reducible apply T.load); apply rfl; apply rfl; infer_instance; apply rfl; apply rfl) | ((with_reducible apply T.lss); apply rfl; apply rfl; apply rfl) | with_reducible refine Sr.nil ?_ | with_reducible refine S.seq ?_ | with_reducible refine S.reg ?_ | ((with_reducible apply S.exit); apply rfl) | ((with_reducible apply T.retW); apply rfl) | ((with_reducible apply S.condQ); apply rfl; all_goals (intro _; try (exfalso; omega))) | fail)
    exact ⟨_, PSub.refl _, _, _, rfl, rfl⟩
end Go.Proofs.Ytcojlgkfkifhmaa
