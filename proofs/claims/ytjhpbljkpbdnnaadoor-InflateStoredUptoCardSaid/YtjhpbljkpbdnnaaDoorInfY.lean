/- The walk of the document's lengths of a dynamic block. -/
import Derived.Test.YtjhpbljkpbdnnaaDoorInfX
namespace Go.Proofs.YtjhpbljkpbdnnaaDoor
open Sg Go.IntWalk Infl
set_option maxRecDepth 100000
set_option maxHeartbeats 1000000
def LenPost (p : Nat) (b : Option Addr) (bs : List UInt8) (c most : Nat) (oa : Option Addr) (on oc : Nat) (H : List Res) (X : Except Nat (Nat × Nat × List Nat)) (e : Ending) (H' : List Res) : Prop :=
  (∃ (a' l : Nat) (lens : List Nat) (la : Option Addr) (lc : Nat), X = .ok (a', l, lens) ∧ a' ≤ 8 * bs.length ∧ 257 ≤ l ∧ l < lens.length ∧ lens.length ≤ 1000 ∧ lens.length ≤ lc ∧ (∀ x ∈ lens, x ≤ 15) ∧
    e = .returned (.tuple ⟨[.slice la l lc, .slice (saddr la lc l 1) (lens.length - l) (lc - l)]⟩) ∧ H' = .blk p (rr b bs.length c a' most oa on oc 0) 62 :: .row la lc 3 1 lens.length (lens.map nV) :: H) ∨
  (∃ a' : Nat, X = .error 240 ∧ a' ≤ 8 * bs.length ∧ e = .returned (.tuple ⟨[.slice none 0 0, .slice none 0 0]⟩) ∧ H' = .blk p (rr b bs.length c a' most oa on oc 240) 62 :: H)
theorem lengths_head {bs : List UInt8} {pos v1 a1 E1 v2 a2 E2 v3 a3 E3 : Nat} (h1 : NumP bs 5 pos 0 v1 a1 E1) (h2 : NumP bs 5 a1 E1 v2 a2 E2) (h3 : NumP bs 4 a2 E2 v3 a3 E3) :
    (E3 = 0 ∧ headD bs pos = some (v1 + 257, v2 + 1, v3 + 4, a3)) ∨ (E3 = 240 ∧ headD bs pos = none) := by
  obtain ⟨-, -, p1, -⟩ := h1
  obtain ⟨-, -, p2, p2'⟩ := h2
  obtain ⟨-, -, p3, p3'⟩ := h3
  replace p1 := p1 rfl
  unfold headD
  cases g1 : rdN bs 5 pos with
  | none =>
    rw [g1] at p1
    simp only at p1
    have := p2' (by omega)
    have := p3' (by omega)
    exact .inr ⟨by omega, rfl⟩
  | some r =>
    obtain ⟨v, q⟩ := r
    rw [g1] at p1
    obtain ⟨rfl, rfl, rfl⟩ := p1
    replace p2 := p2 rfl
    simp only
    cases g2 : rdN bs 5 a1 with
    | none =>
      rw [g2] at p2
      simp only at p2
      have := p3' (by omega)
      exact .inr ⟨by omega, rfl⟩
    | some r =>
      obtain ⟨v, q⟩ := r
      rw [g2] at p2
      obtain ⟨rfl, rfl, rfl⟩ := p2
      replace p3 := p3 rfl
      simp only
      cases g3 : rdN bs 4 a2 with
      | none =>
        rw [g3] at p3
        exact .inr ⟨p3, rfl⟩
      | some r =>
        obtain ⟨v, q⟩ := r
        rw [g3] at p3
        obtain ⟨rfl, rfl, rfl⟩ := p3
        exact .inl ⟨rfl, rfl⟩
theorem num_ok {bs : List UInt8} {k a v a' E' : Nat} (h : NumP bs k a 0 v a' E') : (E' = 0 ∧ rdN bs k a = some (v, a')) ∨ (E' = 240 ∧ rdN bs k a = none) := by
  obtain ⟨-, -, p1, -⟩ := h
  replace p1 := p1 rfl
  cases g1 : rdN bs k a with
  | none => rw [g1] at p1; exact .inr ⟨p1, rfl⟩
  | some r =>
    obtain ⟨v, q⟩ := r
    rw [g1] at p1
    obtain ⟨rfl, rfl, rfl⟩ := p1
    exact .inl ⟨rfl, rfl⟩
theorem lengthsR_spec {F : World} {M : List Nat} {H : List Res} {p c oc on : Nat} {b oa : Option Addr} {most : Nat} {bs : List UInt8} [Rd F M H b (bs.map bV)] {pos : Nat} (hp : pos ≤ 8 * bs.length) (hb : bs.length ≤ 1000000000000000) :
    Meets Tryd.prog 59 [.pointer (some ⟨p, 0, none⟩)] F M (.blk p (rr b bs.length c pos most oa on oc 0) 62 :: H) (LenPost p b bs c most oa on oc H (lenM bs pos)) := by
  refine Meets.enter Tryd.func59 rfl rfl ?_
  repeat' (first | ((with_reducible apply T.mv); apply rfl; apply rfl) | ((with_reducible apply T.asn); apply rfl; apply rfl) | with_reducible refine Sr.nil ?_ | with_reducible refine S.seq ?_ | with_reducible refine S.reg ?_ | fail)
  refine T.call rfl rfl (numR_spec hb hp (k := 5) (by omega)) ?_
  rintro _ _ ⟨v1, a1, E1, rfl, rfl, h1⟩
  have v1l : v1 < 32 := h1.1
  have e1 : (v1 : Int) + 257 = ((v1 + 257 : Nat) : Int) := by omega
  repeat' (first | ((with_reducible apply T.addI); apply rfl; apply rfl; omega; apply rfl; rw [e1]) | ((with_reducible apply T.mv); apply rfl; apply rfl) | ((with_reducible apply T.asn); apply rfl; apply rfl) | with_reducible refine Sr.nil ?_ | with_reducible refine S.seq ?_ | with_reducible refine S.reg ?_ | (with_reducible apply T.ofRet) | fail)
  refine T.call rfl rfl (numR_spec hb h1.2.1 (k := 5) (by omega)) ?_
  rintro _ _ ⟨v2, a2, E2, rfl, rfl, h2⟩
  have v2l : v2 < 32 := h2.1
  have e2 : (v2 : Int) + 1 = ((v2 + 1 : Nat) : Int) := by omega
  repeat' (first | ((with_reducible apply T.addI); apply rfl; apply rfl; omega; apply rfl; rw [e2]) | ((with_reducible apply T.mv); apply rfl; apply rfl) | ((with_reducible apply T.asn); apply rfl; apply rfl) | with_reducible refine Sr.nil ?_ | with_reducible refine S.seq ?_ | with_reducible refine S.reg ?_ | (with_reducible apply T.ofRet) | fail)
  refine T.call rfl rfl (numR_spec hb h2.2.1 (k := 4) (by omega)) ?_
  rintro _ _ ⟨v3, a3, E3, rfl, rfl, h3⟩
  have v3l : v3 < 16 := h3.1
  have e3 : (v3 : Int) + 4 = ((v3 + 4 : Nat) : Int) := by omega
  have hhd := lengths_head h1 h2 h3
  have ha3 := h3.2.1
  clear h1 h2 h3
  generalize hl : v1 + 257 = l at *
  generalize hd : v2 + 1 = d at *
  generalize hcc : v3 + 4 = k at *
  repeat' (first | ((with_reducible apply T.addI); apply rfl; apply rfl; omega; apply rfl; rw [e3]) | ((with_reducible apply T.asn); apply rfl; apply rfl) | with_reducible refine Sr.nil ?_ | with_reducible refine S.seq ?_ | with_reducible refine S.reg ?_ | (with_reducible apply T.ofRet) | fail)
  refine T.makeS (n := 19) rfl rfl rfl (by omega) rfl ?_
  intro b7
  repeat' (first | ((with_reducible apply T.asn); apply rfl; apply rfl) | with_reducible refine Sr.nil ?_ | with_reducible refine S.seq ?_ | with_reducible refine S.reg ?_ | fail)
  refine T.call rfl rfl orderR_spec ?_
  rintro _ _ ⟨bo, rfl, rfl⟩
  have hb7 : ∀ n, List.replicate n (Value.int .i64 0) = (List.replicate n 0).map nV := fun n => by rw [List.map_replicate]; rfl
  rw [hb7 19]
  generalize hX : lenM bs pos = X
  unfold lenM at hX
  repeat' (first | ((with_reducible apply T.asn); apply rfl; apply rfl) | with_reducible refine Sr.nil ?_ | (with_reducible apply T.ofRet) | fail)
  refine S.front p ?_
  refine S.seq ?_
  refine S.cut (fun H' e' => ∃ E4, ((E4 = 0 ∧ X = lenS bs l d (shortL bs (ordL.take k) a3 (List.replicate 19 0))) ∨ (E4 = 240 ∧ X = .error 240)) ∧ H' = .blk p (rr b bs.length c a3 most oa on oc E4) 62 :: .blk bo (ordL.map nV) 3 :: .row (some ⟨b7, 0, none⟩) 19 3 1 19 ((List.replicate 19 0).map nV) :: H ∧
    e' = [(0, .pointer (some ⟨p, 0, none⟩)), (4, .int .i64 l), (5, .int .i64 d), (6, .int .i64 k), (7, .slice (some ⟨b7, 0, none⟩) 19 19), (8, .slice (some ⟨bo, 0, none⟩) 19 19)]) ?_ ?_
  · intro k' hrest
    have bad : (286 < l ∨ 30 < d) → stopE E3 240 = 240 ∧ X = .error 240 := by
      intro hbad
      rcases hhd with ⟨g1, g2⟩ | ⟨g1, g2⟩
      · rw [g2] at hX
        simp only at hX
        rw [if_pos hbad] at hX
        exact ⟨by simp [stopE, g1], hX.symm⟩
      · rw [g2] at hX
        exact ⟨by simp [stopE, g1], hX.symm⟩
    repeat' (first | (refine T.call rfl rfl (stop_spec 240 (by omega)) ?_; rintro _ _ ⟨rfl, rfl⟩) | ((with_reducible apply T.mv); apply rfl; apply rfl) | ((with_reducible apply T.gtr); apply rfl; apply rfl; apply rfl) | ((with_reducible apply T.pickT); apply rfl; apply rfl; apply rfl) | ((with_reducible apply T.pickF); apply rfl; apply rfl; apply rfl) | with_reducible refine Sr.nil ?_ | with_reducible refine S.seq ?_ | with_reducible refine S.reg ?_ | with_reducible refine S.skip ?_ | ((with_reducible apply T.ung); apply rfl) | ((with_reducible apply T.skip); apply rfl; apply rfl; apply rfl) | ((with_reducible apply S.condT); apply rfl) | (with_reducible apply T.ofRet) | ((with_reducible apply S.condQ); apply rfl; all_goals (intro _; try (exfalso; omega))) | ((with_reducible apply T.gcase); apply rfl; apply rfl; all_goals (intro _; try (exfalso; omega))) | fail)
    all_goals first
      | exact hrest _ _ _ ⟨_, .inr (bad (by omega)), rfl, rfl⟩ (by repeat' first | exact trivial | refine And.intro rfl ?_)
      | (refine hrest _ _ _ ⟨E3, ?_, rfl, rfl⟩ (by repeat' first | exact trivial | refine And.intro rfl ?_)
         rcases hhd with ⟨g1, g2⟩ | ⟨g1, g2⟩
         · rw [g2] at hX
           simp only at hX
           rw [if_neg (by omega)] at hX
           exact .inl ⟨g1, hX.symm⟩
         · rw [g2] at hX
           exact .inr ⟨g1, hX.symm⟩)
  clear hX hhd
  rintro _ _ ⟨E4, h4, rfl, rfl⟩
  have hol : ∀ j, j < 19 → ordL.getD j 0 < 19 := by decide
  have ho19 : ordL.length = 19 := rfl
  have hl257 : 257 ≤ l := by omega
  have hdr : ∀ j, j < k → (ordL.take k).drop j = ordL.getD j 0 :: (ordL.take k).drop (j + 1) := fun j h => by
    rw [List.drop_eq_getElem_cons (by simp; omega)]
    congr 1
    rw [List.getElem_take, List.getD_eq_getElem?_getD, List.getElem?_eq_getElem (by omega)]
    rfl
  have hk19 : k ≤ 19 := by omega
  have hlt1 : l ≤ 288 ∧ d ≤ 32 ∧ 1 ≤ d := by omega
  clear e1 e2 e3 hl hd hcc v1l v2l v3l
  clear v1 v2 v3 a1 a2 E1 E2 E3
  repeat' (first | ((with_reducible apply T.asn); apply rfl; apply rfl) | with_reducible refine Sr.nil ?_ | with_reducible refine S.seq ?_ | with_reducible refine S.block ?_ | with_reducible refine S.reg ?_ | fail)
  refine S.frontR (some ⟨b7, 0, none⟩) ?_
  refine S.front p ?_
  refine S.loopE 2 [0, 4, 5, 6, 7, 8] (fun R b' μ H' e => ∃ (j a' E' : Nat) (sh : List Nat), H' = .blk p (rr b bs.length c a' most oa on oc E') 62 :: .row (some ⟨b7, 0, none⟩) 19 3 1 19 (sh.map nV) :: R ∧ e = (9, .int .i64 j) :: b' ∧
    (j ≤ k ∧ a' ≤ 8 * bs.length ∧ sh.length = 19 ∧ (∀ x ∈ sh, x ≤ 15) ∧ ((E' = 0 ∧ X = lenS bs l d (shortL bs ((ordL.take k).drop j) a' sh)) ∨ (E' = 240 ∧ X = .error 240))) ∧ μ = k - j) rfl rfl ?_ _ _ ⟨0, a3, E4, List.replicate 19 0, rfl, rfl, ⟨by omega, ha3, by simp, fun x hx => by rw [List.mem_replicate] at hx; omega, h4⟩, rfl⟩ (by repeat' first | exact trivial | refine And.intro rfl ?_)
  rintro _ _ _ ⟨j, a', E', sh, rfl, rfl, ⟨g1, g2, g3, g4, g5⟩, rfl⟩ ih
  have hoj := hol j
  have hsl : (sh.map nV).length = 19 := by simp [g3]
  repeat' (first | ((with_reducible apply T.mv); apply rfl; apply rfl) | ((with_reducible apply T.lss); apply rfl; apply rfl; apply rfl) | with_reducible refine Sr.nil ?_ | with_reducible refine S.seq ?_ | with_reducible refine S.block ?_ | with_reducible refine S.reg ?_ | with_reducible refine S.skip ?_ | ((with_reducible apply S.exit); apply rfl) | ((with_reducible apply S.condQ); apply rfl; all_goals (intro _; try (exfalso; omega))) | fail)
  · rename_i hj
    have hoj := hol j (by omega)
    rw [hdr j (by omega)] at g5
    ((with_reducible apply S.draw); (case Hs => exact .blk bo (ordL.map nV) 3 :: H); (case es => exact  [6, 7, 8]); (case n => exact  9); (case hn => rfl))
    repeat' (first | (refine T.call rfl rfl (numR_spec hb g2 (k := 3) (by omega)) ?_; rintro _ _ ⟨v, a2, E2, rfl, rfl, hn⟩) | ((with_reducible apply T.mv); apply rfl; apply rfl) | ((with_reducible apply T.asn); apply rfl; apply rfl) | ((with_reducible apply T.addI); apply rfl; apply rfl; omega; apply rfl) | ((with_reducible apply T.ixN); apply rfl; apply rfl; infer_instance; omega; (first | omega | (simp; omega)); apply rfl) | ((with_reducible apply T.loadNat); apply rfl; infer_instance; (first | omega | (simp; omega)); apply rfl) | ((with_reducible apply T.storeEN); apply rfl; apply rfl; infer_instance; (first | omega | (simp; omega))) | with_reducible refine Sr.nil ?_ | with_reducible refine S.reg ?_ | with_reducible refine S.inBlock ?_ | (with_reducible apply T.ofRet) | ((with_reducible apply SA.qn); apply rfl; apply rfl; apply rfl; apply rfl; kernel_rfl) | ((with_reducible apply SA.qsn); apply rfl; apply rfl; apply rfl; kernel_rfl; (first | exact fun _ h => h | exact fun _ h => St.psub h (by ((repeat (first | dsimp only [List.set_cons_zero] | dsimp only [List.set_cons_succ])); repeat' first | exact PSub.refl _ | exact PSub.nil | ((with_reducible apply PSub.take); (repeat' first | (with_reducible exact pick_hd) | (with_reducible apply pick_tl))) | (with_reducible apply PSub.drop) | ((apply PSub.take); (repeat' first | exact pick_hd | (apply pick_tl))))))) | ((with_reducible apply SA.en); apply rfl; apply rfl; kernel_rfl) | ((with_reducible apply SA.done); apply rfl; kernel_rfl) | ((with_reducible apply SK.intro); (first | exact fun _ h => h | exact fun _ h => St.psub h (by ((repeat (first | dsimp only [List.set_cons_zero] | dsimp only [List.set_cons_succ])); repeat' first | exact PSub.refl _ | exact PSub.nil | ((with_reducible apply PSub.take); (repeat' first | (with_reducible exact pick_hd) | (with_reducible apply pick_tl))) | (with_reducible apply PSub.drop) | ((apply PSub.take); (repeat' first | exact pick_hd | (apply pick_tl))))))) | fail)
    all_goals
      refine ih _ _ _ _ ⟨j + 1, a2, E2, sh.set (ordL.getD j 0) v, rfl, rfl, ⟨by omega, hn.2.1, by simpa using g3, fun x hx => ?_, ?_⟩, rfl⟩ (by omega) (by repeat' first | exact trivial | refine And.intro rfl ?_)
      · have hv : v < 2 ^ 3 := hn.1
        rcases List.mem_or_eq_of_mem_set hx with hx | rfl
        · exact g4 x hx
        · omega
      · rcases g5 with ⟨rfl, h⟩ | ⟨rfl, h⟩
        · rw [shortL] at h
          rcases num_ok hn with ⟨q1, q2⟩ | ⟨q1, q2⟩
          · rw [q2] at h
            exact .inl ⟨q1, h⟩
          · rw [q2] at h
            exact .inr ⟨q1, h⟩
        · exact .inr ⟨hn.2.2.2 (by omega), h⟩
  have hjk : j = k := by omega
  subst hjk
  rw [List.drop_eq_nil_of_le (by rw [List.length_take]; omega), shortL, lenS] at g5
  refine T.call rfl rfl (fullR_spec (n := 19) g3 (by omega)) ?_
  rintro _ _ ⟨rfl, rfl⟩
  repeat' (first | ((with_reducible apply T.not); apply rfl; apply rfl) | with_reducible refine Sr.nil ?_ | (with_reducible apply T.ofRet) | fail)
  refine S.cut (fun H' e' => ∃ E5, ((E5 = 0 ∧ X = lenE l (lensL bs sh (l + d) (l + d + 1) a' [])) ∨ (E5 = 240 ∧ X = .error 240)) ∧ H' = .blk p (rr b bs.length c a' most oa on oc E5) 62 :: .row (some ⟨b7, 0, none⟩) 19 3 1 19 (sh.map nV) :: H ∧
    e' = [(0, .pointer (some ⟨p, 0, none⟩)), (4, .int .i64 l), (5, .int .i64 d), (7, .slice (some ⟨b7, 0, none⟩) 19 19)]) ?_ ?_
  · intro k' hrest
    repeat' (first | (refine T.call rfl rfl (stop_spec 240 (by omega)) ?_; rintro _ _ ⟨rfl, rfl⟩) | ((with_reducible apply T.mv); apply rfl; apply rfl) | with_reducible refine Sr.nil ?_ | with_reducible refine S.reg ?_ | with_reducible refine S.skip ?_ | (with_reducible apply T.ofRet) | ((with_reducible apply S.condQ); apply rfl; all_goals (intro _; try (exfalso; omega))) | fail)
    · rename_i hf
      refine S.sublist (H' := .blk p (rr b bs.length c a' most oa on oc (stopE E' 240)) 62 :: .row (some ⟨b7, 0, none⟩) 19 3 1 19 (sh.map nV) :: H) ?_ (by ((repeat (first | dsimp only [List.set_cons_zero] | dsimp only [List.set_cons_succ])); repeat' first | exact PSub.refl _ | exact PSub.nil | ((with_reducible apply PSub.take); (repeat' first | (with_reducible exact pick_hd) | (with_reducible apply pick_tl))) | (with_reducible apply PSub.drop) | ((apply PSub.take); (repeat' first | exact pick_hd | (apply pick_tl)))))
      refine hrest _ _ _ ⟨_, .inr ?_, rfl, rfl⟩ (by repeat' first | exact trivial | refine And.intro rfl ?_)
      rcases g5 with ⟨rfl, h⟩ | ⟨rfl, h⟩
      · rw [if_neg hf] at h
        exact ⟨rfl, h⟩
      · exact ⟨rfl, h⟩
    · rename_i hf
      refine S.sublist (H' := .blk p (rr b bs.length c a' most oa on oc E') 62 :: .row (some ⟨b7, 0, none⟩) 19 3 1 19 (sh.map nV) :: H) ?_ (by ((repeat (first | dsimp only [List.set_cons_zero] | dsimp only [List.set_cons_succ])); repeat' first | exact PSub.refl _ | exact PSub.nil | ((with_reducible apply PSub.take); (repeat' first | (with_reducible exact pick_hd) | (with_reducible apply pick_tl))) | (with_reducible apply PSub.drop) | ((apply PSub.take); (repeat' first | exact pick_hd | (apply pick_tl)))))
      refine hrest _ _ _ ⟨E', ?_, rfl, rfl⟩ (by repeat' first | exact trivial | refine And.intro rfl ?_)
      rcases g5 with ⟨rfl, h⟩ | ⟨rfl, h⟩
      · rw [if_pos (Decidable.not_not.1 hf)] at h
        exact .inl ⟨rfl, h⟩
      · exact .inr ⟨rfl, h⟩
  clear g5 ih h4 hol hoj hdr ha3 g1 hk19
  clear a3 E4 E'
  rintro _ _ ⟨E5, h5, rfl, rfl⟩
  refine S.nilrow 3 1 ?_
  refine S.front p ?_
  have hws := wordsR_len sh
  rw [g3] at hws
  generalize htot : l + d = tot at h5
  repeat' (first | ((with_reducible apply T.asn); apply rfl; apply rfl) | with_reducible refine Sr.nil ?_ | with_reducible refine S.seq ?_ | with_reducible refine S.block ?_ | with_reducible refine S.reg ?_ | fail)
  refine S.loopE 2 [0, 4, 5, 7] (fun R b' μ H' e => ∃ (f a' E' : Nat) (out : List Nat) (la : Option Addr) (lc : Nat), H' = .blk p (rr b bs.length c a' most oa on oc E') 62 :: .row la lc 3 1 out.length (out.map nV) :: R ∧ e = (10, .slice la out.length lc) :: b' ∧
    (a' ≤ 8 * bs.length ∧ out.length ≤ 1000 ∧ (∀ x ∈ out, x ≤ 15) ∧ (E' = 0 → (out.length ≤ tot ∧ tot < f + out.length ∧ X = lenE l (lensL bs sh tot f a' out)) ∨ (tot < out.length ∧ X = .error 240)) ∧ (E' ≠ 0 → E' = 240 ∧ X = .error 240)) ∧ μ = f) rfl rfl ?_ _ _
    ⟨tot + 1, a', E5, [], none, 0, rfl, rfl, ⟨g2, by simp, by simp, fun h => .inl ⟨by simp, by simp, (h5.resolve_right (fun q => by omega)).2⟩, fun h => h5.resolve_left (fun q => h q.1)⟩, rfl⟩ (by repeat' first | exact trivial | refine And.intro rfl ?_)
  clear h5 g2
  clear a' E5
  rintro f _ _ ⟨_, a', E', out, la, lc, rfl, rfl, ⟨g1, g2, g4, g5, g6⟩, rfl⟩ ih
  refine S.capR (ad := la) inferInstance fun hcap => ?_
  repeat' (first | (refine T.call rfl rfl (stop_spec 240 (by omega)) ?_; rintro _ _ ⟨rfl, rfl⟩) | ((with_reducible apply T.mv); apply rfl; apply rfl) | ((with_reducible apply T.asn); apply rfl; apply rfl) | ((with_reducible apply T.len); apply rfl; apply rfl) | ((with_reducible apply T.nilCheck); apply rfl; apply rfl) | ((with_reducible apply T.fieldAddrZ); apply rfl; apply rfl) | ((with_reducible apply T.load); apply rfl; apply rfl; infer_instance; apply rfl; apply rfl) | ((with_reducible apply T.lss); apply rfl; apply rfl; apply rfl) | ((with_reducible apply T.eql); apply rfl; apply rfl; apply rfl) | ((with_reducible apply T.neq); apply rfl; apply rfl; apply rfl) | ((with_reducible apply T.addI); apply rfl; apply rfl; omega; apply rfl) | ((with_reducible apply T.pickT); apply rfl; apply rfl; apply rfl) | ((with_reducible apply T.pickF); apply rfl; apply rfl; apply rfl) | ((with_reducible apply T.sliceLK); apply rfl; apply rfl; omega; apply rfl) | ((with_reducible apply T.sliceHK); apply rfl; apply rfl; omega; apply rfl) | with_reducible refine Sr.nil ?_ | with_reducible refine S.seq ?_ | with_reducible refine S.block ?_ | with_reducible refine S.reg ?_ | with_reducible refine S.skip ?_ | ((with_reducible apply S.exit); apply rfl) | ((with_reducible apply S.quiet); apply rfl; kernel_rfl) | ((with_reducible apply T.ung); apply rfl) | ((with_reducible apply T.skip); apply rfl; apply rfl; apply rfl) | ((with_reducible apply S.condT); apply rfl) | ((with_reducible apply S.condF); apply rfl) | ((with_reducible apply T.retW); apply rfl) | (with_reducible apply T.ofRet) | ((with_reducible apply S.condQ); apply rfl; all_goals (intro _; try (exfalso; omega))) | ((with_reducible apply T.gcase); apply rfl; apply rfl; all_goals (intro _; try (exfalso; omega))) | fail)
  · rename_i hlt hE0
    have hE0' : E' = 0 := by omega
    subst hE0'
    obtain ⟨q1, q2, q3⟩ := (g5 rfl).resolve_right (fun h => by omega)
    cases f with
    | zero => exfalso; omega
    | succ f =>
    refine T.call rfl rfl (wordsR_spec (n := 19) g3 (by omega)) ?_
    rintro _ _ ⟨bw, rfl, rfl⟩
    repeat' (first | (with_reducible apply T.ofRet) | fail)
    refine Sr.front p ?_
    refine T.call rfl rfl (symR_spec hws (by omega) hb g1) ?_
    rintro _ _ ⟨s, a1, E1, rfl, rfl, s1, s2, -, s4, s5⟩
    replace s2 := s2 rfl
    rw [rsym_eq] at s2
    rw [hws] at s4
    have hQ : (E1 = 0 ∧ s < 19 ∧ X = lenE l (lensK bs sh tot f out (rep bs s a1 out))) ∨ (E1 = 240 ∧ s = 0 ∧ X = .error 240) := by
      cases hs : sym (code sh).1 (code sh).2 bs a' with
      | none =>
        rw [hs] at s2
        rw [lensL_none (by omega) hs] at q3
        simp only at s2
        exact .inr ⟨s2, s5 (by omega), q3⟩
      | some r =>
        obtain ⟨s', p'⟩ := r
        rw [hs] at s2
        obtain ⟨rfl, rfl, rfl⟩ := s2
        rw [lensL_step (by omega) hs] at q3
        have := (code_sym_lt (by omega) hs).1
        exact .inl ⟨rfl, by omega, q3⟩
    clear s2 s5 q3 g5 g6
    have hE240 : stopE E1 240 = 240 := by unfold stopE; rcases hQ with ⟨h, -⟩ | ⟨h, -⟩ <;> simp [h]
    have hX16 : ∀ {r}, E1 = 0 → rep bs s a1 out = r → X = lenE l (lensK bs sh tot f out r) := by
      rintro _ h rfl
      exact (hQ.resolve_right (fun q => by omega)).2.2
    have hX240 : E1 ≠ 0 → E1 = 240 ∧ X = .error 240 := fun h => by
      obtain ⟨q, -, q'⟩ := hQ.resolve_left (fun q => h q.1)
      exact ⟨q, q'⟩
    have hs0 : E1 ≠ 0 → s = 0 := fun h => (hQ.resolve_left (fun q => h q.1)).2.1
    have hs19 : s < 19 := by rcases hQ with ⟨-, h, -⟩ | ⟨-, h, -⟩ <;> omega
    clear hQ
    repeat' (first | ((with_reducible apply T.asn); apply rfl; apply rfl) | with_reducible refine Sr.nil ?_ | (with_reducible apply T.ofRet) | fail)
    refine S.seq ?_
    repeat' (first | ((with_reducible apply T.asn); apply rfl; apply rfl) | with_reducible refine Sr.nil ?_ | with_reducible refine S.reg ?_ | fail)
    refine S.seq ?_
    skip
    refine S.cut (fun H' e' => ∃ s' n a2 E2, ((E2 = 0 ∧ X = lenE l (lensK bs sh tot f out (some (s', n, a2)))) ∨ (E2 = 240 ∧ X = .error 240)) ∧ s' ≤ 15 ∧ 1 ≤ n ∧ n ≤ 200 ∧ a2 ≤ 8 * bs.length ∧ H' = .blk p (rr b bs.length c a2 most oa on oc E2) 62 :: .row la lc 3 1 out.length (out.map nV) :: .row (some ⟨b7, 0, none⟩) 19 3 1 19 (sh.map nV) :: H ∧
      e' = [(0, .pointer (some ⟨p, 0, none⟩)), (4, .int .i64 l), (5, .int .i64 d), (7, .slice (some ⟨b7, 0, none⟩) 19 19), (10, .slice la out.length lc), (11, .int .i64 s'), (12, .int .i64 n)]) ?_ ?_
    · intro k' hrest
      have hto : ∀ {a2 E2 : Nat} {H' : List Res} {e'' : Env} (s' n : Nat), ((E2 = 0 ∧ X = lenE l (lensK bs sh tot f out (some (s', n, a2)))) ∨ (E2 = 240 ∧ X = .error 240)) → s' ≤ 15 → 1 ≤ n → n ≤ 200 → a2 ≤ 8 * bs.length →
          PSub (.blk p (rr b bs.length c a2 most oa on oc E2) 62 :: .row la lc 3 1 out.length (out.map nV) :: .row (some ⟨b7, 0, none⟩) 19 3 1 19 (sh.map nV) :: H) H' →
          sub [(0, .pointer (some ⟨p, 0, none⟩)), (4, .int .i64 l), (5, .int .i64 d), (7, .slice (some ⟨b7, 0, none⟩) 19 19), (10, .slice la out.length lc), (11, .int .i64 s'), (12, .int .i64 n)] e'' →
          S ⟨Tryd.prog, 59, Tryd.f59, F, M, LenPost p b bs c most oa on oc H X, false⟩ [] H' k' e'' := fun s' n w1 w2 w3 w4 w5 w6 w7 => S.sublist (hrest _ _ _ ⟨s', n, _, _, w1, w2, w3, w4, w5, rfl, rfl⟩ w7) w6
      have hno : ∀ {v a2 E2 k : Nat} {s' base : Nat}, NumP bs k a1 0 v a2 E2 → E1 = 0 → (∀ r, rdN bs k a1 = r → rep bs s a1 out = match r with
          | some (v, q) => some (s', base + v, q)
          | none => none) → (E2 = 0 ∧ X = lenE l (lensK bs sh tot f out (some (s', base + v, a2)))) ∨ (E2 = 240 ∧ X = .error 240) := by
        intro v a2 E2 k s' base hn hE hr
        rcases num_ok hn with ⟨w1, w2⟩ | ⟨w1, w2⟩
        · exact .inl ⟨w1, hX16 hE (hr _ w2)⟩
        · exact .inr ⟨w1, hX16 hE (hr _ w2)⟩
      repeat' (first | ((with_reducible apply T.mv); apply rfl; apply rfl) | ((with_reducible apply T.asn); apply rfl; apply rfl) | ((with_reducible apply T.eql); apply rfl; apply rfl; apply rfl) | with_reducible refine Sr.nil ?_ | with_reducible refine S.seq ?_ | with_reducible refine S.block ?_ | with_reducible refine S.reg ?_ | fail)
      refine S.condQ rfl (fun h16 => ?_) fun h16 => ?_
      · have h16' : s = 16 := by omega
        subst h16'
        have hE1 : E1 = 0 := by
          by_cases h : E1 = 0
          · exact h
          · exact absurd (hs0 h) (by omega)
        subst hE1
        repeat' (first | ((with_reducible apply T.mv); apply rfl; apply rfl) | ((with_reducible apply T.len); apply rfl; apply rfl) | ((with_reducible apply T.eql); apply rfl; apply rfl; apply rfl) | with_reducible refine Sr.nil ?_ | with_reducible refine S.seq ?_ | with_reducible refine S.reg ?_ | fail)
        refine S.condQ rfl (fun h0 => ?_) fun h0 => ?_
        · have hr : X = .error 240 := hX16 (r := none) rfl (by simp only [rep, if_true]; rw [if_pos (by omega)])
          repeat' (first | (refine T.call rfl rfl (stop_spec 240 (by omega)) ?_; rintro _ _ ⟨rfl, rfl⟩) | ((with_reducible apply T.mv); apply rfl; apply rfl) | ((with_reducible apply T.asn); apply rfl; apply rfl) | with_reducible refine Sr.nil ?_ | with_reducible refine S.seq ?_ | with_reducible refine S.reg ?_ | ((with_reducible apply T.retW); apply rfl) | (with_reducible apply T.ofRet) | fail)
          exact ⟨.blk p (rr b bs.length c a1 most oa on oc (stopE 0 240)) 62 :: H, by ((repeat (first | dsimp only [List.set_cons_zero] | dsimp only [List.set_cons_succ])); repeat' first | exact PSub.refl _ | exact PSub.nil | ((with_reducible apply PSub.take); (repeat' first | (with_reducible exact pick_hd) | (with_reducible apply pick_tl))) | (with_reducible apply PSub.drop) | ((apply PSub.take); (repeat' first | exact pick_hd | (apply pick_tl)))), .inr ⟨a1, hr, s1, rfl, rfl⟩⟩
        · have e1 : (out.length : Int) - 1 = ((out.length - 1 : Nat) : Int) := by omega
          repeat' (first | ((with_reducible apply T.subI); apply rfl; apply rfl; omega; apply rfl; rw [e1]) | ((with_reducible apply T.mv); apply rfl; apply rfl) | ((with_reducible apply T.asn); apply rfl; apply rfl) | ((with_reducible apply T.len); apply rfl; apply rfl) | ((with_reducible apply T.ixN); apply rfl; apply rfl; infer_instance; omega; (first | omega | (simp; omega)); apply rfl) | ((with_reducible apply T.loadNat); apply rfl; infer_instance; (first | omega | (simp; omega)); apply rfl) | with_reducible refine Sr.nil ?_ | with_reducible refine S.seq ?_ | with_reducible refine S.reg ?_ | with_reducible refine S.skip ?_ | fail)
          refine T.call rfl rfl (numR_spec hb s1 (k := 2) (by omega)) ?_
          rintro _ _ ⟨v, a2, E2, rfl, rfl, hn⟩
          have hv : v < 4 := hn.1
          have e3 : (3 : Int) + (v : Int) = ((3 + v : Nat) : Int) := by omega
          have hl0 : ¬ out.length = 0 := by omega
          have hle : out.getD (out.length - 1) 0 ≤ 15 := by
            rw [List.getD_eq_getElem?_getD, List.getElem?_eq_getElem (by omega)]
            exact g4 _ (List.getElem_mem _)
          repeat' (first | ((with_reducible apply T.addI); apply rfl; apply rfl; omega; apply rfl; rw [e3]) | ((with_reducible apply T.asn); apply rfl; apply rfl) | with_reducible refine Sr.nil ?_ | with_reducible refine S.inBlock ?_ | (with_reducible apply T.ofRet) | fail)
          exact hto (out.getD (out.length - 1) 0) (3 + v) (hno hn rfl (by rintro _ rfl; simp only [rep, if_true, hl0, if_false]; cases rdN bs 2 a1 <;> rfl)) hle (by omega) (by omega) hn.2.1 (by ((repeat (first | dsimp only [List.set_cons_zero] | dsimp only [List.set_cons_succ])); repeat' first | exact PSub.refl _ | exact PSub.nil | ((with_reducible apply PSub.take); (repeat' first | (with_reducible exact pick_hd) | (with_reducible apply pick_tl))) | (with_reducible apply PSub.drop) | ((apply PSub.take); (repeat' first | exact pick_hd | (apply pick_tl))))) (by repeat' first | exact trivial | refine And.intro rfl ?_)
      · have n16 : ¬ s = 16 := by omega
        repeat' (first | ((with_reducible apply T.asn); apply rfl; apply rfl) | ((with_reducible apply T.eql); apply rfl; apply rfl; apply rfl) | with_reducible refine Sr.nil ?_ | with_reducible refine S.seq ?_ | with_reducible refine S.reg ?_ | fail)
        refine S.condQ rfl (fun h17 => ?_) fun h17 => ?_
        · have h17' : s = 17 := by omega
          subst h17'
          have hE1 : E1 = 0 := by
            by_cases h : E1 = 0
            · exact h
            · exact absurd (hs0 h) (by omega)
          subst hE1
          repeat' (first | ((with_reducible apply T.mv); apply rfl; apply rfl) | ((with_reducible apply T.asn); apply rfl; apply rfl) | with_reducible refine Sr.nil ?_ | with_reducible refine S.seq ?_ | with_reducible refine S.reg ?_ | fail)
          refine T.call rfl rfl (numR_spec hb s1 (k := 3) (by omega)) ?_
          rintro _ _ ⟨v, a2, E2, rfl, rfl, hn⟩
          have hv : v < 8 := hn.1
          have e3 : (3 : Int) + (v : Int) = ((3 + v : Nat) : Int) := by omega
          repeat' (first | ((with_reducible apply T.addI); apply rfl; apply rfl; omega; apply rfl; rw [e3]) | ((with_reducible apply T.asn); apply rfl; apply rfl) | with_reducible refine Sr.nil ?_ | with_reducible refine S.inBlock ?_ | (with_reducible apply T.ofRet) | fail)
          exact hto 0 (3 + v) (hno hn rfl (by rintro _ rfl; simp only [rep, n16, if_true, if_false]; cases rdN bs 3 a1 <;> rfl)) (by omega) (by omega) (by omega) hn.2.1 (by ((repeat (first | dsimp only [List.set_cons_zero] | dsimp only [List.set_cons_succ])); repeat' first | exact PSub.refl _ | exact PSub.nil | ((with_reducible apply PSub.take); (repeat' first | (with_reducible exact pick_hd) | (with_reducible apply pick_tl))) | (with_reducible apply PSub.drop) | ((apply PSub.take); (repeat' first | exact pick_hd | (apply pick_tl))))) (by repeat' first | exact trivial | refine And.intro rfl ?_)
        · have n17 : ¬ s = 17 := by omega
          repeat' (first | ((with_reducible apply T.asn); apply rfl; apply rfl) | ((with_reducible apply T.eql); apply rfl; apply rfl; apply rfl) | with_reducible refine Sr.nil ?_ | with_reducible refine S.seq ?_ | with_reducible refine S.reg ?_ | fail)
          refine S.condQ rfl (fun h18 => ?_) fun h18 => ?_
          · have h18' : s = 18 := by omega
            subst h18'
            have hE1 : E1 = 0 := by
              by_cases h : E1 = 0
              · exact h
              · exact absurd (hs0 h) (by omega)
            subst hE1
            repeat' (first | ((with_reducible apply T.mv); apply rfl; apply rfl) | ((with_reducible apply T.asn); apply rfl; apply rfl) | with_reducible refine Sr.nil ?_ | with_reducible refine S.seq ?_ | with_reducible refine S.reg ?_ | fail)
            refine T.call rfl rfl (numR_spec hb s1 (k := 7) (by omega)) ?_
            rintro _ _ ⟨v, a2, E2, rfl, rfl, hn⟩
            have hv : v < 128 := hn.1
            have e3 : (11 : Int) + (v : Int) = ((11 + v : Nat) : Int) := by omega
            repeat' (first | ((with_reducible apply T.addI); apply rfl; apply rfl; omega; apply rfl; rw [e3]) | ((with_reducible apply T.asn); apply rfl; apply rfl) | with_reducible refine Sr.nil ?_ | with_reducible refine S.inBlock ?_ | (with_reducible apply T.ofRet) | fail)
            exact hto 0 (11 + v) (hno hn rfl (by rintro _ rfl; simp only [rep, n16, n17, if_true, if_false]; cases rdN bs 7 a1 <;> rfl)) (by omega) (by omega) (by omega) hn.2.1 (by ((repeat (first | dsimp only [List.set_cons_zero] | dsimp only [List.set_cons_succ])); repeat' first | exact PSub.refl _ | exact PSub.nil | ((with_reducible apply PSub.take); (repeat' first | (with_reducible exact pick_hd) | (with_reducible apply pick_tl))) | (with_reducible apply PSub.drop) | ((apply PSub.take); (repeat' first | exact pick_hd | (apply pick_tl))))) (by repeat' first | exact trivial | refine And.intro rfl ?_)
          · have n18 : ¬ s = 18 := by omega
            have hs15 : s ≤ 15 := by omega
            repeat' (first | with_reducible refine S.skip ?_ | with_reducible refine S.inBlock ?_ | fail)
            refine hto s 1 ?_ hs15 (by omega) (by omega) s1 (by ((repeat (first | dsimp only [List.set_cons_zero] | dsimp only [List.set_cons_succ])); repeat' first | exact PSub.refl _ | exact PSub.nil | ((with_reducible apply PSub.take); (repeat' first | (with_reducible exact pick_hd) | (with_reducible apply pick_tl))) | (with_reducible apply PSub.drop) | ((apply PSub.take); (repeat' first | exact pick_hd | (apply pick_tl))))) (by repeat' first | exact trivial | refine And.intro rfl ?_)
            by_cases h : E1 = 0
            · exact .inl ⟨h, hX16 h (by simp only [rep, n16, n17, n18, if_false])⟩
            · exact .inr (hX240 h)
    · clear hX16 hX240 hs0 hE240 s4 hs19
      clear s E1 s1 a1 bw
      rintro _ _ ⟨s', n, a2, E2, hJ, w2, w3, w4, w5, rfl, rfl⟩
      repeat' (first | ((with_reducible apply T.asn); apply rfl; apply rfl) | with_reducible refine Sr.nil ?_ | with_reducible refine S.seq ?_ | with_reducible refine S.block ?_ | with_reducible refine S.reg ?_ | fail)
      refine S.loopE 2 [0, 4, 5, 7, 11, 12] (fun R b' μ H' e => ∃ (m : Nat) (la : Option Addr) (lc : Nat), H' = .blk p (rr b bs.length c a2 most oa on oc E2) 62 :: .row la lc 3 1 (out.length + m) ((out ++ List.replicate m s').map nV) :: R ∧
        e = (10, .slice la (out.length + m) lc) :: (13, .int .i64 m) :: b' ∧ m ≤ n ∧ μ = n - m) rfl rfl ?_ _ _ ⟨0, la, lc, by simp, rfl, by omega, rfl⟩ (by repeat' first | exact trivial | refine And.intro rfl ?_)
      rintro _ _ _ ⟨m, la, lc, rfl, rfl, hmn, rfl⟩ ih'
      have hlm : (out ++ List.replicate m s').length = out.length + m := by simp
      have hsucc : out ++ List.replicate (m + 1) s' = (out ++ List.replicate m s') ++ [s'] := by rw [List.replicate_succ', List.append_assoc]
      repeat' (first | ((with_reducible apply T.mv); apply rfl; apply rfl) | ((with_reducible apply T.asn); apply rfl; apply rfl) | ((with_reducible apply T.lss); apply rfl; apply rfl; apply rfl) | ((with_reducible apply T.addI); apply rfl; apply rfl; omega; apply rfl) | ((with_reducible apply T.bs); apply rfl; apply rfl; apply rfl; apply rfl; apply rfl; apply rfl; intro nb) | ((with_reducible apply T.appendN); apply rfl; apply rfl; infer_instance; apply rfl; (constructor <;> omega); apply rfl; intro na nc) | with_reducible refine Sr.nil ?_ | with_reducible refine S.seq ?_ | with_reducible refine S.block ?_ | with_reducible refine S.reg ?_ | with_reducible refine S.skip ?_ | with_reducible refine S.inBlock ?_ | ((with_reducible apply S.exit); apply rfl) | ((with_reducible apply S.condQ); apply rfl; all_goals (intro _; try (exfalso; omega))) | fail)
      · exact ih' _ _ _ _ ⟨m + 1, na, nc, by rw [hsucc]; rfl, rfl, by omega, rfl⟩ (by omega) (by repeat' first | exact trivial | refine And.intro rfl ?_)
      · have hmn' : m = n := by omega
        subst hmn'
        refine ih _ _ _ _ ⟨f, a2, E2, out ++ List.replicate m s', la, lc, by rw [hlm], rfl, ⟨w5, by omega, fun x hx => ?_, fun h => ?_, fun h => hJ.resolve_left (fun q => h q.1)⟩, rfl⟩ (by omega) (by rw [hlm]; exact (by repeat' first | exact trivial | refine And.intro rfl ?_))
        · rcases List.mem_append.1 hx with hx | hx
          · exact g4 x hx
          · rw [List.mem_replicate] at hx
            omega
        · have hX := (hJ.resolve_right (fun q => by omega)).2
          rw [lensK] at hX
          by_cases hn : tot - out.length < m
          · rw [if_pos hn] at hX
            exact .inr ⟨by omega, hX⟩
          · rw [if_neg hn] at hX
            exact .inl ⟨by omega, by omega, hX⟩
  all_goals first
    | (have hfin : X = .error 240 ∧ stopE E' 240 = 240 := by
         by_cases h : E' = 0
         · rcases g5 h with ⟨w1, w2, w3⟩ | ⟨w1, w2⟩
           · exfalso; omega
           · exact ⟨w2, by simp [stopE, h]⟩
         · obtain ⟨w1, w2⟩ := g6 h
           exact ⟨w2, by simp [stopE, w1]⟩
       exact ⟨.blk p (rr b bs.length c a' most oa on oc (stopE E' 240)) 62 :: H, by ((repeat (first | dsimp only [List.set_cons_zero] | dsimp only [List.set_cons_succ])); repeat' first | exact PSub.refl _ | exact PSub.nil | ((with_reducible apply PSub.take); (repeat' first | (with_reducible exact pick_hd) | (with_reducible apply pick_tl))) | (with_reducible apply PSub.drop) | ((apply PSub.take); (repeat' first | exact pick_hd | (apply pick_tl)))), .inr ⟨a', hfin.1, g1, rfl, by rw [hfin.2]⟩⟩)
    | (have hE0 : E' = 0 := by omega
       subst hE0
       obtain ⟨w1, w2, w3⟩ := (g5 rfl).resolve_right (fun q => by omega)
       rw [lensL_end (by omega) (by omega)] at w3
       exact ⟨.blk p (rr b bs.length c a' most oa on oc 0) 62 :: .row la lc 3 1 out.length (out.map nV) :: H, by ((repeat (first | dsimp only [List.set_cons_zero] | dsimp only [List.set_cons_succ])); repeat' first | exact PSub.refl _ | exact PSub.nil | ((with_reducible apply PSub.take); (repeat' first | (with_reducible exact pick_hd) | (with_reducible apply pick_tl))) | (with_reducible apply PSub.drop) | ((apply PSub.take); (repeat' first | exact pick_hd | (apply pick_tl)))), .inl ⟨a', l, out, la, lc, w3, g1, by omega, by omega, g2, hcap, g4, rfl, rfl⟩⟩)
end Go.Proofs.YtjhpbljkpbdnnaaDoor
