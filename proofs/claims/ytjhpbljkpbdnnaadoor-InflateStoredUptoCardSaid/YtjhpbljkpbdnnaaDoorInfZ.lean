/- The walks of the document's dynamic blocks and of its whole answer. -/
import Derived.Test.YtjhpbljkpbdnnaaDoorInfY
namespace Go.Proofs.YtjhpbljkpbdnnaaDoor
open Sg Go.IntWalk Infl
set_option maxRecDepth 100000
set_option maxHeartbeats 400000
def dynT (b : List UInt8) (most : Nat) (out : List UInt8) : Except Nat (Nat × List Nat × List Nat) → Except Nat (Nat × List UInt8)
  | .error e => .error e
  | .ok (p, ll, dl) => syms b ll dl most p out
theorem dynamicR_spec {F : World} {M : List Nat} {H : List Res} {p c oc : Nat} {b oa : Option Addr} {most : Nat} {bs out : List UInt8} [hR : Rd F M H b (bs.map bV)] {pos : Nat} (hp : pos ≤ 8 * bs.length) (hb : bs.length ≤ 1000000000000000) (hm : out.length ≤ most) (hmx : most ≤ 1048576) :
    Meets Tryd.prog 40 [.pointer (some ⟨p, 0, none⟩)] F M (.blk p (rr b bs.length c pos most oa out.length oc 0) 62 :: rw_ oa oc out :: H) (LeftR p b bs c most H (dynT bs most out (dyn bs pos))) := by
  refine Meets.enter Tryd.func40 rfl rfl ?_
  rw [dyn_lenM]
  repeat' (first | ((with_reducible apply T.mv); apply rfl; apply rfl) | with_reducible refine S.seq ?_ | with_reducible refine S.reg ?_ | fail)
  refine T.call rfl rfl (lengthsR_spec hp hb) ?_
  rintro _ _ (⟨a', l, lens, la, lc, hX, h1, h2, h3, h4, h5, h6, rfl, rfl⟩ | ⟨a', hX, h1, rfl, rfl⟩)
  · rw [hX]
    have k1 : (lens.take l).length = l := by rw [List.length_take]; omega
    have k2 : (lens.drop l).length = lens.length - l := List.length_drop
    have m1 : ∀ x ∈ lens.take l, x ≤ 15 := fun x hx => h6 x (List.mem_of_mem_take hx)
    have m2 : ∀ x ∈ lens.drop l, x ≤ 15 := fun x hx => h6 x (List.mem_of_mem_drop hx)
    have hk : dynK (.ok (a', l, lens)) = if lens.getD 256 0 = 0 then .error 240 else if decide (kraft (lens.take l) = 32768) || decide (cntR (lens.take l) = (1, 1)) then if decide (kraft (lens.drop l) = 32768) || decide (cntR (lens.drop l) = (1, 1)) || decide ((cntR (lens.drop l)).1 = 0) then .ok (a', lens.take l, lens.drop l) else .error 240 else .error 240 := by
      simp only [dynK, List.mem_cons, List.not_mem_nil, or_false, kind_full m1, kind_one m1, kind_full m2, kind_one m2, kind_none m2, Bool.or_eq_true, decide_eq_true_eq, or_assoc]
    have c1 : ∀ {H : List Res} [Rd F M H la (lens.map nV)], Meets Tryd.prog 60 [.slice la l lc] F M H (fun e H' => e = .returned (.bool (decide (kraft (lens.take l) = 32768))) ∧ H' = H) := fun {H} [i : Rd F M H la (lens.map nV)] => by
      haveI := Rd.take1 i l
      exact fullR_spec k1 (by omega)
    have c2 : ∀ {H : List Res} [Rd F M H la (lens.map nV)], Meets Tryd.prog 61 [.slice la l lc] F M H (fun e H' => e = .returned (.bool (decide (cntR (lens.take l) = (1, 1)))) ∧ H' = H) := fun {H} [i : Rd F M H la (lens.map nV)] => by
      haveI := Rd.take1 i l
      exact oneR_spec k1 (by omega)
    have c3 : ∀ {H : List Res} [Rd F M H la (lens.map nV)], Meets Tryd.prog 60 [.slice (saddr la lc l 1) (lens.length - l) (lc - l)] F M H (fun e H' => e = .returned (.bool (decide (kraft (lens.drop l) = 32768))) ∧ H' = H) := fun {H} [i : Rd F M H la (lens.map nV)] => by
      haveI := Rd.sub1 (lo := l) i h5
      exact fullR_spec k2 (by omega)
    have c4 : ∀ {H : List Res} [Rd F M H la (lens.map nV)], Meets Tryd.prog 61 [.slice (saddr la lc l 1) (lens.length - l) (lc - l)] F M H (fun e H' => e = .returned (.bool (decide (cntR (lens.drop l) = (1, 1)))) ∧ H' = H) := fun {H} [i : Rd F M H la (lens.map nV)] => by
      haveI := Rd.sub1 (lo := l) i h5
      exact oneR_spec k2 (by omega)
    have c5 : ∀ {H : List Res} [Rd F M H la (lens.map nV)], Meets Tryd.prog 62 [.slice (saddr la lc l 1) (lens.length - l) (lc - l)] F M H (fun e H' => e = .returned (.bool (decide ((cntR (lens.drop l)).1 = 0))) ∧ H' = H) := fun {H} [i : Rd F M H la (lens.map nV)] => by
      haveI := Rd.sub1 (lo := l) i h5
      exact noneR_spec k2 (by omega)
    rw [hk]
    generalize decide (kraft (lens.take l) = 32768) = β1 at *
    generalize decide (cntR (lens.take l) = (1, 1)) = β2 at *
    generalize decide (kraft (lens.drop l) = 32768) = β3 at *
    generalize decide (cntR (lens.drop l) = (1, 1)) = β4 at *
    generalize decide ((cntR (lens.drop l)).1 = 0) = β5 at *
    clear hk hX
    have fin : ∀ {X H'}, X = (.error 240 : Except Nat (Nat × List UInt8)) → PSub (.blk p (rr b bs.length c a' most oa out.length oc (stopE 0 240)) 62 :: rw_ oa oc out :: H) H' → ∃ H'', PSub H'' H' ∧ LeftR p b bs c most H X (.returned (.tuple #[])) H'' := fun q1 q2 => ⟨_, q2, a', out, 240, oa, oc, rfl, rfl, h1, hm, q1⟩
    by_cases h256 : lens.getD 256 0 = 0
    · rw [if_pos h256]
      repeat' (first | (refine T.call rfl rfl (stop_spec 240 (by omega)) ?_; rintro _ _ ⟨rfl, rfl⟩) | ((with_reducible apply T.mv); apply rfl; apply rfl) | ((with_reducible apply T.asn); apply rfl; apply rfl) | ((with_reducible apply T.nilCheck); apply rfl; apply rfl) | ((with_reducible apply T.fieldAddrZ); apply rfl; apply rfl) | ((with_reducible apply T.load); apply rfl; apply rfl; infer_instance; apply rfl; apply rfl) | ((with_reducible apply T.eql); apply rfl; apply rfl; apply rfl) | ((with_reducible apply T.neq); apply rfl; apply rfl; apply rfl) | ((with_reducible apply T.extract); apply rfl; apply rfl; apply rfl) | ((with_reducible apply T.ixC); apply rfl; infer_instance; omega; (first | omega | (simp; omega)); apply rfl) | ((with_reducible apply T.loadNat); apply rfl; infer_instance; (first | omega | (simp; omega)); apply rfl) | ((with_reducible apply T.pickT); apply rfl; apply rfl; apply rfl) | with_reducible refine Sr.nil ?_ | with_reducible refine S.seq ?_ | with_reducible refine S.reg ?_ | with_reducible refine S.skip ?_ | ((with_reducible apply T.skip); apply rfl; apply rfl; apply rfl) | ((with_reducible apply T.skipU); apply rfl; apply rfl) | ((with_reducible apply S.condT); apply rfl) | ((with_reducible apply S.condF); apply rfl) | ((with_reducible apply T.retW); apply rfl) | (with_reducible apply T.ofRet) | ((with_reducible apply T.gcase); apply rfl; apply rfl; all_goals (intro _; try (exfalso; omega))) | fail)
      exact fin rfl (by ((repeat (first | dsimp only [List.set_cons_zero] | dsimp only [List.set_cons_succ])); repeat' first | exact PSub.refl _ | exact PSub.nil | ((with_reducible apply PSub.take); (repeat' first | (with_reducible exact pick_hd) | (with_reducible apply pick_tl))) | (with_reducible apply PSub.drop) | ((apply PSub.take); (repeat' first | exact pick_hd | (apply pick_tl)))))
    rw [if_neg h256]
    have cs : ∀ {H : List Res} [Rd F M H b (bs.map bV)] [Rd F M H la (lens.map nV)], Meets Tryd.prog 37 [.pointer (some ⟨p, 0, none⟩), .slice la l lc, .slice (saddr la lc l 1) (lens.length - l) (lc - l)] F M (.blk p (rr b bs.length c a' most oa out.length oc 0) 62 :: rw_ oa oc out :: H) (LeftR p b bs c most H (syms bs (lens.take l) (lens.drop l) most a' out)) := fun {H} [i0 : Rd F M H b (bs.map bV)] [i : Rd F M H la (lens.map nV)] => by
      haveI i1 := Rd.take1 i l
      haveI i2 := Rd.sub1 (lo := l) i h5
      have := symbolsR_spec (F := F) (M := M) (p := p) (H := H) (c := c) (oa := oa) (oc := oc) (lc := lc) (dc := lc - l) (la := la) (da := saddr la lc l 1) (b := b) (bs := bs) (ll := lens.take l) (dl := lens.drop l) h1 hb hm hmx (by omega) (by omega)
      rwa [k1, k2] at this
    have hL : β1 = true ∨ (β1 = false ∧ β2 = true) ∨ (β1 = false ∧ β2 = false) := by cases β1 <;> cases β2 <;> simp
    have hD : β3 = true ∨ (β3 = false ∧ β4 = true) ∨ (β3 = false ∧ β4 = false ∧ β5 = true) ∨ (β3 = false ∧ β4 = false ∧ β5 = false) := by cases β3 <;> cases β4 <;> cases β5 <;> simp
    rcases hL with rfl | ⟨rfl, rfl⟩ | ⟨rfl, rfl⟩
    iterate 2
      rcases hD with rfl | ⟨rfl, rfl⟩ | ⟨rfl, rfl, rfl⟩ | ⟨rfl, rfl, rfl⟩
      iterate 3
        repeat' (first | (refine T.call rfl rfl (stop_spec 240 (by omega)) ?_; rintro _ _ ⟨rfl, rfl⟩) | ((with_reducible apply T.call); apply rfl; apply rfl; (first | (with_reducible exact c1) | (with_reducible exact c2) | (with_reducible exact c3) | (with_reducible exact c4) | (with_reducible exact c5)); rintro _ _ ⟨rfl, rfl⟩) | ((with_reducible apply T.mv); apply rfl; apply rfl) | ((with_reducible apply T.asn); apply rfl; apply rfl) | ((with_reducible apply T.nilCheck); apply rfl; apply rfl) | ((with_reducible apply T.fieldAddrZ); apply rfl; apply rfl) | ((with_reducible apply T.load); apply rfl; apply rfl; infer_instance; apply rfl; apply rfl) | ((with_reducible apply T.eql); apply rfl; apply rfl; apply rfl) | ((with_reducible apply T.neq); apply rfl; apply rfl; apply rfl) | ((with_reducible apply T.extract); apply rfl; apply rfl; apply rfl) | ((with_reducible apply T.ixC); apply rfl; infer_instance; omega; (first | omega | (simp; omega)); apply rfl) | ((with_reducible apply T.loadNat); apply rfl; infer_instance; (first | omega | (simp; omega)); apply rfl) | ((with_reducible apply T.notB); apply rfl; apply rfl) | ((with_reducible apply T.pickT); apply rfl; apply rfl; apply rfl) | ((with_reducible apply T.pickF); apply rfl; apply rfl; apply rfl) | with_reducible refine Sr.nil ?_ | with_reducible refine S.seq ?_ | with_reducible refine S.reg ?_ | with_reducible refine S.skip ?_ | ((with_reducible apply T.ung); apply rfl) | ((with_reducible apply T.skip); apply rfl; apply rfl; apply rfl) | ((with_reducible apply T.skipU); apply rfl; apply rfl) | ((with_reducible apply S.condT); apply rfl) | ((with_reducible apply S.condF); apply rfl) | ((with_reducible apply T.retW); apply rfl) | (with_reducible apply T.ofRet) | ((with_reducible apply T.gcase); apply rfl; apply rfl; all_goals (intro _; try (exfalso; omega))) | fail)
        refine Sr.frontR oa ?_
        refine Sr.front p ?_
        refine T.call rfl rfl cs ?_
        rintro _ _ ⟨pos', out', E, oa', oc', rfl, rfl, r1, r2, r3⟩
        repeat' (first | with_reducible refine Sr.nil ?_ | ((with_reducible apply T.doneW); apply rfl) | (with_reducible apply T.ofRet) | fail)
        exact ⟨.blk p (rr b bs.length c pos' most oa' out'.length oc' E) 62 :: rw_ oa' oc' out' :: H, by ((repeat (first | dsimp only [List.set_cons_zero] | dsimp only [List.set_cons_succ])); repeat' first | exact PSub.refl _ | exact PSub.nil | ((with_reducible apply PSub.take); (repeat' first | (with_reducible exact pick_hd) | (with_reducible apply pick_tl))) | (with_reducible apply PSub.drop) | ((apply PSub.take); (repeat' first | exact pick_hd | (apply pick_tl)))), pos', out', E, oa', oc', rfl, rfl, r1, r2, r3⟩
      skip
      exact fin rfl (by ((repeat (first | dsimp only [List.set_cons_zero] | dsimp only [List.set_cons_succ])); repeat' first | exact PSub.refl _ | exact PSub.nil | ((with_reducible apply PSub.take); (repeat' first | (with_reducible exact pick_hd) | (with_reducible apply pick_tl))) | (with_reducible apply PSub.drop) | ((apply PSub.take); (repeat' first | exact pick_hd | (apply pick_tl)))))
    skip
    exact fin rfl (by ((repeat (first | dsimp only [List.set_cons_zero] | dsimp only [List.set_cons_succ])); repeat' first | exact PSub.refl _ | exact PSub.nil | ((with_reducible apply PSub.take); (repeat' first | (with_reducible exact pick_hd) | (with_reducible apply pick_tl))) | (with_reducible apply PSub.drop) | ((apply PSub.take); (repeat' first | exact pick_hd | (apply pick_tl)))))
  · rw [hX]
    repeat' (first | ((with_reducible apply T.mv); apply rfl; apply rfl) | ((with_reducible apply T.asn); apply rfl; apply rfl) | ((with_reducible apply T.nilCheck); apply rfl; apply rfl) | ((with_reducible apply T.fieldAddrZ); apply rfl; apply rfl) | ((with_reducible apply T.load); apply rfl; apply rfl; infer_instance; apply rfl; apply rfl) | ((with_reducible apply T.neq); apply rfl; apply rfl; apply rfl) | ((with_reducible apply T.extract); apply rfl; apply rfl; apply rfl) | with_reducible refine Sr.nil ?_ | with_reducible refine S.seq ?_ | with_reducible refine S.reg ?_ | ((with_reducible apply S.condT); apply rfl) | ((with_reducible apply T.retW); apply rfl) | (with_reducible apply T.ofRet) | fail)
    exact ⟨_, by ((repeat (first | dsimp only [List.set_cons_zero] | dsimp only [List.set_cons_succ])); repeat' first | exact PSub.refl _ | exact PSub.nil | ((with_reducible apply PSub.take); (repeat' first | (with_reducible exact pick_hd) | (with_reducible apply pick_tl))) | (with_reducible apply PSub.drop) | ((apply PSub.take); (repeat' first | exact pick_hd | (apply pick_tl)))), a', out, 240, oa, oc, rfl, rfl, h1, hm, rfl⟩
end Go.Proofs.YtjhpbljkpbdnnaaDoor
