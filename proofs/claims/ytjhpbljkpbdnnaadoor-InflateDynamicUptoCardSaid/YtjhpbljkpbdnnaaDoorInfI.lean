/- The walks of the program's blocks of symbols. -/
import Derived.Test.YtjhpbljkpbdnnaaDoorInfH
import Derived.Test.YtjhpbljkpbdnnaaDoorInfR
namespace Go.Proofs.YtjhpbljkpbdnnaaDoor
open Sg Go.IntWalk Infl
set_option maxRecDepth 100000
theorem symbols_spec {F : World} {M : List Nat} {H : List Res} {p c oc sc tc : Nat} {b oa sa ta : Option Addr} {most : Nat} {bs out : List UInt8} {ll dl : List Nat} [Rd F M H b (bs.map bV)] [Rd F M H sa ((code ll).2.map nV)] [Rd F M H ta ((code dl).2.map nV)] {pos : Nat} (hp : pos ≤ 8 * bs.length) (hb : bs.length ≤ 1000000000000000) (hm : out.length ≤ most) (hmx : most ≤ 1048576)
    (hll : 0 < ll.length ∧ ll.length ≤ 100000) (hdl : 0 < dl.length ∧ dl.length ≤ 100000) :
    Meets Tryd.prog 51 [.pointer (some ⟨p, 0, none⟩), .agg ⟨cd ll sa sc⟩, .agg ⟨cd dl ta tc⟩] F M (.blk p (rd b bs c pos most oa out.length oc) 59 :: rw_ oa oc out :: H) (Left p b bs c most H (.tuple #[]) (syms bs ll dl most pos out)) := by
  refine Meets.enter Tryd.func51 rfl rfl ?_
  repeat' (first | ((with_reducible apply T.box); apply rfl; apply rfl; intro nb) | with_reducible refine Sr.nil ?_ | with_reducible refine S.seq ?_ | with_reducible refine S.block ?_ | with_reducible refine S.reg ?_ | fail)
  rename_i b4
  revert nb
  intro b5
  refine S.frontR oa ?_
  refine S.front p ?_
  refine S.loop (fun μ H' e => ∃ (f pos' : Nat) (out' : List UInt8) (oa : Option Addr) (oc : Nat), H' = .blk p (rd b bs c pos' most oa out'.length oc) 59 :: rw_ oa oc out' :: .blk b5 (cd dl ta tc) 76 :: .blk b4 (cd ll sa sc) 76 :: H ∧
    e = [(0, .pointer (some ⟨p, 0, none⟩)), (4, .pointer (some ⟨b4, 0, none⟩)), (5, .pointer (some ⟨b5, 0, none⟩))] ∧ (pos' ≤ 8 * bs.length ∧ out'.length ≤ most ∧ 8 * bs.length < f + pos' ∧ symsL bs ll dl most f pos' out' = syms bs ll dl most pos out) ∧ μ = f) ?_ _ _ ⟨8 * bs.length + 1, pos, out, oa, oc, rfl, rfl, ⟨hp, hm, by omega, rfl⟩, rfl⟩ ⟨rfl, rfl, rfl, trivial⟩
  rintro f _ _ ⟨_, pos', out', oa, oc, rfl, rfl, ⟨h1, h2, h3, h4⟩, rfl⟩ ih
  cases f with
  | zero => exfalso; omega
  | succ f =>
  rw [symsL] at h4
  repeat' (first | ((with_reducible apply T.mv); apply rfl; apply rfl) | with_reducible refine S.seq ?_ | with_reducible refine S.block ?_ | with_reducible refine S.reg ?_ | fail)
  refine T.call rfl rfl (symbol_spec (code_fits hll.2) rfl h1 hb) ?_
  cases hsy : sym (code ll).1 (code ll).2 bs pos' with
  | none =>
    rw [hsy] at h4
    dsimp only at h4
    rintro _ _ ⟨rfl, vs, rfl⟩
    repeat' (first | (with_reducible apply T.diesW) | (with_reducible apply T.ofPan) | fail)
    rw [← h4]
    exact ⟨H, by ((repeat (first | dsimp only [List.set_cons_zero] | dsimp only [List.set_cons_succ])); repeat' first | exact PSub.refl _ | exact PSub.nil | ((with_reducible apply PSub.take); (repeat' first | (with_reducible exact pick_hd) | (with_reducible apply pick_tl))) | (with_reducible apply PSub.drop) | ((apply PSub.take); (repeat' first | exact pick_hd | (apply pick_tl)))), rfl, rfl⟩
  | some r =>
    obtain ⟨s, pos''⟩ := r
    rw [hsy] at h4
    dsimp only at h4
    rintro _ _ ⟨rfl, rfl, hp''⟩
    have hs' := code_sym_lt hll.1 hsy
    by_cases h256 : s < 256
    · rw [if_pos h256] at h4
      have e1 : (s : Int) = ((UInt8.ofNat s).toNat : Int) := by simp; omega
      repeat' (first | ((with_reducible apply T.convU8); apply rfl; omega; apply rfl; rw [e1]) | ((with_reducible apply T.mv); apply rfl; apply rfl) | ((with_reducible apply T.asn); apply rfl; apply rfl) | ((with_reducible apply T.lss); apply rfl; apply rfl; apply rfl) | with_reducible refine Sr.nil ?_ | with_reducible refine S.seq ?_ | with_reducible refine S.block ?_ | with_reducible refine S.reg ?_ | (with_reducible apply T.ofRet) | ((with_reducible apply S.condQ); apply rfl; all_goals (intro _; try (exfalso; omega))) | fail)
      refine T.call rfl rfl (put_at (UInt8.ofNat s) h2 hmx) ?_
      cases hput : put most out' (UInt8.ofNat s) with
      | error k =>
        rw [hput] at h4
        rintro _ H' ⟨rfl, hs⟩
        repeat' (first | (with_reducible apply T.diesW) | (with_reducible apply T.ofPan) | fail)
        rw [← h4]
        exact ⟨H, PSub.trans (by ((repeat (first | dsimp only [List.set_cons_zero] | dsimp only [List.set_cons_succ])); repeat' first | exact PSub.refl _ | exact PSub.nil | ((with_reducible apply PSub.take); (repeat' first | (with_reducible exact pick_hd) | (with_reducible apply pick_tl))) | (with_reducible apply PSub.drop) | ((apply PSub.take); (repeat' first | exact pick_hd | (apply pick_tl))))) hs, rfl, rfl⟩
      | ok out'' =>
        rw [hput] at h4
        rintro _ _ ⟨oa, oc, rfl, rfl⟩
        repeat' (first | with_reducible refine Sr.nil ?_ | with_reducible refine S.inBlock ?_ | (with_reducible apply T.ofRet) | fail)
        exact ih _ _ _ _ ⟨f, pos'', out'', oa, oc, rfl, rfl, ⟨hp'', put_len hput h2, by omega, h4⟩, rfl⟩ (by omega) (by exact ⟨rfl, rfl, rfl, trivial⟩)
    · rw [if_neg h256] at h4
      by_cases he : s = 256
      · rw [if_pos he] at h4
        repeat' (first | ((with_reducible apply T.mv); apply rfl; apply rfl) | ((with_reducible apply T.asn); apply rfl; apply rfl) | ((with_reducible apply T.lss); apply rfl; apply rfl; apply rfl) | ((with_reducible apply T.eql); apply rfl; apply rfl; apply rfl) | with_reducible refine Sr.nil ?_ | with_reducible refine S.seq ?_ | with_reducible refine S.block ?_ | with_reducible refine S.reg ?_ | ((with_reducible apply T.retW); apply rfl) | (with_reducible apply T.ofRet) | ((with_reducible apply S.condQ); apply rfl; all_goals (intro _; try (exfalso; omega))) | fail)
        rw [← h4]
        exact ⟨.blk p (rd b bs c pos'' most oa out'.length oc) 59 :: rw_ oa oc out' :: H, by ((repeat (first | dsimp only [List.set_cons_zero] | dsimp only [List.set_cons_succ])); repeat' first | exact PSub.refl _ | exact PSub.nil | ((with_reducible apply PSub.take); (repeat' first | (with_reducible exact pick_hd) | (with_reducible apply pick_tl))) | (with_reducible apply PSub.drop) | ((apply PSub.take); (repeat' first | exact pick_hd | (apply pick_tl)))), oa, oc, rfl, rfl, hp'', h2⟩
      · rw [if_neg he] at h4
        repeat' (first | ((with_reducible apply T.mv); apply rfl; apply rfl) | ((with_reducible apply T.asn); apply rfl; apply rfl) | ((with_reducible apply T.lss); apply rfl; apply rfl; apply rfl) | ((with_reducible apply T.eql); apply rfl; apply rfl; apply rfl) | with_reducible refine Sr.nil ?_ | with_reducible refine S.seq ?_ | with_reducible refine S.block ?_ | with_reducible refine S.reg ?_ | (with_reducible apply T.ofRet) | ((with_reducible apply S.condQ); apply rfl; all_goals (intro _; try (exfalso; omega))) | fail)
        refine T.call rfl rfl (copied_spec hp'' hb h2 hmx (by omega) hdl) ?_
        cases hc : copied bs dl most s pos'' out' with
        | error k =>
          rw [hc] at h4
          rintro _ _ ⟨rfl, rfl⟩
          repeat' (first | (with_reducible apply T.diesW) | (with_reducible apply T.ofPan) | fail)
          rw [← h4]
          exact ⟨H, by ((repeat (first | dsimp only [List.set_cons_zero] | dsimp only [List.set_cons_succ])); repeat' first | exact PSub.refl _ | exact PSub.nil | ((with_reducible apply PSub.take); (repeat' first | (with_reducible exact pick_hd) | (with_reducible apply pick_tl))) | (with_reducible apply PSub.drop) | ((apply PSub.take); (repeat' first | exact pick_hd | (apply pick_tl)))), rfl, rfl⟩
        | ok r =>
          obtain ⟨pos3, out3⟩ := r
          rw [hc] at h4
          have hle := copied_le hc
          rintro _ _ ⟨oa, oc, rfl, rfl, hp3, hm3⟩
          repeat' (first | with_reducible refine Sr.nil ?_ | with_reducible refine S.inBlock ?_ | (with_reducible apply T.ofRet) | fail)
          exact ih _ _ _ _ ⟨f, pos3, out3, oa, oc, rfl, rfl, ⟨hp3, hm3, by omega, h4⟩, rfl⟩ (by omega) (by exact ⟨rfl, rfl, rfl, trivial⟩)
end Go.Proofs.YtjhpbljkpbdnnaaDoor
