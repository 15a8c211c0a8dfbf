/- The walks of the statements' sums of lengths, and of what must unfold. -/
import Derived.Test.YtjhpbljkpbdnnaaDoorInfWc
import Derived.Test.YtjhpbljkpbdnnaaDoorInfSt
namespace Infl
def clean (n : Int) : Nat := if n < 0 ∨ 15 < n then 0 else n.toNat
theorem clean_le (n : Int) : clean n ≤ 15 := by unfold clean; split <;> omega
def lensOf (xs : List Int) (least most : Nat) : List Nat := (xs.take most).map clean ++ List.replicate (least - (xs.take most).length) 0
theorem lensOf_le (xs : List Int) (least most : Nat) : ∀ x ∈ lensOf xs least most, x ≤ 15 := fun x hx => by
  rcases List.mem_append.1 hx with h | h
  · obtain ⟨y, _, rfl⟩ := List.mem_map.1 h
    exact clean_le y
  · have := (List.mem_replicate.1 h).2
    omega
theorem lensOf_len (xs : List Int) {least most : Nat} (h : least ≤ most) : least ≤ (lensOf xs least most).length ∧ (lensOf xs least most).length ≤ most := by
  unfold lensOf
  simp only [List.length_append, List.length_map, List.length_replicate, List.length_take]
  omega
theorem sum_take {ls : List Nat} {i : Nat} (h : i < ls.length) : (ls.take (i + 1)).sum = (ls.take i).sum + ls.getD i 0 := by rw [take_snoc (d := 0) h]; simp
theorem sum_le15 : ∀ {ls : List Nat}, (∀ x ∈ ls, x ≤ 15) → ls.sum ≤ 15 * ls.length
  | [], _ => by simp
  | x :: r, h => by
    have h1 := sum_le15 (ls := r) (fun y hy => h y (List.mem_cons_of_mem _ hy))
    have h2 := h x (List.mem_cons_self ..)
    simp only [List.sum_cons, List.length_cons]
    omega
theorem kraft_take {ls : List Nat} {i : Nat} (h : i < ls.length) : kraft (ls.take (i + 1)) = kraft (ls.take i) + kraftT (ls.getD i 0) := by rw [take_snoc (d := 0) h, kraft_snoc]
end Infl
namespace Go.Proofs.YtjhpbljkpbdnnaaDoor
open Sg Go.IntWalk Infl
set_option maxRecDepth 100000
set_option maxHeartbeats 1000000
theorem full_spec {F : World} {M : List Nat} {H : List Res} {lc : Nat} {la : Option Addr} {ls : List Nat} [hL : Rd F M H la (ls.map nV)] (hlen : ls.length ≤ 100000) (h15 : ∀ x ∈ ls, x ≤ 15) :
    Meets Tryd.prog 25 [.slice la ls.length lc] F M H (fun e H' => e = .returned (.bool (decide (kraft ls = 32768))) ∧ H' = H) := by
  refine Meets.enter Tryd.func25 rfl rfl ?_
  repeat' (first | ((with_reducible apply T.asn); apply rfl; apply rfl) | with_reducible refine Sr.nil ?_ | with_reducible refine S.seq ?_ | with_reducible refine S.block ?_ | with_reducible refine S.reg ?_ | fail)
  refine S.loopE 0 [0] (fun R b' μ H' e => ∃ i : Nat, H' = R ∧ e = (3, .int .i64 (kraft (ls.take i) : Nat)) :: (4, .int .i64 i) :: b' ∧ i ≤ ls.length ∧ μ = ls.length - i) rfl rfl ?_ _ _ ⟨0, rfl, rfl, by omega, rfl⟩ (by repeat' first | exact trivial | refine And.intro rfl ?_)
  rintro _ _ _ ⟨i, rfl, rfl, hi, rfl⟩ ih
  have hk := kraft_le (ls.take i)
  rw [List.length_take] at hk
  by_cases h1 : i < ls.length
  · have hst := kraft_take h1
    have hx : ls.getD i 0 ≤ 15 := by
      rw [List.getD_eq_getElem?_getD, List.getElem?_eq_getElem h1]
      exact h15 _ (List.getElem_mem _)
    have hkt := kraftT_le (ls.getD i 0)
    unfold kraftT at hst hkt
    have e1 : (15 : Int) - ((ls.getD i 0 : Nat) : Int) = ((15 - ls.getD i 0 : Nat) : Int) := by omega
    have hp : 0 < ls.getD i 0 → 1 * 2 ^ (15 - ls.getD i 0) ≤ 16384 := fun h => by rw [if_pos h] at hkt; omega
    repeat' (first | ((with_reducible apply T.subI (m := 15)); apply rfl; apply rfl; omega; apply rfl; rw [e1]) | ((with_reducible apply T.shlI64 (m := 1)); apply rfl; apply rfl; (have := hp (by omega); omega); omega; apply rfl) | ((with_reducible apply T.mv); apply rfl; apply rfl) | ((with_reducible apply T.asn); apply rfl; apply rfl) | ((with_reducible apply T.len); apply rfl; apply rfl) | ((with_reducible apply T.lss); apply rfl; apply rfl; apply rfl) | ((with_reducible apply T.gtr); apply rfl; apply rfl; apply rfl) | ((with_reducible apply T.addI); apply rfl; apply rfl; omega; apply rfl) | ((with_reducible apply T.ixN); apply rfl; apply rfl; infer_instance; omega; (first | omega | (simp only [List.length_map]; omega) | (simp; omega)); apply rfl) | ((with_reducible apply T.loadNat); apply rfl; infer_instance; (first | omega | (simp only [List.length_map]; omega) | (simp; omega)); apply rfl) | ((with_reducible apply T.convU64); apply rfl; omega; apply rfl) | with_reducible refine Sr.nil ?_ | with_reducible refine S.seq ?_ | with_reducible refine S.block ?_ | with_reducible refine S.reg ?_ | with_reducible refine S.skip ?_ | with_reducible refine S.inBlock ?_ | ((with_reducible apply S.condQ); apply rfl; all_goals (intro _; try (exfalso; omega))) | fail)
    · rw [if_pos (by omega)] at hst
      have e2 : ((kraft (ls.take i) : Nat) : Int) + ((1 * 2 ^ (15 - ls.getD i 0) : Nat) : Int) = ((kraft (ls.take (i + 1)) : Nat) : Int) := by omega
      rw [e2]
      exact ih _ _ _ _ ⟨i + 1, rfl, rfl, by omega, rfl⟩ (by omega) (by repeat' first | exact trivial | refine And.intro rfl ?_)
    · rw [if_neg (by omega)] at hst
      have e3 : kraft (ls.take i) = kraft (ls.take (i + 1)) := by omega
      rw [e3]
      exact ih _ _ _ _ ⟨i + 1, rfl, rfl, by omega, rfl⟩ (by omega) (by repeat' first | exact trivial | refine And.intro rfl ?_)
  · have hie : i = ls.length := by omega
    subst hie
    rw [List.take_length]
    repeat' (first | ((with_reducible apply T.mv); apply rfl; apply rfl) | ((with_reducible apply T.asn); apply rfl; apply rfl) | ((with_reducible apply T.len); apply rfl; apply rfl) | ((with_reducible apply T.lss); apply rfl; apply rfl; apply rfl) | ((with_reducible apply T.eql); apply rfl; apply rfl; apply rfl) | with_reducible refine Sr.nil ?_ | with_reducible refine S.seq ?_ | with_reducible refine S.reg ?_ | ((with_reducible apply S.exit); apply rfl) | ((with_reducible apply T.retW); apply rfl) | ((with_reducible apply S.condQ); apply rfl; all_goals (intro _; try (exfalso; omega))) | fail)
    refine ⟨_, PSub.refl _, ?_, rfl⟩
    congr 2
    exact decide_eq_decide.2 (by omega)
theorem single_spec {F : World} {M : List Nat} {H : List Res} {lc : Nat} {la : Option Addr} {ls : List Nat} [hL : Rd F M H la (ls.map nV)] (hlen : ls.length ≤ 100000) (h15 : ∀ x ∈ ls, x ≤ 15) :
    Meets Tryd.prog 26 [.slice la ls.length lc] F M H (fun e H' => e = .returned (.bool (decide (ls.sum = 1))) ∧ H' = H) := by
  refine Meets.enter Tryd.func26 rfl rfl ?_
  repeat' (first | ((with_reducible apply T.asn); apply rfl; apply rfl) | with_reducible refine Sr.nil ?_ | with_reducible refine S.seq ?_ | with_reducible refine S.block ?_ | with_reducible refine S.reg ?_ | fail)
  refine S.loopE 0 [0] (fun R b' μ H' e => ∃ i : Nat, H' = R ∧ e = (3, .int .i64 ((ls.take i).sum : Nat)) :: (4, .int .i64 i) :: b' ∧ i ≤ ls.length ∧ μ = ls.length - i) rfl rfl ?_ _ _ ⟨0, rfl, rfl, by omega, rfl⟩ (by repeat' first | exact trivial | refine And.intro rfl ?_)
  rintro _ _ _ ⟨i, rfl, rfl, hi, rfl⟩ ih
  have hk := sum_le15 (ls := ls.take i) (fun x hx => h15 x (List.mem_of_mem_take hx))
  rw [List.length_take] at hk
  by_cases h1 : i < ls.length
  · have hst := sum_take h1
    have hx : ls.getD i 0 ≤ 15 := by
      rw [List.getD_eq_getElem?_getD, List.getElem?_eq_getElem h1]
      exact h15 _ (List.getElem_mem _)
    have e2 : (((ls.take i).sum : Nat) : Int) + ((ls.getD i 0 : Nat) : Int) = (((ls.take (i + 1)).sum : Nat) : Int) := by omega
    repeat' (first | ((with_reducible apply T.addI (m := (((ls.take i).sum : Nat) : Int))); apply rfl; apply rfl; omega; apply rfl; rw [e2]) | ((with_reducible apply T.mv); apply rfl; apply rfl) | ((with_reducible apply T.asn); apply rfl; apply rfl) | ((with_reducible apply T.len); apply rfl; apply rfl) | ((with_reducible apply T.lss); apply rfl; apply rfl; apply rfl) | ((with_reducible apply T.addI); apply rfl; apply rfl; omega; apply rfl) | ((with_reducible apply T.ixN); apply rfl; apply rfl; infer_instance; omega; (first | omega | (simp only [List.length_map]; omega) | (simp; omega)); apply rfl) | ((with_reducible apply T.loadNat); apply rfl; infer_instance; (first | omega | (simp only [List.length_map]; omega) | (simp; omega)); apply rfl) | with_reducible refine Sr.nil ?_ | with_reducible refine S.seq ?_ | with_reducible refine S.block ?_ | with_reducible refine S.reg ?_ | with_reducible refine S.skip ?_ | with_reducible refine S.inBlock ?_ | ((with_reducible apply S.condQ); apply rfl; all_goals (intro _; try (exfalso; omega))) | fail)
    exact ih _ _ _ _ ⟨i + 1, rfl, rfl, by omega, rfl⟩ (by omega) (by repeat' first | exact trivial | refine And.intro rfl ?_)
  · have hie : i = ls.length := by omega
    subst hie
    rw [List.take_length]
    repeat' (first | ((with_reducible apply T.mv); apply rfl; apply rfl) | ((with_reducible apply T.asn); apply rfl; apply rfl) | ((with_reducible apply T.len); apply rfl; apply rfl) | ((with_reducible apply T.lss); apply rfl; apply rfl; apply rfl) | ((with_reducible apply T.eql); apply rfl; apply rfl; apply rfl) | with_reducible refine Sr.nil ?_ | with_reducible refine S.seq ?_ | with_reducible refine S.reg ?_ | ((with_reducible apply S.exit); apply rfl) | ((with_reducible apply T.retW); apply rfl) | ((with_reducible apply S.condQ); apply rfl; all_goals (intro _; try (exfalso; omega))) | fail)
    refine ⟨_, PSub.refl _, ?_, rfl⟩
    congr 2
    exact decide_eq_decide.2 (by omega)
theorem bare_spec {F : World} {M : List Nat} {H : List Res} {lc : Nat} {la : Option Addr} {ls : List Nat} [hL : Rd F M H la (ls.map nV)] (hlen : ls.length ≤ 100000) (h15 : ∀ x ∈ ls, x ≤ 15) :
    Meets Tryd.prog 27 [.slice la ls.length lc] F M H (fun e H' => e = .returned (.bool (decide (ls.sum = 0))) ∧ H' = H) := by
  refine Meets.enter Tryd.func27 rfl rfl ?_
  repeat' (first | ((with_reducible apply T.asn); apply rfl; apply rfl) | with_reducible refine Sr.nil ?_ | with_reducible refine S.seq ?_ | with_reducible refine S.block ?_ | with_reducible refine S.reg ?_ | fail)
  refine S.loopE 0 [0] (fun R b' μ H' e => ∃ i : Nat, H' = R ∧ e = (3, .int .i64 ((ls.take i).sum : Nat)) :: (4, .int .i64 i) :: b' ∧ i ≤ ls.length ∧ μ = ls.length - i) rfl rfl ?_ _ _ ⟨0, rfl, rfl, by omega, rfl⟩ (by repeat' first | exact trivial | refine And.intro rfl ?_)
  rintro _ _ _ ⟨i, rfl, rfl, hi, rfl⟩ ih
  have hk := sum_le15 (ls := ls.take i) (fun x hx => h15 x (List.mem_of_mem_take hx))
  rw [List.length_take] at hk
  by_cases h1 : i < ls.length
  · have hst := sum_take h1
    have hx : ls.getD i 0 ≤ 15 := by
      rw [List.getD_eq_getElem?_getD, List.getElem?_eq_getElem h1]
      exact h15 _ (List.getElem_mem _)
    have e2 : (((ls.take i).sum : Nat) : Int) + ((ls.getD i 0 : Nat) : Int) = (((ls.take (i + 1)).sum : Nat) : Int) := by omega
    repeat' (first | ((with_reducible apply T.addI (m := (((ls.take i).sum : Nat) : Int))); apply rfl; apply rfl; omega; apply rfl; rw [e2]) | ((with_reducible apply T.mv); apply rfl; apply rfl) | ((with_reducible apply T.asn); apply rfl; apply rfl) | ((with_reducible apply T.len); apply rfl; apply rfl) | ((with_reducible apply T.lss); apply rfl; apply rfl; apply rfl) | ((with_reducible apply T.addI); apply rfl; apply rfl; omega; apply rfl) | ((with_reducible apply T.ixN); apply rfl; apply rfl; infer_instance; omega; (first | omega | (simp only [List.length_map]; omega) | (simp; omega)); apply rfl) | ((with_reducible apply T.loadNat); apply rfl; infer_instance; (first | omega | (simp only [List.length_map]; omega) | (simp; omega)); apply rfl) | with_reducible refine Sr.nil ?_ | with_reducible refine S.seq ?_ | with_reducible refine S.block ?_ | with_reducible refine S.reg ?_ | with_reducible refine S.skip ?_ | with_reducible refine S.inBlock ?_ | ((with_reducible apply S.condQ); apply rfl; all_goals (intro _; try (exfalso; omega))) | fail)
    exact ih _ _ _ _ ⟨i + 1, rfl, rfl, by omega, rfl⟩ (by omega) (by repeat' first | exact trivial | refine And.intro rfl ?_)
  · have hie : i = ls.length := by omega
    subst hie
    rw [List.take_length]
    repeat' (first | ((with_reducible apply T.mv); apply rfl; apply rfl) | ((with_reducible apply T.asn); apply rfl; apply rfl) | ((with_reducible apply T.len); apply rfl; apply rfl) | ((with_reducible apply T.lss); apply rfl; apply rfl; apply rfl) | ((with_reducible apply T.eql); apply rfl; apply rfl; apply rfl) | with_reducible refine Sr.nil ?_ | with_reducible refine S.seq ?_ | with_reducible refine S.reg ?_ | ((with_reducible apply S.exit); apply rfl) | ((with_reducible apply T.retW); apply rfl) | ((with_reducible apply S.condQ); apply rfl; all_goals (intro _; try (exfalso; omega))) | fail)
    refine ⟨_, PSub.refl _, ?_, rfl⟩
    congr 2
    exact decide_eq_decide.2 (by omega)
theorem unfolds_spec {F : World} {M : List Nat} {H : List Res} {bc wc : Nat} {ba wa : Option Addr} {bs want : List UInt8} [hR : Rd F M H ba (bs.map bV)] [hW : Rd F M H wa (want.map bV)] [hg : ∀ H, Rd F M H (some ⟨0, 0, none⟩) (ordL.map nV)] (hb : bs.length ≤ 1000000000000000) (hwl : want.length ≤ 1000000000000000) (hI : infl bs 1048576 = (want, bs.length, 0)) :
    Meets Tryd.prog 22 [.slice ba bs.length bc, .slice wa want.length wc] F M H (fun e H' => e = .returned (.bool true) ∧ H' = H) := by
  refine Meets.enter Tryd.func22 rfl rfl ?_
  repeat' (first | ((with_reducible apply T.mv); apply rfl; apply rfl) | ((with_reducible apply T.asn); apply rfl; apply rfl) | with_reducible refine Sr.nil ?_ | with_reducible refine S.seq ?_ | with_reducible refine S.reg ?_ | fail)
  refine T.call rfl rfl (inflate_spec (bs := bs) (most := 1048576) hb) ?_
  rintro _ _ ⟨xa, xc, rfl, rfl⟩
  rw [show mostN 1048576 = 1048576 from rfl, hI]
  dsimp only
  repeat' (first | ((with_reducible apply T.mv); apply rfl; apply rfl) | ((with_reducible apply T.asn); apply rfl; apply rfl) | ((with_reducible apply T.len); apply rfl; apply rfl) | ((with_reducible apply T.eql); apply rfl; apply rfl; apply rfl) | ((with_reducible apply T.extract); apply rfl; apply rfl; apply rfl) | ((with_reducible apply T.pickT); apply rfl; apply rfl; apply rfl) | with_reducible refine Sr.nil ?_ | with_reducible refine S.seq ?_ | with_reducible refine S.reg ?_ | ((with_reducible apply T.ung); apply rfl) | (with_reducible apply T.ofRet) | ((with_reducible apply T.gcase); apply rfl; apply rfl; all_goals (intro _; try (exfalso; omega))) | fail)
  refine T.call rfl rfl (same_eq (xs := want) inferInstance inferInstance hwl) ?_
  rintro _ _ ⟨rfl, rfl⟩
  repeat' (first | ((with_reducible apply T.asn); apply rfl; apply rfl) | ((with_reducible apply T.pickT); apply rfl; apply rfl; apply rfl) | with_reducible refine Sr.nil ?_ | ((with_reducible apply T.retW); apply rfl) | (with_reducible apply T.ofRet) | fail)
  exact ⟨H, by ((repeat (first | dsimp only [List.set_cons_zero] | dsimp only [List.set_cons_succ])); repeat' first | exact PSub.refl _ | exact PSub.nil | ((with_reducible apply PSub.take); (repeat' first | (with_reducible exact pick_hd) | (with_reducible apply pick_tl))) | (with_reducible apply PSub.drop) | ((apply PSub.take); (repeat' first | exact pick_hd | (apply pick_tl)))), rfl, rfl⟩
theorem lengthsOf_spec {F : World} {M : List Nat} {H : List Res} {lc least most : Nat} {la : Option Addr} {xs : List Int} [hL : Rd F M H la (xs.map iV)] (hlen : xs.length ≤ 10000000) (hlm : least ≤ most) (hmost : most ≤ 1000) :
    Meets Tryd.prog 23 [.slice la xs.length lc, .int .i64 least, .int .i64 most] F M H (fun e H' => ∃ oa oc, e = .returned (.slice oa (lensOf xs least most).length oc) ∧ H' = .row oa oc 3 1 (lensOf xs least most).length ((lensOf xs least most).map nV) :: H) := by
  refine Meets.enter Tryd.func23 rfl rfl ?_
  refine S.nilrow 3 1 ?_
  repeat' (first | ((with_reducible apply T.asn); apply rfl; apply rfl) | with_reducible refine Sr.nil ?_ | with_reducible refine S.seq ?_ | with_reducible refine S.block ?_ | with_reducible refine S.reg ?_ | fail)
  refine S.loopE 1 [0, 1, 2] (fun R b' μ H' e => ∃ (i : Nat) (oa : Option Addr) (oc : Nat), H' = .row oa oc 3 1 ((xs.take i).map clean).length (((xs.take i).map clean).map nV) :: R ∧ e = (7, .slice oa ((xs.take i).map clean).length oc) :: (8, .int .i64 i) :: b' ∧ (i ≤ xs.length ∧ i ≤ most) ∧ μ = xs.length - i) rfl rfl ?_ _ _ ⟨0, none, 0, rfl, rfl, ⟨by omega, by omega⟩, rfl⟩ (by repeat' first | exact trivial | refine And.intro rfl ?_)
  rintro _ _ _ ⟨i, oa, oc, rfl, rfl, ⟨h1, h2⟩, rfl⟩ ih
  have htl : ((xs.take i).map clean).length = i := by simp; omega
  rw [htl]
  by_cases h3 : i < xs.length ∧ i < most
  · have hsn : (xs.take (i + 1)).map clean = (xs.take i).map clean ++ [clean (xs.getD i 0)] := by rw [take_snoc (d := 0) h3.1, List.map_append]; rfl
    have htl2 : i + 1 = ((xs.take (i + 1)).map clean).length := by simp; omega
    have c0 : (xs.getD i 0 < 0 ∨ 15 < xs.getD i 0) → ((xs.take i).map clean).map nV ++ [Value.int .i64 0] = ((xs.take (i + 1)).map clean).map nV := fun h => by
      rw [hsn, List.map_append, show clean (xs.getD i 0) = 0 from if_pos h]
      rfl
    have c1 : ¬ (xs.getD i 0 < 0 ∨ 15 < xs.getD i 0) → ((xs.take i).map clean).map nV ++ [Value.int .i64 (xs.getD i 0)] = ((xs.take (i + 1)).map clean).map nV := fun h => by
      rw [hsn, List.map_append, show clean (xs.getD i 0) = (xs.getD i 0).toNat from if_neg h]
      generalize xs.getD i 0 = x at h
      simp only [List.map_cons, List.map_nil, nV, Int.toNat_of_nonneg (show 0 ≤ x by omega)]
    repeat' (first | ((with_reducible apply T.mv); apply rfl; apply rfl) | ((with_reducible apply T.asn); apply rfl; apply rfl) | ((with_reducible apply T.len); apply rfl; apply rfl) | ((with_reducible apply T.lss); apply rfl; apply rfl; apply rfl) | ((with_reducible apply T.gtr); apply rfl; apply rfl; apply rfl) | ((with_reducible apply T.addI); apply rfl; apply rfl; omega; apply rfl) | ((with_reducible apply T.ixN); apply rfl; apply rfl; infer_instance; omega; (first | omega | (simp only [List.length_map]; omega) | (simp; omega)); apply rfl) | ((with_reducible apply T.loadI); apply rfl; infer_instance; omega; apply rfl) | ((with_reducible apply T.pickT); apply rfl; apply rfl; apply rfl) | ((with_reducible apply T.pickF); apply rfl; apply rfl; apply rfl) | ((with_reducible apply T.bs); apply rfl; apply rfl; apply rfl; apply rfl; apply rfl; apply rfl; intro nb) | ((with_reducible apply T.append); apply rfl; apply rfl; infer_instance; (first | rfl | (simp; done)); (first | rfl | (simp; done)); apply rfl; apply rfl; (constructor <;> omega); apply rfl; intro na nc) | with_reducible refine Sr.nil ?_ | with_reducible refine S.seq ?_ | with_reducible refine S.block ?_ | with_reducible refine S.reg ?_ | with_reducible refine S.skip ?_ | with_reducible refine S.inBlock ?_ | ((with_reducible apply T.ung); apply rfl) | ((with_reducible apply T.skip); apply rfl; apply rfl; apply rfl) | ((with_reducible apply S.condT); apply rfl) | ((with_reducible apply S.condQ); apply rfl; all_goals (intro _; try (exfalso; omega))) | ((with_reducible apply T.gcase); apply rfl; apply rfl; all_goals (intro _; try (exfalso; omega))) | fail)
    all_goals
      rw [htl2]
      first
        | rw [c0 (by omega)]
        | rw [c1 (by omega)]
      exact ih _ _ _ _ ⟨i + 1, _, _, rfl, rfl, ⟨by omega, by omega⟩, rfl⟩ (by omega) (by repeat' first | exact trivial | refine And.intro rfl ?_)
  · clear ih
    have htk : xs.take i = xs.take most := by
      by_cases h4 : i < xs.length
      · rw [show i = most by omega]
      · rw [List.take_of_length_le (by omega), List.take_of_length_le (by omega)]
    rw [htk] at htl ⊢
    have hml : (xs.take most).length = i := by simpa using htl
    have hlf : ∀ k, k ≤ least - i → ((xs.take most).map clean ++ List.replicate k 0).length = i + k := fun k hk => by simp; omega
    have hfinal : (xs.take most).map clean ++ List.replicate (least - i) 0 = lensOf xs least most := by rw [lensOf, hml]
    repeat' (first | ((with_reducible apply T.mv); apply rfl; apply rfl) | ((with_reducible apply T.len); apply rfl; apply rfl) | ((with_reducible apply T.lss); apply rfl; apply rfl; apply rfl) | ((with_reducible apply T.pickT); apply rfl; apply rfl; apply rfl) | ((with_reducible apply T.pickF); apply rfl; apply rfl; apply rfl) | with_reducible refine Sr.nil ?_ | with_reducible refine S.seq ?_ | with_reducible refine S.block ?_ | with_reducible refine S.reg ?_ | ((with_reducible apply S.exit); apply rfl) | ((with_reducible apply T.ung); apply rfl) | ((with_reducible apply T.skip); apply rfl; apply rfl; apply rfl) | ((with_reducible apply S.condF); apply rfl) | ((with_reducible apply S.condQ); apply rfl; all_goals (intro _; try (exfalso; omega))) | ((with_reducible apply T.gcase); apply rfl; apply rfl; all_goals (intro _; try (exfalso; omega))) | fail)
    all_goals
      refine S.loopE 1 [1] (fun R b' μ H' e => ∃ (k : Nat) (oa : Option Addr) (oc : Nat), H' = .row oa oc 3 1 (i + k) (((xs.take most).map clean ++ List.replicate k 0).map nV) :: R ∧ e = (7, .slice oa (i + k) oc) :: b' ∧ (k ≤ least - i) ∧ μ = least - i - k) rfl rfl ?_ _ _ ⟨0, oa, oc, by rw [List.replicate_zero, List.append_nil]; rfl, rfl, by omega, rfl⟩ (by repeat' first | exact trivial | refine And.intro rfl ?_)
      rintro _ _ _ ⟨k, oa, oc, rfl, rfl, hk, rfl⟩ ih
      repeat' (first | ((with_reducible apply T.mv); apply rfl; apply rfl) | ((with_reducible apply T.asn); apply rfl; apply rfl) | ((with_reducible apply T.len); apply rfl; apply rfl) | ((with_reducible apply T.lss); apply rfl; apply rfl; apply rfl) | ((with_reducible apply T.bs); apply rfl; apply rfl; apply rfl; apply rfl; apply rfl; apply rfl; intro nb) | ((with_reducible apply T.append); apply rfl; apply rfl; infer_instance; (first | rfl | (simp; done)); (first | rfl | (simp; done)); apply rfl; apply rfl; (constructor <;> omega); apply rfl; intro na nc) | with_reducible refine Sr.nil ?_ | with_reducible refine S.seq ?_ | with_reducible refine S.block ?_ | with_reducible refine S.reg ?_ | with_reducible refine S.skip ?_ | with_reducible refine S.inBlock ?_ | ((with_reducible apply S.exit); apply rfl) | ((with_reducible apply T.retW); apply rfl) | ((with_reducible apply S.condQ); apply rfl; all_goals (intro _; try (exfalso; omega))) | fail)
      all_goals first
        | (have e1 : List.map nV ((xs.take most).map clean ++ List.replicate k 0) ++ [Value.int .i64 0] = ((xs.take most).map clean ++ List.replicate (k + 1) 0).map nV := by
            rw [List.replicate_succ', ← List.append_assoc, List.map_append (l₂ := [0])]
            rfl
           rw [e1, Nat.add_assoc]
           exact ih _ _ _ _ ⟨k + 1, _, _, rfl, rfl, by omega, rfl⟩ (by omega) (by repeat' first | exact trivial | refine And.intro rfl ?_))
        | (have hke : k = least - i := by omega
           subst hke
           have e2 := hlf _ (Nat.le_refl _)
           rw [← e2, hfinal]
           exact ⟨_, PSub.refl _, oa, oc, rfl, rfl⟩)
end Go.Proofs.YtjhpbljkpbdnnaaDoor
