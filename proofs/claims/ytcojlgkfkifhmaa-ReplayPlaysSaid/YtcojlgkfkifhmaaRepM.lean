/- The walk of the statement ReplayBack. -/
import Derived.Test.YtcojlgkfkifhmaaRepJ
/- maps -/
namespace Go.Proofs.Ytcojlgkfkifhmaa
open Sg Go.IntWalk
set_option maxRecDepth 100000
set_option maxHeartbeats 1000000
theorem has_in {F : World} {M : List Nat} {H : List Res} {p mb : Nat} {k : Bk} {name : List UInt8} [hB : InB H p (bkV mb k) 63] [hE : InE H mb (mapQ Try.prog 9 2 k.ends.length (mapD k.ends))] (hn : name.length ≤ maxLen) : Meets Try.prog 24 [.pointer (some ⟨p, 0, none⟩), sV name] F M H (fun e H' => e = .returned (.bool (eget k.ends name).isSome) ∧ H' = H) := by
  refine Meets.enter Try.func24 rfl rfl ?_
  repeat' (first | ((with_reducible apply T.mapOk); apply rfl; apply rfl; infer_instance; (first | assumption | (simp only [maxLen]; omega) | omega); apply rfl) | ((with_reducible apply T.mv); apply rfl; apply rfl) | ((with_reducible apply T.asn); apply rfl; apply rfl) | ((with_reducible apply T.nilCheck); apply rfl; apply rfl) | ((with_reducible apply T.fieldAddrZ); apply rfl; apply rfl) | ((with_reducible apply T.load); apply rfl; apply rfl; infer_instance; apply rfl; apply rfl) | ((with_reducible apply T.extract); apply rfl; apply rfl; apply rfl) | with_reducible refine Sr.nil ?_ | with_reducible refine S.seq ?_ | with_reducible refine S.reg ?_ | ((with_reducible apply T.retW); apply rfl) | fail)
  exact ⟨_, PSub.refl _, rfl, rfl⟩
theorem len_in {F : World} {M : List Nat} {H : List Res} {p mb : Nat} {k : Bk} [hB : InB H p (bkV mb k) 63] [hE : InE H mb (mapQ Try.prog 9 2 k.ends.length (mapD k.ends))] : Meets Try.prog 28 [.pointer (some ⟨p, 0, none⟩)] F M H (fun e H' => e = .returned (.int .i64 (k.ends.length : Nat)) ∧ H' = H) := by
  refine Meets.enter Try.func28 rfl rfl ?_
  repeat' (first | ((with_reducible apply T.mapLen); apply rfl; infer_instance; apply rfl) | ((with_reducible apply T.mv); apply rfl; apply rfl) | ((with_reducible apply T.asn); apply rfl; apply rfl) | ((with_reducible apply T.nilCheck); apply rfl; apply rfl) | ((with_reducible apply T.fieldAddrZ); apply rfl; apply rfl) | ((with_reducible apply T.load); apply rfl; apply rfl; infer_instance; apply rfl; apply rfl) | with_reducible refine Sr.nil ?_ | with_reducible refine S.seq ?_ | with_reducible refine S.reg ?_ | ((with_reducible apply T.retW); apply rfl) | fail)
  exact ⟨_, PSub.refl _, rfl, rfl⟩
theorem last_in {F : World} {M : List Nat} {H : List Res} {p mb : Nat} {k : Bk} [hB : InB H p (bkV mb k) 63] : Meets Try.prog 27 [.pointer (some ⟨p, 0, none⟩)] F M H (fun e H' => e = .returned (.tuple ⟨[.int .i64 k.last, .bool k.has]⟩) ∧ H' = H) := by
  refine Meets.enter Try.func27 rfl rfl ?_
  refine S.seq ?_
  repeat' (first | ((with_reducible apply T.asn); apply rfl; apply rfl) | with_reducible refine Sr.nil ?_ | with_reducible refine S.reg ?_ | fail)
  refine S.seq ?_
  ((with_reducible apply S.draw); (case Hs => exact H); (case es => exact  []); (case n => exact  10); (case hn => rfl))
  repeat' (first | ((with_reducible apply T.mv); apply rfl; apply rfl) | ((with_reducible apply T.asn); apply rfl; apply rfl) | ((with_reducible apply T.nilCheck); apply rfl; apply rfl) | ((with_reducible apply T.fieldAddrZ); apply rfl; apply rfl) | ((with_reducible apply T.load); apply rfl; apply rfl; infer_instance; apply rfl; apply rfl) | with_reducible refine Sr.nil ?_ | ((with_reducible apply T.retW); apply rfl) | ((with_reducible apply SA.qn); apply rfl; apply rfl; apply rfl; apply rfl; kernel_rfl) | ((with_reducible apply SA.done); apply rfl; kernel_rfl) | fail)
  exact ⟨_, PSub.refl _, rfl, rfl⟩
theorem open_image {F : World} {M : List Nat} {H : List Res} {c : Nat} {b : Option Addr} {k : Bk} [hR : Rd F M H b ((imageL k).map bV)] (hk : k.good) (hc : (imageL k).length ≤ c) :
    Meets Try.prog 16 [.slice b (imageL k).length c] F M H (fun e H' => ∃ q mb, e = .returned (.tuple ⟨[.pointer (some ⟨q, 0, none⟩), .int .i64 0, .int .i64 0]⟩) ∧ H' = .blk q (bkV mb k) 63 :: bkM mb k :: H) := by
  have hin := image_le hk.ok
  have hop := open_spec (F := F) (M := M) (H := H) (b := b) (c := c) (l := imageL k) (by omega) hc
  rw [openM_some hk] at hop
  exact hop
theorem back_walk {F : World} {ac bc cc0 : Nat} {a b d : Option Addr} {l : List UInt8} {ys zs : List OpR} [hA : ∀ H, Rd F [] H a (l.map bV)] [hB : ∀ H, Rd F [] H b (ys.flatMap opV)] [hD : ∀ H, Rd F [] H d (zs.flatMap opV)] (hl : l.length ≤ 1000000000000000) (hc : l.length ≤ ac) (hy : Ops ys) (hyl : ys.length ≤ 140737488355328) (hz : Ops zs) (hzl : zs.length ≤ 140737488355328) :
    Meets Try.prog 8 [.slice a l.length ac, .slice b ys.length bc, .slice d zs.length cc0] F [] [] (fun e _ => e = .returned (.bool true)) := by
  have hop := open_spec (F := F) (M := []) (H := []) (b := a) (c := ac) hl hc
  refine Meets.enter Try.func8 rfl rfl ?_
  refine S.seq ?_
  repeat' (first | ((with_reducible apply T.asn); apply rfl; apply rfl) | with_reducible refine Sr.nil ?_ | with_reducible refine S.reg ?_ | fail)
  refine S.seq ?_
  refine S.seq ?_
  repeat' (first | with_reducible refine S.reg ?_ | fail)
  refine T.call rfl rfl started_spec ?_
  rintro _ _ ⟨rfl, rfl⟩
  repeat' (first | ((with_reducible apply T.notB); apply rfl; apply rfl) | with_reducible refine Sr.nil ?_ | with_reducible refine S.skip ?_ | ((with_reducible apply S.condF); apply rfl) | (with_reducible apply T.ofRet) | fail)
  refine S.seq ?_
  refine S.cut (fun H' e' => ((openM l).1 = none ∧ H' = [] ∧ e' = [(7, .pointer none), (8, .int .i64 163), (0, .slice a l.length ac), (1, .slice b ys.length bc), (2, .slice d zs.length cc0)]) ∨
    (∃ k q mb, (openM l).1 = some k ∧ H' = .blk q (bkV mb k) 63 :: bkM mb k :: [] ∧ e' = [(7, .pointer (some ⟨q, 0, none⟩)), (8, .int .i64 0), (0, .slice a l.length ac), (1, .slice b ys.length bc), (2, .slice d zs.length cc0)])) ?_ ?_
  · intro k' hrest
    generalize openM l = E at *
    obtain ⟨o, p⟩ := E
    cases o with
    | none =>
      repeat' (first | ((with_reducible apply T.mv); apply rfl; apply rfl) | with_reducible refine S.reg ?_ | fail)
      refine T.call rfl rfl hop ?_
      rintro _ _ ⟨rfl, rfl⟩
      repeat' (first | ((with_reducible apply T.mv); apply rfl; apply rfl) | ((with_reducible apply T.asn); apply rfl; apply rfl) | ((with_reducible apply T.extract); apply rfl; apply rfl; apply rfl) | with_reducible refine Sr.nil ?_ | (with_reducible apply T.ofRet) | fail)
      exact hrest _ _ _ (.inl ⟨rfl, rfl, rfl⟩) (by repeat' first | exact trivial | refine And.intro rfl ?_)
    | some k =>
      repeat' (first | ((with_reducible apply T.mv); apply rfl; apply rfl) | with_reducible refine S.reg ?_ | fail)
      refine T.call rfl rfl hop ?_
      rintro _ _ ⟨q, mb, rfl, rfl⟩
      repeat' (first | ((with_reducible apply T.mv); apply rfl; apply rfl) | ((with_reducible apply T.asn); apply rfl; apply rfl) | ((with_reducible apply T.extract); apply rfl; apply rfl; apply rfl) | with_reducible refine Sr.nil ?_ | (with_reducible apply T.ofRet) | fail)
      exact hrest _ _ _ (.inr ⟨k, q, mb, rfl, rfl, rfl⟩) (by repeat' first | exact trivial | refine And.intro rfl ?_)
  rintro _ _ hJ
  refine S.seq ?_
  refine S.cut (fun H' e' => H' = [] ∧ e' = [(0, .slice a l.length ac), (1, .slice b ys.length bc), (2, .slice d zs.length cc0)]) ?_ ?_
  · intro k' hrest
    rcases hJ with ⟨_, rfl, rfl⟩ | ⟨k, q, mb, hok, rfl, rfl⟩
    · repeat' (first | ((with_reducible apply T.mv); apply rfl; apply rfl) | ((with_reducible apply T.eql); apply rfl; apply rfl; apply rfl) | ((with_reducible apply T.pickF); apply rfl; apply rfl; apply rfl) | with_reducible refine Sr.nil ?_ | with_reducible refine S.seq ?_ | with_reducible refine S.reg ?_ | with_reducible refine S.skip ?_ | ((with_reducible apply T.skip); apply rfl; apply rfl; apply rfl) | ((with_reducible apply T.skipU); apply rfl; apply rfl) | ((with_reducible apply S.condF); apply rfl) | fail)
      exact hrest _ _ _ ⟨rfl, rfl⟩ (by repeat' first | exact trivial | refine And.intro rfl ?_)
    · have h1 := openM_ok (l := l) (k := k) (p := (openM l).2) (by rw [← hok])
      obtain ⟨-, h2, h3⟩ := h1
      repeat' (first | ((with_reducible apply T.eqlP); apply rfl; apply rfl) | ((with_reducible apply T.mv); apply rfl; apply rfl) | ((with_reducible apply T.eql); apply rfl; apply rfl; apply rfl) | with_reducible refine S.seq ?_ | with_reducible refine S.reg ?_ | ((with_reducible apply T.ung); apply rfl) | fail)
      refine T.call rfl rfl (image_spec h3.ok) ?_
      rintro _ _ ⟨ia, ic, rfl, rfl⟩
      rw [h2]
      repeat' (first | ((with_reducible apply T.mv); apply rfl; apply rfl) | ((with_reducible apply T.ung); apply rfl) | (with_reducible apply T.ofRet) | fail)
      refine T.call rfl rfl (same_eq inferInstance inferInstance (by omega)) ?_
      rintro _ _ ⟨rfl, rfl⟩
      repeat' (first | ((with_reducible apply T.notB); apply rfl; apply rfl) | ((with_reducible apply T.pickT); apply rfl; apply rfl; apply rfl) | ((with_reducible apply T.pickF); apply rfl; apply rfl; apply rfl) | with_reducible refine Sr.nil ?_ | with_reducible refine S.skip ?_ | ((with_reducible apply T.ung); apply rfl) | ((with_reducible apply S.condF); apply rfl) | (with_reducible apply T.ofRet) | fail)
      exact S.sublist (hrest _ _ _ ⟨rfl, rfl⟩ (by repeat' first | exact trivial | refine And.intro rfl ?_)) (by ((repeat (first | dsimp only [List.set_cons_zero] | dsimp only [List.set_cons_succ])); repeat' first | exact PSub.refl _ | exact PSub.nil | ((with_reducible apply PSub.take); (repeat' first | (with_reducible exact pick_hd) | (with_reducible apply pick_tl))) | (with_reducible apply PSub.drop) | ((apply PSub.take); (repeat' first | exact pick_hd | (apply pick_tl)))))
  rintro _ _ ⟨rfl, rfl⟩
  clear hJ
  repeat' (first | ((with_reducible apply T.mv); apply rfl; apply rfl) | with_reducible refine S.seq ?_ | with_reducible refine S.reg ?_ | fail)
  refine T.call rfl rfl (opened_spec (l := l) hl hc) ?_
  rintro _ _ ⟨q, mb, rfl, rfl⟩
  repeat' (first | ((with_reducible apply T.asn); apply rfl; apply rfl) | with_reducible refine Sr.nil ?_ | with_reducible refine S.seq ?_ | with_reducible refine S.block ?_ | with_reducible refine S.reg ?_ | (with_reducible apply T.ofRet) | fail)
  refine S.loopE 2 [1, 2, 10] (fun R b' μ H' e => ∃ (i : Nat) (k : Bk), H' = .blk q (bkV mb k) 63 :: bkM mb k :: R ∧ e = (11, .int .i64 i) :: b' ∧ (i ≤ ys.length ∧ k.good) ∧ μ = ys.length - i) rfl rfl ?_ _ _ ⟨0, openedM l, rfl, rfl, ⟨by omega, openedM_good l⟩, rfl⟩ (by repeat' first | exact trivial | refine And.intro rfl ?_)
  rintro _ _ _ ⟨i, k, rfl, rfl, ⟨hi, hk⟩, rfl⟩ ih
  by_cases h1 : i < ys.length
  · obtain ⟨hj2, ht2, hw2⟩ := hy.at h1
    repeat' (first | ((with_reducible apply T.mv); apply rfl; apply rfl) | ((with_reducible apply T.asn); apply rfl; apply rfl) | ((with_reducible apply T.len); apply rfl; apply rfl) | ((with_reducible apply T.lss); apply rfl; apply rfl; apply rfl) | ((with_reducible apply T.eql); apply rfl; apply rfl; apply rfl) | ((with_reducible apply T.addI); apply rfl; apply rfl; omega; apply rfl) | ((with_reducible apply T.ixF); apply rfl; apply rfl; infer_instance; exact (fun _ => rfl); apply rfl; omega; omega; apply rfl) | ((with_reducible apply T.fieldAddrF); apply rfl; infer_instance; exact (fun _ => rfl); apply rfl; omega; apply rfl) | ((with_reducible apply T.loadF); apply rfl; apply rfl; infer_instance; exact (fun _ => rfl); apply rfl; exact getD_some (by omega); apply rfl; apply rfl) | with_reducible refine Sr.nil ?_ | with_reducible refine S.seq ?_ | with_reducible refine S.block ?_ | with_reducible refine S.reg ?_ | with_reducible refine S.skip ?_ | with_reducible refine S.inBlock ?_ | ((with_reducible apply S.condQ); apply rfl; all_goals (intro _; try (exfalso; omega))) | fail)
    · have n1 : ∀ {X : List Res}, Meets Try.prog 12 [.pointer (some ⟨q, 0, none⟩), sV (ys.getD i default).jti, .int .i64 (ys.getD i default).til, .int .i64 (ys.getD i default).now] F [] (.blk q (bkV mb k) 63 :: bkM mb k :: X) (fun e H' => e = .returned (.int .i64 ((k.take (ys.getD i default).jti (ys.getD i default).til (ys.getD i default).now).1 : Nat)) ∧ H' = .blk q (bkV mb (k.take (ys.getD i default).jti (ys.getD i default).til (ys.getD i default).now).2) 63 :: bkM mb (k.take (ys.getD i default).jti (ys.getD i default).til (ys.getD i default).now).2 :: X) := take_spec hj2 hk.ok.len9 ht2
      ((with_reducible apply S.draw); (case Hs => exact []); (case es => exact  [16]); (case n => exact  17); (case hn => rfl))
      repeat' (first | (refine T.call rfl rfl (by with_reducible exact n1) ?_; rintro _ _ ⟨rfl, rfl⟩) | ((with_reducible apply T.mv); apply rfl; apply rfl) | ((with_reducible apply T.asn); apply rfl; apply rfl) | ((with_reducible apply T.addI); apply rfl; apply rfl; omega; apply rfl) | ((with_reducible apply T.ixF); apply rfl; apply rfl; infer_instance; exact (fun _ => rfl); apply rfl; omega; omega; apply rfl) | ((with_reducible apply T.fieldAddrF); apply rfl; infer_instance; exact (fun _ => rfl); apply rfl; omega; apply rfl) | ((with_reducible apply T.loadF); apply rfl; apply rfl; infer_instance; exact (fun _ => rfl); apply rfl; exact getD_some (by omega); apply rfl; apply rfl) | with_reducible refine Sr.nil ?_ | with_reducible refine S.reg ?_ | with_reducible refine S.inBlock ?_ | (with_reducible apply T.ofRet) | ((with_reducible apply SA.qn); apply rfl; apply rfl; apply rfl; apply rfl; kernel_rfl) | ((with_reducible apply SA.en); apply rfl; apply rfl; kernel_rfl) | ((with_reducible apply SA.done); apply rfl; kernel_rfl) | ((with_reducible apply SK.intro); (first | exact fun _ h => h | exact fun _ h => St.psub h (by ((repeat (first | dsimp only [List.set_cons_zero] | dsimp only [List.set_cons_succ])); repeat' first | exact PSub.refl _ | exact PSub.nil | ((with_reducible apply PSub.take); (repeat' first | (with_reducible exact pick_hd) | (with_reducible apply pick_tl))) | (with_reducible apply PSub.drop) | ((apply PSub.take); (repeat' first | exact pick_hd | (apply pick_tl))))))) | fail)
      skip
      exact ih _ _ _ _ ⟨i + 1, _, rfl, rfl, ⟨by omega, take_good hk _ ht2 hw2⟩, rfl⟩ (by omega) (by repeat' first | exact trivial | refine And.intro rfl ?_)
    · exact ih _ _ _ _ ⟨i + 1, k, rfl, rfl, ⟨by omega, hk⟩, rfl⟩ (by omega) (by repeat' first | exact trivial | refine And.intro rfl ?_)
  clear ih
  have hin := image_le hk.ok
  have hkl := hk.ok.len
  repeat' (first | ((with_reducible apply T.mv); apply rfl; apply rfl) | ((with_reducible apply T.len); apply rfl; apply rfl) | ((with_reducible apply T.lss); apply rfl; apply rfl; apply rfl) | with_reducible refine Sr.nil ?_ | with_reducible refine S.seq ?_ | with_reducible refine S.reg ?_ | ((with_reducible apply S.exit); apply rfl) | ((with_reducible apply S.condQ); apply rfl; all_goals (intro _; try (exfalso; omega))) | fail)
  refine T.call rfl rfl (image_spec hk.ok) ?_
  rintro _ _ ⟨wa, wc, rfl, rfl⟩
  repeat' (first | ((with_reducible apply T.mv); apply rfl; apply rfl) | ((with_reducible apply T.asn); apply rfl; apply rfl) | with_reducible refine Sr.nil ?_ | with_reducible refine S.seq ?_ | with_reducible refine S.reg ?_ | (with_reducible apply T.ofRet) | fail)
  refine Sr.capR (ad := wa) inferInstance fun hwc => ?_
  refine T.call rfl rfl (open_image hk hwc) ?_
  rintro _ _ ⟨q2, mb2, rfl, rfl⟩
  repeat' (first | ((with_reducible apply T.eqlP); apply rfl; apply rfl) | ((with_reducible apply T.mv); apply rfl; apply rfl) | ((with_reducible apply T.asn); apply rfl; apply rfl) | ((with_reducible apply T.neq); apply rfl; apply rfl; apply rfl) | ((with_reducible apply T.extract); apply rfl; apply rfl; apply rfl) | ((with_reducible apply T.pickF); apply rfl; apply rfl; apply rfl) | with_reducible refine Sr.nil ?_ | with_reducible refine S.seq ?_ | with_reducible refine S.reg ?_ | ((with_reducible apply T.ung); apply rfl) | (with_reducible apply T.ofRet) | fail)
  refine T.call rfl rfl (image_spec hk.ok) ?_
  rintro _ _ ⟨va, vc, rfl, rfl⟩
  repeat' (first | ((with_reducible apply T.mv); apply rfl; apply rfl) | ((with_reducible apply T.ung); apply rfl) | (with_reducible apply T.ofRet) | fail)
  refine T.call rfl rfl (same_eq inferInstance inferInstance (by omega)) ?_
  rintro _ _ ⟨rfl, rfl⟩
  repeat' (first | ((with_reducible apply T.asn); apply rfl; apply rfl) | ((with_reducible apply T.notB); apply rfl; apply rfl) | ((with_reducible apply T.pickF); apply rfl; apply rfl; apply rfl) | with_reducible refine Sr.nil ?_ | with_reducible refine S.seq ?_ | with_reducible refine S.block ?_ | with_reducible refine S.reg ?_ | with_reducible refine S.skip ?_ | ((with_reducible apply T.ung); apply rfl) | ((with_reducible apply S.condF); apply rfl) | (with_reducible apply T.ofRet) | fail)
  refine S.sublist (H' := .blk q2 (bkV mb2 k) 63 :: bkM mb2 k :: .blk q (bkV mb k) 63 :: bkM mb k :: []) ?_ (by ((repeat (first | dsimp only [List.set_cons_zero] | dsimp only [List.set_cons_succ])); repeat' first | exact PSub.refl _ | exact PSub.nil | ((with_reducible apply PSub.take); (repeat' first | (with_reducible exact pick_hd) | (with_reducible apply pick_tl))) | (with_reducible apply PSub.drop) | ((apply PSub.take); (repeat' first | exact pick_hd | (apply pick_tl)))))
  refine S.loopE 4 [2, 10, 13] (fun R b' μ H' e => ∃ (i : Nat) (k : Bk), H' = .blk q2 (bkV mb2 k) 63 :: bkM mb2 k :: .blk q (bkV mb k) 63 :: bkM mb k :: R ∧ e = (16, .int .i64 i) :: b' ∧ (i ≤ zs.length ∧ k.good) ∧ μ = zs.length - i) rfl rfl ?_ _ _ ⟨0, k, rfl, rfl, ⟨by omega, hk⟩, rfl⟩ (by repeat' first | exact trivial | refine And.intro rfl ?_)
  clear hkl hin hk
  rintro _ _ _ ⟨j, k, rfl, rfl, ⟨hj, hk⟩, rfl⟩ ih
  have hkl := hk.ok.len
  have hin := image_le hk.ok
  by_cases h2 : j < zs.length
  · obtain ⟨hj2, ht2, hw2⟩ := hz.at h2
    have hbx : (!((eget k.ends (zs.getD j default).jti).isSome == (eget k.ends (zs.getD j default).jti).isSome)) = false := by simp
    have hbh : (!(k.has == k.has)) = false := by simp
    refine S.seq ?_
    refine S.seq ?_
    repeat' (first | ((with_reducible apply T.mv); apply rfl; apply rfl) | ((with_reducible apply T.len); apply rfl; apply rfl) | ((with_reducible apply T.lss); apply rfl; apply rfl; apply rfl) | with_reducible refine Sr.nil ?_ | with_reducible refine S.reg ?_ | fail)
    refine S.condP rfl (fun _ => ?_) (fun h => absurd h2 (by omega))
    repeat' (first | with_reducible refine S.skip ?_ | fail)
    refine S.seq ?_
    refine S.block ?_
    refine S.seq ?_
    repeat' (first | ((with_reducible apply T.mv); apply rfl; apply rfl) | ((with_reducible apply T.ixF); apply rfl; apply rfl; infer_instance; exact (fun _ => rfl); apply rfl; omega; omega; apply rfl) | ((with_reducible apply T.loadFN); apply rfl; apply rfl; infer_instance; exact (fun _ => rfl); apply rfl; exact getD_some (by omega); apply rfl) | ((with_reducible apply T.storeW); apply rfl; apply rfl; infer_instance; (first | rfl | ((first | simp only [List.length_append] | simp only [List.length_map] | simp only [List.length_set] | simp only [List.length_replicate] | simp only [List.length_cons] | simp only [List.length_nil]); (repeat (first | simp only [List.length_append] | simp only [List.length_map] | simp only [List.length_set] | simp only [List.length_replicate] | simp only [List.length_cons] | simp only [List.length_nil])); first | done | omega)); (first | rfl | ((first | simp only [List.length_append] | simp only [List.length_map] | simp only [List.length_set] | simp only [List.length_replicate] | simp only [List.length_cons] | simp only [List.length_nil]); (repeat (first | simp only [List.length_append] | simp only [List.length_map] | simp only [List.length_set] | simp only [List.length_replicate] | simp only [List.length_cons] | simp only [List.length_nil])); first | done | omega)); (first | rfl | (repeat' first | apply all_nV | apply all_bV | apply all_iV | rfl | apply all_app))) | ((with_reducible apply T.alloc); apply rfl; intro nb) | with_reducible refine Sr.nil ?_ | with_reducible refine S.reg ?_ | fail)
    refine S.seq ?_
    refine S.cut (fun H' e' => H' = .blk nb (opV (zs.getD j default)) 27 :: .blk q2 (bkV mb2 k) 63 :: bkM mb2 k :: .blk q (bkV mb k) 63 :: bkM mb k :: [] ∧ e' = [(2, .slice d zs.length cc0), (10, .pointer (some ⟨q, 0, none⟩)), (13, .pointer (some ⟨q2, 0, none⟩)), (16, .int .i64 j), (17, .pointer (some ⟨nb, 0, none⟩))]) ?_ ?_
    · intro k' hrest
      refine S.seq ?_
      ((with_reducible apply S.draw); (case Hs => exact [.blk nb (opV (zs.getD j default)) 27]); (case es => exact  [3, 7, 10, 11, 12, 13, 14, 15]); (case n => exact  16); (case hn => rfl))
      have n1 : ∀ {X : List Res} [InB X q (bkV mb k) 63] [InE X mb (mapQ Try.prog 9 2 k.ends.length (mapD k.ends))], Meets Try.prog 24 [.pointer (some ⟨q, 0, none⟩), sV (zs.getD j default).jti] F [] X (fun e H' => e = .returned (.bool (eget k.ends (zs.getD j default).jti).isSome) ∧ H' = X) := has_in hj2
      have n2 : ∀ {X : List Res} [InB X q2 (bkV mb2 k) 63] [InE X mb2 (mapQ Try.prog 9 2 k.ends.length (mapD k.ends))], Meets Try.prog 24 [.pointer (some ⟨q2, 0, none⟩), sV (zs.getD j default).jti] F [] X (fun e H' => e = .returned (.bool (eget k.ends (zs.getD j default).jti).isSome) ∧ H' = X) := has_in hj2
      have n3 : ∀ {X : List Res} [InB X q (bkV mb k) 63] [InE X mb (mapQ Try.prog 9 2 k.ends.length (mapD k.ends))], Meets Try.prog 28 [.pointer (some ⟨q, 0, none⟩)] F [] X (fun e H' => e = .returned (.int .i64 (k.ends.length : Nat)) ∧ H' = X) := len_in
      have n4 : ∀ {X : List Res} [InB X q2 (bkV mb2 k) 63] [InE X mb2 (mapQ Try.prog 9 2 k.ends.length (mapD k.ends))], Meets Try.prog 28 [.pointer (some ⟨q2, 0, none⟩)] F [] X (fun e H' => e = .returned (.int .i64 (k.ends.length : Nat)) ∧ H' = X) := len_in
      repeat' (first | ((with_reducible apply T.neqB); apply rfl; apply rfl; apply rfl; rw [hbx]) | (refine T.call rfl rfl (by with_reducible exact n1) ?_; rintro _ _ ⟨rfl, rfl⟩) | (refine T.call rfl rfl (by with_reducible exact n2) ?_; rintro _ _ ⟨rfl, rfl⟩) | (refine T.call rfl rfl (by with_reducible exact n3) ?_; rintro _ _ ⟨rfl, rfl⟩) | (refine T.call rfl rfl (by with_reducible exact n4) ?_; rintro _ _ ⟨rfl, rfl⟩) | ((with_reducible apply T.mv); apply rfl; apply rfl) | ((with_reducible apply T.fieldAddrZ); apply rfl; apply rfl) | ((with_reducible apply T.load); apply rfl; apply rfl; infer_instance; apply rfl; apply rfl) | ((with_reducible apply T.neq); apply rfl; apply rfl; apply rfl) | ((with_reducible apply T.pickF); apply rfl; apply rfl; apply rfl) | with_reducible refine Sr.nil ?_ | with_reducible refine S.skip ?_ | ((with_reducible apply T.ung); apply rfl) | (with_reducible apply T.ofRet) | ((with_reducible apply SA.qn); apply rfl; apply rfl; apply rfl; apply rfl; kernel_rfl) | ((with_reducible apply SA.qsn); apply rfl; apply rfl; apply rfl; kernel_rfl; (first | exact fun _ h => h | exact fun _ h => St.psub h (by ((repeat (first | dsimp only [List.set_cons_zero] | dsimp only [List.set_cons_succ])); repeat' first | exact PSub.refl _ | exact PSub.nil | ((with_reducible apply PSub.take); (repeat' first | (with_reducible exact pick_hd) | (with_reducible apply pick_tl))) | (with_reducible apply PSub.drop) | ((apply PSub.take); (repeat' first | exact pick_hd | (apply pick_tl))))))) | ((with_reducible apply SA.en); apply rfl; apply rfl; kernel_rfl) | ((with_reducible apply SA.e2); apply rfl; apply rfl; apply rfl; kernel_rfl) | ((with_reducible apply SA.done); apply rfl; kernel_rfl) | ((with_reducible apply SK.intro); (first | exact fun _ h => h | exact fun _ h => St.psub h (by ((repeat (first | dsimp only [List.set_cons_zero] | dsimp only [List.set_cons_succ])); repeat' first | exact PSub.refl _ | exact PSub.nil | ((with_reducible apply PSub.take); (repeat' first | (with_reducible exact pick_hd) | (with_reducible apply pick_tl))) | (with_reducible apply PSub.drop) | ((apply PSub.take); (repeat' first | exact pick_hd | (apply pick_tl))))))) | ((with_reducible apply S.condQ); apply rfl; all_goals (intro _; try (exfalso; omega))) | fail)
      all_goals exact hrest _ _ _ ⟨rfl, rfl⟩ (by repeat' first | exact trivial | refine And.intro rfl ?_)
    rintro _ _ ⟨rfl, rfl⟩
    refine S.seq ?_
    refine S.cut (fun H' e' => ∃ k3 : Bk, k3.good ∧ H' = .blk q2 (bkV mb2 k3) 63 :: bkM mb2 k3 :: .blk q (bkV mb k3) 63 :: bkM mb k3 :: [] ∧ e' = [(2, .slice d zs.length cc0), (10, .pointer (some ⟨q, 0, none⟩)), (13, .pointer (some ⟨q2, 0, none⟩)), (16, .int .i64 j)]) ?_ ?_
    · intro k' hrest
      repeat' (first | ((with_reducible apply T.mv); apply rfl; apply rfl) | ((with_reducible apply T.fieldAddrZ); apply rfl; apply rfl) | ((with_reducible apply T.load); apply rfl; apply rfl; infer_instance; apply rfl; apply rfl) | ((with_reducible apply T.eql); apply rfl; apply rfl; apply rfl) | with_reducible refine Sr.nil ?_ | with_reducible refine S.seq ?_ | with_reducible refine S.reg ?_ | with_reducible refine S.skip ?_ | ((with_reducible apply S.condQ); apply rfl; all_goals (intro _; try (exfalso; omega))) | fail)
      · refine Sr.front mb ?_
        refine Sr.front q ?_
        refine T.call rfl rfl (take_spec hj2 hk.ok.len9 ht2) ?_
        rintro _ _ ⟨rfl, rfl⟩
        repeat' (first | ((with_reducible apply T.mv); apply rfl; apply rfl) | ((with_reducible apply T.asn); apply rfl; apply rfl) | ((with_reducible apply T.fieldAddrZ); apply rfl; apply rfl) | ((with_reducible apply T.load); apply rfl; apply rfl; infer_instance; apply rfl; apply rfl) | with_reducible refine Sr.nil ?_ | with_reducible refine S.seq ?_ | with_reducible refine S.reg ?_ | (with_reducible apply T.ofRet) | fail)
        refine Sr.front mb2 ?_
        refine Sr.front q2 ?_
        refine T.call rfl rfl (take_spec hj2 hk.ok.len9 ht2) ?_
        rintro _ _ ⟨rfl, rfl⟩
        repeat' (first | ((with_reducible apply T.neq); apply rfl; apply rfl; apply rfl) | with_reducible refine Sr.nil ?_ | with_reducible refine S.skip ?_ | (with_reducible apply T.ofRet) | ((with_reducible apply S.condQ); apply rfl; all_goals (intro _; try (exfalso; omega))) | fail)
        exact S.sublist (hrest _ _ _ ⟨_, take_good hk _ ht2 hw2, rfl, rfl⟩ (by repeat' first | exact trivial | refine And.intro rfl ?_)) (by ((repeat (first | dsimp only [List.set_cons_zero] | dsimp only [List.set_cons_succ])); repeat' first | exact PSub.refl _ | exact PSub.nil | ((with_reducible apply PSub.take); (repeat' first | (with_reducible exact pick_hd) | (with_reducible apply pick_tl))) | (with_reducible apply PSub.drop) | ((apply PSub.take); (repeat' first | exact pick_hd | (apply pick_tl)))))
      · exact S.sublist (hrest _ _ _ ⟨k, hk, rfl, rfl⟩ (by repeat' first | exact trivial | refine And.intro rfl ?_)) (by ((repeat (first | dsimp only [List.set_cons_zero] | dsimp only [List.set_cons_succ])); repeat' first | exact PSub.refl _ | exact PSub.nil | ((with_reducible apply PSub.take); (repeat' first | (with_reducible exact pick_hd) | (with_reducible apply pick_tl))) | (with_reducible apply PSub.drop) | ((apply PSub.take); (repeat' first | exact pick_hd | (apply pick_tl)))))
    rintro _ _ ⟨k3, hk3, rfl, rfl⟩
    have hbh : (!(k3.has == k3.has)) = false := by simp
    repeat' (first | ((with_reducible apply T.mv); apply rfl; apply rfl) | with_reducible refine S.seq ?_ | with_reducible refine S.reg ?_ | fail)
    refine T.call rfl rfl (last_in (k := k3) (mb := mb)) ?_
    rintro _ _ ⟨rfl, rfl⟩
    repeat' (first | ((with_reducible apply T.mv); apply rfl; apply rfl) | ((with_reducible apply T.asn); apply rfl; apply rfl) | ((with_reducible apply T.extract); apply rfl; apply rfl; apply rfl) | with_reducible refine Sr.nil ?_ | with_reducible refine S.seq ?_ | with_reducible refine S.reg ?_ | (with_reducible apply T.ofRet) | fail)
    refine T.call rfl rfl (last_in (k := k3) (mb := mb2)) ?_
    rintro _ _ ⟨rfl, rfl⟩
    repeat' (first | ((with_reducible apply T.neqB); apply rfl; apply rfl; apply rfl; rw [hbh]) | ((with_reducible apply T.mv); apply rfl; apply rfl) | ((with_reducible apply T.asn); apply rfl; apply rfl) | ((with_reducible apply T.neq); apply rfl; apply rfl; apply rfl) | ((with_reducible apply T.addI); apply rfl; apply rfl; omega; apply rfl) | ((with_reducible apply T.extract); apply rfl; apply rfl; apply rfl) | ((with_reducible apply T.pickF); apply rfl; apply rfl; apply rfl) | with_reducible refine Sr.nil ?_ | with_reducible refine S.seq ?_ | with_reducible refine S.reg ?_ | with_reducible refine S.skip ?_ | with_reducible refine S.inBlock ?_ | ((with_reducible apply T.ung); apply rfl) | ((with_reducible apply S.condF); apply rfl) | (with_reducible apply T.ofRet) | ((with_reducible apply T.gcase); apply rfl; apply rfl; all_goals (intro _; try (exfalso; omega))) | fail)
    exact ih _ _ _ _ ⟨j + 1, k3, rfl, rfl, ⟨by omega, hk3⟩, rfl⟩ (by omega) (by repeat' first | exact trivial | refine And.intro rfl ?_)
  · repeat' (first | ((with_reducible apply T.mv); apply rfl; apply rfl) | ((with_reducible apply T.len); apply rfl; apply rfl) | ((with_reducible apply T.lss); apply rfl; apply rfl; apply rfl) | with_reducible refine Sr.nil ?_ | with_reducible refine S.seq ?_ | with_reducible refine S.reg ?_ | ((with_reducible apply S.exit); apply rfl) | ((with_reducible apply S.condQ); apply rfl; all_goals (intro _; try (exfalso; omega))) | fail)
    refine Sr.front mb ?_
    refine Sr.front q ?_
    refine T.call rfl rfl (image_spec hk.ok) ?_
    rintro _ _ ⟨xa, xc, rfl, rfl⟩
    repeat' (first | ((with_reducible apply T.mv); apply rfl; apply rfl) | (with_reducible apply T.ofRet) | fail)
    refine Sr.front mb2 ?_
    refine Sr.front q2 ?_
    refine T.call rfl rfl (image_spec hk.ok) ?_
    rintro _ _ ⟨xb, xd, rfl, rfl⟩
    repeat' (first | (with_reducible apply T.ofRet) | fail)
    refine T.call rfl rfl (same_eq inferInstance inferInstance (by omega)) ?_
    rintro _ _ ⟨rfl, rfl⟩
    repeat' (first | ((with_reducible apply T.asn); apply rfl; apply rfl) | with_reducible refine Sr.nil ?_ | ((with_reducible apply T.retW); apply rfl) | (with_reducible apply T.ofRet) | fail)
    exact ⟨_, PSub.refl _, rfl⟩
end Go.Proofs.Ytcojlgkfkifhmaa
