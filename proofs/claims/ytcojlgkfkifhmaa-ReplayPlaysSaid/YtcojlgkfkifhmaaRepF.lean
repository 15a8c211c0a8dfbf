/- The walk of the statement ReplayOwn. -/
import Derived.Test.YtcojlgkfkifhmaaRepE
/- maps -/
namespace Go.Proofs.Ytcojlgkfkifhmaa
open Sg Go.IntWalk
set_option maxRecDepth 100000
set_option maxHeartbeats 1000000
/-- A call of a script. -/
structure OpR where
  kind : Int
  jti : List UInt8
  til : Int
  now : Int
instance : Inhabited OpR := ⟨⟨0, [], 0, 0⟩⟩
abbrev opV (o : OpR) : List Value := [.int .i64 o.kind, sV o.jti, .int .i64 o.til, .int .i64 o.now]
/-- A script that can be. -/
def Ops (l : List OpR) : Prop := ∀ o ∈ l, o.jti.length ≤ maxLen ∧ (Lit.int .i64 o.til).wf = true ∧ (Lit.int .i64 o.now).wf = true
theorem Ops.at {l : List OpR} (h : Ops l) {i : Nat} (hi : i < l.length) : (l.getD i default).jti.length ≤ maxLen ∧ (Lit.int .i64 (l.getD i default).til).wf = true ∧ (Lit.int .i64 (l.getD i default).now).wf = true := by
  have : l.getD i default ∈ l := by
    rw [List.getD_eq_getElem?_getD, List.getElem?_eq_getElem hi]
    exact List.getElem_mem hi
  exact h _ this
theorem image_le {k : Bk} (hk : k.ok) : (imageL k).length ≤ 5000008 := by
  have := accL_le hk k.ends.length
  rw [accL_all] at this
  rw [image_len]
  omega
theorem own_walk {F : World} {ac bc : Nat} {a b : Option Addr} {xs ys : List OpR} [hA : ∀ H, Rd F [] H a (xs.flatMap opV)] [hB : ∀ H, Rd F [] H b (ys.flatMap opV)] (hx : Ops xs) (hy : Ops ys) (hxl : xs.length ≤ 140737488355328) (hyl : ys.length ≤ 140737488355328) :
    Meets Try.prog 3 [.slice a xs.length ac, .slice b ys.length bc] F [] [] (fun e _ => e = .returned (.bool true)) := by
  refine Meets.enter Try.func3 rfl rfl ?_
  repeat' (first | ((with_reducible apply T.asn); apply rfl; apply rfl) | with_reducible refine Sr.nil ?_ | with_reducible refine S.seq ?_ | with_reducible refine S.reg ?_ | fail)
  refine T.call rfl rfl started_spec ?_
  rintro _ _ ⟨rfl, rfl⟩
  repeat' (first | ((with_reducible apply T.notB); apply rfl; apply rfl) | with_reducible refine Sr.nil ?_ | with_reducible refine S.seq ?_ | with_reducible refine S.reg ?_ | with_reducible refine S.skip ?_ | ((with_reducible apply S.condF); apply rfl) | (with_reducible apply T.ofRet) | fail)
  refine T.call rfl rfl new_spec ?_
  rintro _ _ ⟨pa, ma, rfl, rfl⟩
  repeat' (first | ((with_reducible apply T.asn); apply rfl; apply rfl) | with_reducible refine Sr.nil ?_ | with_reducible refine S.seq ?_ | with_reducible refine S.reg ?_ | (with_reducible apply T.ofRet) | fail)
  refine T.call rfl rfl new_spec ?_
  rintro _ _ ⟨pl, ml, rfl, rfl⟩
  repeat' (first | ((with_reducible apply T.asn); apply rfl; apply rfl) | with_reducible refine Sr.nil ?_ | with_reducible refine S.seq ?_ | with_reducible refine S.reg ?_ | (with_reducible apply T.ofRet) | fail)
  refine T.call rfl rfl new_spec ?_
  rintro _ _ ⟨pb, mb, rfl, rfl⟩
  repeat' (first | ((with_reducible apply T.eqlP); apply rfl; apply rfl) | ((with_reducible apply T.mv); apply rfl; apply rfl) | ((with_reducible apply T.asn); apply rfl; apply rfl) | ((with_reducible apply T.pickF); apply rfl; apply rfl; apply rfl) | with_reducible refine Sr.nil ?_ | with_reducible refine S.seq ?_ | with_reducible refine S.block ?_ | with_reducible refine S.reg ?_ | with_reducible refine S.skip ?_ | ((with_reducible apply T.ung); apply rfl) | ((with_reducible apply S.condF); apply rfl) | (with_reducible apply T.ofRet) | fail)
  refine S.loopE 6 [0, 1, 5, 6, 7] (fun R b' μ H' e => ∃ (i : Nat) (k k2 : Bk), H' = .blk pb (bkV mb k2) 63 :: bkM mb k2 :: .blk pl (bkV ml k) 63 :: bkM ml k :: .blk pa (bkV ma k) 63 :: bkM ma k :: R ∧ e = (8, .int .i64 i) :: b' ∧ (i ≤ xs.length ∧ k.ok ∧ k2.ok) ∧ μ = xs.length - i) rfl rfl ?_ _ _ ⟨0, ⟨false, 0, []⟩, ⟨false, 0, []⟩, rfl, rfl, ⟨by omega, new_ok, new_ok⟩, rfl⟩ (by repeat' first | exact trivial | refine And.intro rfl ?_)
  rintro _ _ _ ⟨i, k, k2, rfl, rfl, ⟨hi, hk, hk2⟩, rfl⟩ ih
  by_cases h1 : i < xs.length
  · obtain ⟨hj, ht, _⟩ := hx.at h1
    repeat' (first | ((with_reducible apply T.mv); apply rfl; apply rfl) | ((with_reducible apply T.len); apply rfl; apply rfl) | ((with_reducible apply T.lss); apply rfl; apply rfl; apply rfl) | with_reducible refine Sr.nil ?_ | with_reducible refine S.seq ?_ | with_reducible refine S.reg ?_ | fail)
    refine S.condP rfl (fun _ => ?_) (fun h => absurd h1 (by omega))
    repeat' (first | with_reducible refine S.skip ?_ | fail)
    refine S.seq ?_
    refine S.block ?_
    refine S.seq ?_
    repeat' (first | ((with_reducible apply T.mv); apply rfl; apply rfl) | ((with_reducible apply T.ixF); apply rfl; apply rfl; infer_instance; exact (fun _ => rfl); apply rfl; omega; omega; apply rfl) | ((with_reducible apply T.loadFN); apply rfl; apply rfl; infer_instance; exact (fun _ => rfl); apply rfl; exact getD_some (by omega); apply rfl) | ((with_reducible apply T.storeW); apply rfl; apply rfl; infer_instance; (first | rfl | ((first | simp only [List.length_append] | simp only [List.length_map] | simp only [List.length_set] | simp only [List.length_replicate] | simp only [List.length_cons] | simp only [List.length_nil]); (repeat (first | simp only [List.length_append] | simp only [List.length_map] | simp only [List.length_set] | simp only [List.length_replicate] | simp only [List.length_cons] | simp only [List.length_nil])); first | done | omega)); (first | rfl | ((first | simp only [List.length_append] | simp only [List.length_map] | simp only [List.length_set] | simp only [List.length_replicate] | simp only [List.length_cons] | simp only [List.length_nil]); (repeat (first | simp only [List.length_append] | simp only [List.length_map] | simp only [List.length_set] | simp only [List.length_replicate] | simp only [List.length_cons] | simp only [List.length_nil])); first | done | omega)); (first | rfl | (repeat' first | apply all_nV | apply all_bV | apply all_iV | rfl | apply all_app))) | ((with_reducible apply T.alloc); apply rfl; intro nb) | with_reducible refine Sr.nil ?_ | with_reducible refine S.reg ?_ | fail)
    refine S.seq ?_
    refine S.cut (fun H' e' => ∃ k3 : Bk, k3.ok ∧ H' = .blk nb (opV (xs.getD i default)) 27 :: .blk pb (bkV mb k3) 63 :: bkM mb k3 :: .blk pl (bkV ml k) 63 :: bkM ml k :: .blk pa (bkV ma k) 63 :: bkM ma k :: [] ∧ e' = [(0, .slice a xs.length ac), (1, .slice b ys.length bc), (5, .pointer (some ⟨pa, 0, none⟩)), (6, .pointer (some ⟨pl, 0, none⟩)), (7, .pointer (some ⟨pb, 0, none⟩)), (8, .int .i64 i), (9, .pointer (some ⟨nb, 0, none⟩))]) ?_ ?_
    · intro k' hrest
      by_cases h2 : i < ys.length
      · obtain ⟨hj2, ht2, _⟩ := hy.at h2
        repeat' (first | ((with_reducible apply T.mv); apply rfl; apply rfl) | ((with_reducible apply T.len); apply rfl; apply rfl) | ((with_reducible apply T.lss); apply rfl; apply rfl; apply rfl) | ((with_reducible apply T.eql); apply rfl; apply rfl; apply rfl) | ((with_reducible apply T.ixF); apply rfl; apply rfl; infer_instance; exact (fun _ => rfl); apply rfl; omega; omega; apply rfl) | ((with_reducible apply T.fieldAddrF); apply rfl; infer_instance; exact (fun _ => rfl); apply rfl; omega; apply rfl) | ((with_reducible apply T.loadF); apply rfl; apply rfl; infer_instance; exact (fun _ => rfl); apply rfl; exact getD_some (by omega); apply rfl; apply rfl) | ((with_reducible apply T.pickT); apply rfl; apply rfl; apply rfl) | with_reducible refine Sr.nil ?_ | with_reducible refine S.seq ?_ | with_reducible refine S.reg ?_ | with_reducible refine S.skip ?_ | ((with_reducible apply T.ung); apply rfl) | ((with_reducible apply S.condQ); apply rfl; all_goals (intro _; try (exfalso; omega))) | ((with_reducible apply T.gcase); apply rfl; apply rfl; all_goals (intro _; try (exfalso; omega))) | fail)
        · refine S.front mb ?_
          refine S.front pb ?_
          have n1 : ∀ {X : List Res}, Meets Try.prog 12 [.pointer (some ⟨pb, 0, none⟩), sV (ys.getD i default).jti, .int .i64 (ys.getD i default).til, .int .i64 (ys.getD i default).now] F [] (.blk pb (bkV mb k2) 63 :: bkM mb k2 :: X) (fun e H' => e = .returned (.int .i64 ((k2.take (ys.getD i default).jti (ys.getD i default).til (ys.getD i default).now).1 : Nat)) ∧ H' = .blk pb (bkV mb (k2.take (ys.getD i default).jti (ys.getD i default).til (ys.getD i default).now).2) 63 :: bkM mb (k2.take (ys.getD i default).jti (ys.getD i default).til (ys.getD i default).now).2 :: X) := take_spec hj2 hk2.len9 ht2
          ((with_reducible apply S.draw); (case Hs => exact .blk nb (opV (xs.getD i default)) 27 :: .blk pl (bkV ml k) 63 :: bkM ml k :: .blk pa (bkV ma k) 63 :: bkM ma k :: []); (case es => exact  [16]); (case n => exact  17); (case hn => rfl))
          repeat' (first | (refine T.call rfl rfl (by with_reducible exact n1) ?_; rintro _ _ ⟨rfl, rfl⟩) | ((with_reducible apply T.mv); apply rfl; apply rfl) | ((with_reducible apply T.ixF); apply rfl; apply rfl; infer_instance; exact (fun _ => rfl); apply rfl; omega; omega; apply rfl) | ((with_reducible apply T.fieldAddrF); apply rfl; infer_instance; exact (fun _ => rfl); apply rfl; omega; apply rfl) | ((with_reducible apply T.loadF); apply rfl; apply rfl; infer_instance; exact (fun _ => rfl); apply rfl; exact getD_some (by omega); apply rfl; apply rfl) | with_reducible refine Sr.nil ?_ | (with_reducible apply T.ofRet) | ((with_reducible apply SA.qn); apply rfl; apply rfl; apply rfl; apply rfl; kernel_rfl) | ((with_reducible apply SA.en); apply rfl; apply rfl; kernel_rfl) | ((with_reducible apply SA.done); apply rfl; kernel_rfl) | ((with_reducible apply SK.intro); (first | exact fun _ h => h | exact fun _ h => St.psub h (by ((repeat (first | dsimp only [List.set_cons_zero] | dsimp only [List.set_cons_succ])); repeat' first | exact PSub.refl _ | exact PSub.nil | ((with_reducible apply PSub.take); (repeat' first | (with_reducible exact pick_hd) | (with_reducible apply pick_tl))) | (with_reducible apply PSub.drop) | ((apply PSub.take); (repeat' first | exact pick_hd | (apply pick_tl))))))) | fail)
          refine S.front nb ?_
          exact hrest _ _ _ ⟨_, take_ok hk2 _ _ _, rfl, rfl⟩ (by repeat' first | exact trivial | refine And.intro rfl ?_)
        · exact hrest _ _ _ ⟨k2, hk2, rfl, rfl⟩ (by repeat' first | exact trivial | refine And.intro rfl ?_)
      · repeat' (first | ((with_reducible apply T.mv); apply rfl; apply rfl) | ((with_reducible apply T.len); apply rfl; apply rfl) | ((with_reducible apply T.lss); apply rfl; apply rfl; apply rfl) | ((with_reducible apply T.pickF); apply rfl; apply rfl; apply rfl) | with_reducible refine Sr.nil ?_ | with_reducible refine S.seq ?_ | with_reducible refine S.reg ?_ | with_reducible refine S.skip ?_ | ((with_reducible apply T.skip); apply rfl; apply rfl; apply rfl) | ((with_reducible apply S.condF); apply rfl) | ((with_reducible apply T.gcase); apply rfl; apply rfl; all_goals (intro _; try (exfalso; omega))) | fail)
        exact hrest _ _ _ ⟨k2, hk2, rfl, rfl⟩ (by repeat' first | exact trivial | refine And.intro rfl ?_)
    rintro _ _ ⟨k3, hk3, rfl, rfl⟩
    refine S.seq ?_
    refine S.cut (fun H' e' => ∃ k4 : Bk, k4.ok ∧ H' = .blk pb (bkV mb k3) 63 :: bkM mb k3 :: .blk pl (bkV ml k4) 63 :: bkM ml k4 :: .blk pa (bkV ma k4) 63 :: bkM ma k4 :: [] ∧ e' = [(0, .slice a xs.length ac), (1, .slice b ys.length bc), (5, .pointer (some ⟨pa, 0, none⟩)), (6, .pointer (some ⟨pl, 0, none⟩)), (7, .pointer (some ⟨pb, 0, none⟩)), (8, .int .i64 i)]) ?_ ?_
    · intro k' hrest
      repeat' (first | ((with_reducible apply T.mv); apply rfl; apply rfl) | ((with_reducible apply T.fieldAddrZ); apply rfl; apply rfl) | ((with_reducible apply T.load); apply rfl; apply rfl; infer_instance; apply rfl; apply rfl) | ((with_reducible apply T.eql); apply rfl; apply rfl; apply rfl) | with_reducible refine Sr.nil ?_ | with_reducible refine S.seq ?_ | with_reducible refine S.reg ?_ | with_reducible refine S.skip ?_ | ((with_reducible apply S.condQ); apply rfl; all_goals (intro _; try (exfalso; omega))) | fail)
      · refine Sr.front ma ?_
        refine Sr.front pa ?_
        refine T.call rfl rfl (take_spec hj hk.len9 ht) ?_
        rintro _ _ ⟨rfl, rfl⟩
        repeat' (first | ((with_reducible apply T.mv); apply rfl; apply rfl) | ((with_reducible apply T.asn); apply rfl; apply rfl) | ((with_reducible apply T.fieldAddrZ); apply rfl; apply rfl) | ((with_reducible apply T.load); apply rfl; apply rfl; infer_instance; apply rfl; apply rfl) | with_reducible refine Sr.nil ?_ | with_reducible refine S.seq ?_ | with_reducible refine S.reg ?_ | (with_reducible apply T.ofRet) | fail)
        refine Sr.front ml ?_
        refine Sr.front pl ?_
        refine T.call rfl rfl (take_spec hj hk.len9 ht) ?_
        rintro _ _ ⟨rfl, rfl⟩
        repeat' (first | ((with_reducible apply T.neq); apply rfl; apply rfl; apply rfl) | with_reducible refine Sr.nil ?_ | with_reducible refine S.skip ?_ | (with_reducible apply T.ofRet) | ((with_reducible apply S.condQ); apply rfl; all_goals (intro _; try (exfalso; omega))) | fail)
        refine S.front mb ?_
        refine S.front pb ?_
        exact S.sublist (hrest _ _ _ ⟨_, take_ok hk _ _ _, rfl, rfl⟩ (by repeat' first | exact trivial | refine And.intro rfl ?_)) (by ((repeat (first | dsimp only [List.set_cons_zero] | dsimp only [List.set_cons_succ])); repeat' first | exact PSub.refl _ | exact PSub.nil | ((with_reducible apply PSub.take); (repeat' first | (with_reducible exact pick_hd) | (with_reducible apply pick_tl))) | (with_reducible apply PSub.drop) | ((apply PSub.take); (repeat' first | exact pick_hd | (apply pick_tl)))))
      · exact S.sublist (hrest _ _ _ ⟨k, hk, rfl, rfl⟩ (by repeat' first | exact trivial | refine And.intro rfl ?_)) (by ((repeat (first | dsimp only [List.set_cons_zero] | dsimp only [List.set_cons_succ])); repeat' first | exact PSub.refl _ | exact PSub.nil | ((with_reducible apply PSub.take); (repeat' first | (with_reducible exact pick_hd) | (with_reducible apply pick_tl))) | (with_reducible apply PSub.drop) | ((apply PSub.take); (repeat' first | exact pick_hd | (apply pick_tl)))))
    rintro _ _ ⟨k4, hk4, rfl, rfl⟩
    have hin := image_le hk4
    repeat' (first | ((with_reducible apply T.mv); apply rfl; apply rfl) | with_reducible refine S.seq ?_ | with_reducible refine S.reg ?_ | fail)
    refine Sr.front ma ?_
    refine Sr.front pa ?_
    refine T.call rfl rfl (image_spec hk4) ?_
    rintro _ _ ⟨la, lc, rfl, rfl⟩
    repeat' (first | ((with_reducible apply T.mv); apply rfl; apply rfl) | ((with_reducible apply T.asn); apply rfl; apply rfl) | with_reducible refine Sr.nil ?_ | with_reducible refine S.seq ?_ | with_reducible refine S.reg ?_ | (with_reducible apply T.ofRet) | fail)
    refine Sr.front ma ?_
    refine Sr.front pa ?_
    refine T.call rfl rfl (image_spec hk4) ?_
    rintro _ _ ⟨ka, kc, rfl, rfl⟩
    repeat' (first | ((with_reducible apply T.mv); apply rfl; apply rfl) | ((with_reducible apply T.asn); apply rfl; apply rfl) | with_reducible refine Sr.nil ?_ | with_reducible refine S.seq ?_ | with_reducible refine S.reg ?_ | (with_reducible apply T.ofRet) | fail)
    refine Sr.front ml ?_
    refine Sr.front pl ?_
    refine T.call rfl rfl (image_spec hk4) ?_
    rintro _ _ ⟨wa, wc, rfl, rfl⟩
    repeat' (first | ((with_reducible apply T.asn); apply rfl; apply rfl) | with_reducible refine Sr.nil ?_ | with_reducible refine S.seq ?_ | with_reducible refine S.block ?_ | with_reducible refine S.reg ?_ | (with_reducible apply T.ofRet) | fail)
    refine S.frontR la ?_
    refine S.loopE 1 [0, 1, 5, 6, 7, 8, 11, 12, 13] (fun R b' μ H' e => ∃ (j : Nat) (zs : List UInt8), H' = .row la lc 5 1 (imageL k4).length (zs.map bV) :: R ∧ e = (14, .int .i64 j) :: b' ∧ (j ≤ (imageL k4).length ∧ zs.length = (imageL k4).length) ∧ μ = (imageL k4).length - j) rfl rfl ?_ _ _ ⟨0, imageL k4, rfl, rfl, ⟨by omega, rfl⟩, rfl⟩ (by repeat' first | exact trivial | refine And.intro rfl ?_)
    rintro _ _ _ ⟨j, zs, rfl, rfl, ⟨hj1, hz⟩, rfl⟩ ih2
    repeat' (first | ((with_reducible apply T.mv); apply rfl; apply rfl) | ((with_reducible apply T.asn); apply rfl; apply rfl) | ((with_reducible apply T.len); apply rfl; apply rfl) | ((with_reducible apply T.lss); apply rfl; apply rfl; apply rfl) | ((with_reducible apply T.addI); apply rfl; apply rfl; omega; apply rfl) | ((with_reducible apply T.ixN); apply rfl; apply rfl; infer_instance; omega; (first | omega | (simp only [List.length_map]; omega) | (simp; omega)); apply rfl) | ((with_reducible apply T.storeE); apply rfl; apply rfl; infer_instance; (first | omega | (simp only [List.length_map]; omega) | (simp; omega)); apply rfl) | with_reducible refine Sr.nil ?_ | with_reducible refine S.seq ?_ | with_reducible refine S.block ?_ | with_reducible refine S.reg ?_ | with_reducible refine S.skip ?_ | with_reducible refine S.inBlock ?_ | ((with_reducible apply S.exit); apply rfl) | ((with_reducible apply S.condQ); apply rfl; all_goals (intro _; try (exfalso; omega))) | fail)
    · exact ih2 _ _ _ _ ⟨j + 1, zs.set j 1, by rw [List.map_set]; rfl, rfl, ⟨by omega, by simpa using hz⟩, rfl⟩ (by omega) (by repeat' first | exact trivial | refine And.intro rfl ?_)
    clear ih2
    refine S.loopE 1 [0, 1, 5, 6, 7, 8, 12, 13] (fun R b' μ H' e => ∃ (j : Nat) (zs : List UInt8) (la : Option Addr) (lc : Nat), H' = .row la lc 5 1 ((imageL k4).length + j) (zs.map bV) :: R ∧ e = (15, .slice la ((imageL k4).length + j) lc) :: (16, .int .i64 j) :: b' ∧ (j ≤ 80 ∧ zs.length = (imageL k4).length + j) ∧ μ = 80 - j) rfl rfl ?_ _ _ ⟨0, zs, la, lc, rfl, rfl, ⟨by omega, hz⟩, rfl⟩ (by repeat' first | exact trivial | refine And.intro rfl ?_)
    rintro _ _ _ ⟨j3, zs3, la3, lc3, rfl, rfl, ⟨hj3, hz3⟩, rfl⟩ ih3
    repeat' (first | ((with_reducible apply T.mv); apply rfl; apply rfl) | ((with_reducible apply T.asn); apply rfl; apply rfl) | ((with_reducible apply T.lss); apply rfl; apply rfl; apply rfl) | ((with_reducible apply T.addI); apply rfl; apply rfl; omega; apply rfl) | ((with_reducible apply T.bs); apply rfl; apply rfl; apply rfl; apply rfl; apply rfl; apply rfl; intro nb) | ((with_reducible apply T.append); apply rfl; apply rfl; infer_instance; (first | rfl | (simp; done)); (first | rfl | (simp; done)); apply rfl; apply rfl; (constructor <;> omega); apply rfl; intro na nc) | with_reducible refine Sr.nil ?_ | with_reducible refine S.seq ?_ | with_reducible refine S.block ?_ | with_reducible refine S.reg ?_ | with_reducible refine S.skip ?_ | with_reducible refine S.inBlock ?_ | ((with_reducible apply S.exit); apply rfl) | ((with_reducible apply S.condQ); apply rfl; all_goals (intro _; try (exfalso; omega))) | fail)
    · exact ih3 _ _ _ _ ⟨j3 + 1, zs3 ++ [2], na, nc, by rw [List.map_append]; rfl, rfl, ⟨by omega, by simp; omega⟩, rfl⟩ (by omega) (by repeat' first | exact trivial | refine And.intro rfl ?_)
    obtain rfl : j3 = 80 := by omega
    clear ih3
    refine T.call rfl rfl (same_eq inferInstance inferInstance (by omega)) ?_
    rintro _ _ ⟨rfl, rfl⟩
    repeat' (first | ((with_reducible apply T.mv); apply rfl; apply rfl) | ((with_reducible apply T.notB); apply rfl; apply rfl) | ((with_reducible apply T.ung); apply rfl) | (with_reducible apply T.ofRet) | fail)
    refine Sr.front ma ?_
    refine Sr.front pa ?_
    refine T.call rfl rfl (image_spec hk4) ?_
    rintro _ _ ⟨va, vc, rfl, rfl⟩
    repeat' (first | ((with_reducible apply T.mv); apply rfl; apply rfl) | ((with_reducible apply T.ung); apply rfl) | (with_reducible apply T.ofRet) | fail)
    refine T.call rfl rfl (same_eq inferInstance inferInstance (by omega)) ?_
    rintro _ _ ⟨rfl, rfl⟩
    repeat' (first | ((with_reducible apply T.mv); apply rfl; apply rfl) | ((with_reducible apply T.asn); apply rfl; apply rfl) | ((with_reducible apply T.len); apply rfl; apply rfl) | ((with_reducible apply T.neq); apply rfl; apply rfl; apply rfl) | ((with_reducible apply T.addI); apply rfl; apply rfl; omega; apply rfl) | ((with_reducible apply T.notB); apply rfl; apply rfl) | ((with_reducible apply T.pickF); apply rfl; apply rfl; apply rfl) | with_reducible refine Sr.nil ?_ | with_reducible refine S.reg ?_ | with_reducible refine S.skip ?_ | with_reducible refine S.inBlock ?_ | ((with_reducible apply T.ung); apply rfl) | (with_reducible apply T.ofRet) | ((with_reducible apply S.condQ); apply rfl; all_goals (intro _; try (exfalso; omega))) | fail)
    refine S.front ml ?_
    refine S.front pl ?_
    refine S.front mb ?_
    refine S.front pb ?_
    exact S.sublist (ih _ _ _ _ ⟨i + 1, k4, k3, rfl, rfl, ⟨by omega, hk4, hk3⟩, rfl⟩ (by omega) (by repeat' first | exact trivial | refine And.intro rfl ?_)) (by ((repeat (first | dsimp only [List.set_cons_zero] | dsimp only [List.set_cons_succ])); repeat' first | exact PSub.refl _ | exact PSub.nil | ((with_reducible apply PSub.take); (repeat' first | (with_reducible exact pick_hd) | (with_reducible apply pick_tl))) | (with_reducible apply PSub.drop) | ((apply PSub.take); (repeat' first | exact pick_hd | (apply pick_tl)))))
  · repeat' (first | ((with_reducible apply T.mv); apply rfl; apply rfl) | ((with_reducible apply T.asn); apply rfl; apply rfl) | ((with_reducible apply T.len); apply rfl; apply rfl) | ((with_reducible apply T.lss); apply rfl; apply rfl; apply rfl) | with_reducible refine Sr.nil ?_ | with_reducible refine S.seq ?_ | with_reducible refine S.reg ?_ | ((with_reducible apply S.exit); apply rfl) | ((with_reducible apply T.retW); apply rfl) | ((with_reducible apply S.condQ); apply rfl; all_goals (intro _; try (exfalso; omega))) | fail)
    exact ⟨_, PSub.refl _, rfl⟩
end Go.Proofs.Ytcojlgkfkifhmaa
