/- The walk of the statement ReplayPlays. -/
import Derived.Test.YtcojlgkfkifhmaaRepF2
/- maps -/
namespace Go.Proofs.Ytcojlgkfkifhmaa
open Sg Go.IntWalk
set_option maxRecDepth 100000
set_option maxHeartbeats 2000000
/-- Two images that are looked at at the end. -/
structure Lt where
  wa : Option Addr
  wc : Nat
  va : Option Addr
  vc : Nat
  bs : List UInt8
instance : Inhabited Lt := ⟨⟨none, 0, none, 0, []⟩⟩
abbrev lateV (x : Lt) : List Value := [.slice x.wa x.bs.length x.wc]
abbrev wantV (x : Lt) : List Value := [.slice x.va x.bs.length x.vc]
def lts : List Lt → List Res
  | [] => []
  | x :: r => .row x.wa x.wc 5 1 x.bs.length (x.bs.map bV) :: .row x.va x.vc 5 1 x.bs.length (x.bs.map bV) :: lts r
theorem lts_rd {F : World} {M : List Nat} {x : Lt} : ∀ {l : List Lt}, x ∈ l → Rd F M (lts l) x.wa (x.bs.map bV) ∧ Rd F M (lts l) x.va (x.bs.map bV)
  | y :: r, h => by
    unfold lts
    rcases List.mem_cons.1 h with rfl | h
    · exact ⟨inferInstance, inferInstance⟩
    · obtain ⟨h1, h2⟩ := lts_rd (F := F) (M := M) h
      exact ⟨inferInstance, inferInstance⟩
theorem lts_len {x : Lt} {k : Bk} (h : x.bs = imageL k) (hk : k.ok) : x.bs.length ≤ 1000000000000000 := by
  have := image_le hk
  rw [h]
  omega
theorem plays_walk {F : World} {ac bc : Nat} {a b : Option Addr} {l : List UInt8} {xs : List OpR} [hA : ∀ H, Rd F [] H a (l.map bV)] [hB : ∀ H, Rd F [] H b (xs.flatMap opV)] (hl : l.length ≤ 1000000000000000) (hc : l.length ≤ ac) (hx : Ops xs) (hxl : xs.length ≤ 3518437208883) :
    Meets Try.prog 5 [.slice a l.length ac, .slice b xs.length bc] F [] [] (fun e _ => e = .returned (.bool true)) := by
  refine Meets.enter Try.func5 rfl rfl ?_
  refine S.nilrow 30 1 ?_
  refine S.nilrow 30 1 ?_
  repeat' (first | ((with_reducible apply T.mv); apply rfl; apply rfl) | ((with_reducible apply T.asn); apply rfl; apply rfl) | with_reducible refine Sr.nil ?_ | with_reducible refine S.seq ?_ | with_reducible refine S.reg ?_ | fail)
  refine T.call rfl rfl (begin_spec (l := l) hl hc) ?_
  rintro _ _ (⟨rfl, rfl⟩ | ⟨q, mb, pm, aa, ac2, k, all, hm, rfl, rfl⟩)
  · repeat' (first | ((with_reducible apply T.eqlP0); apply rfl; apply rfl) | ((with_reducible apply T.mv); apply rfl; apply rfl) | ((with_reducible apply T.asn); apply rfl; apply rfl) | ((with_reducible apply T.extract); apply rfl; apply rfl; apply rfl) | ((with_reducible apply T.notB); apply rfl; apply rfl) | ((with_reducible apply T.pickT); apply rfl; apply rfl; apply rfl) | ((with_reducible apply T.pickF); apply rfl; apply rfl; apply rfl) | with_reducible refine Sr.nil ?_ | with_reducible refine S.seq ?_ | with_reducible refine S.reg ?_ | ((with_reducible apply T.ung); apply rfl) | ((with_reducible apply T.skip); apply rfl; apply rfl; apply rfl) | ((with_reducible apply S.condT); apply rfl) | ((with_reducible apply T.retW); apply rfl) | (with_reducible apply T.ofRet) | fail)
    exact ⟨_, PSub.refl _, rfl⟩
  · repeat' (first | ((with_reducible apply T.eqlP); apply rfl; apply rfl) | ((with_reducible apply T.mv); apply rfl; apply rfl) | ((with_reducible apply T.asn); apply rfl; apply rfl) | ((with_reducible apply T.extract); apply rfl; apply rfl; apply rfl) | ((with_reducible apply T.notB); apply rfl; apply rfl) | ((with_reducible apply T.pickF); apply rfl; apply rfl; apply rfl) | with_reducible refine Sr.nil ?_ | with_reducible refine S.seq ?_ | with_reducible refine S.block ?_ | with_reducible refine S.reg ?_ | with_reducible refine S.skip ?_ | ((with_reducible apply T.ung); apply rfl) | ((with_reducible apply S.condF); apply rfl) | (with_reducible apply T.ofRet) | fail)
    refine S.loopE 6 [1, 6] (fun R b' μ H' e => ∃ (i q mb : Nat) (k : Bk) (all : Ents) (aa : Option Addr) (ac2 : Nat) (ll : List Lt) (la wa : Option Addr) (lc wc : Nat) (X : List Res), X = lts ll.reverse ∧ H' = .blk q (bkV mb k) 63 :: bkM mb k :: .blk pm (mdV aa all.length ac2 k.has k.last) 81 :: .row aa ac2 85 2 all.length (all.flatMap enV) :: .row la lc 30 1 ll.length (ll.flatMap lateV) :: .row wa wc 30 1 ll.length (ll.flatMap wantV) :: X ∧ e = (5, .pointer (some ⟨q, 0, none⟩)) :: (8, .slice la ll.length lc) :: (9, .slice wa ll.length wc) :: (10, .int .i64 i) :: b' ∧ (i ≤ xs.length ∧ ll.length ≤ i ∧ MInv k all ∧ ∀ x ∈ ll, x.bs.length ≤ 1000000000000000) ∧ μ = xs.length - i) rfl rfl ?_ _ _ ⟨0, q, mb, k, all, aa, ac2, [], none, none, 0, 0, [], rfl, rfl, rfl, ⟨by omega, Nat.le_refl _, hm, fun x hx => absurd hx List.not_mem_nil⟩, rfl⟩ (by repeat' first | exact trivial | refine And.intro rfl ?_)
    clear q mb k all aa ac2 hm
    rintro _ _ _ ⟨i, q, mb, k, all, aa, ac2, ll, la, wa, lc, wc, _, rfl, rfl, rfl, ⟨hi, hli, hm, hls⟩, rfl⟩ ih
    have hk := hm.inv.good
    have hin := image_le hk.ok
    have hal := hm.len
    by_cases h1 : i < xs.length
    · obtain ⟨hj, ht, hw⟩ := hx.at h1
      repeat' (first | ((with_reducible apply T.mv); apply rfl; apply rfl) | ((with_reducible apply T.len); apply rfl; apply rfl) | ((with_reducible apply T.lss); apply rfl; apply rfl; apply rfl) | with_reducible refine Sr.nil ?_ | with_reducible refine S.seq ?_ | with_reducible refine S.reg ?_ | fail)
      refine S.condP rfl (fun _ => ?_) (fun h => absurd h1 (by omega))
      repeat' (first | with_reducible refine S.skip ?_ | fail)
      refine S.seq ?_
      refine S.block ?_
      refine S.seq ?_
      refine S.cut (fun H' e' => ∃ q mb, H' = .blk q (bkV mb k) 63 :: bkM mb k :: .blk pm (mdV aa all.length ac2 k.has k.last) 81 :: .row aa ac2 85 2 all.length (all.flatMap enV) :: .row la lc 30 1 ll.length (ll.flatMap lateV) :: .row wa wc 30 1 ll.length (ll.flatMap wantV) :: lts ll.reverse ∧ e' = [(1, .slice b xs.length bc), (5, .pointer (some ⟨q, 0, none⟩)), (6, .pointer (some ⟨pm, 0, none⟩)), (8, .slice la ll.length lc), (9, .slice wa ll.length wc), (10, .int .i64 i)]) ?_ ?_
      · intro k' hrest
        repeat' (first | ((with_reducible apply T.mv); apply rfl; apply rfl) | ((with_reducible apply T.eql); apply rfl; apply rfl; apply rfl) | ((with_reducible apply T.ixF); apply rfl; apply rfl; infer_instance; exact (fun _ => rfl); apply rfl; omega; omega; apply rfl) | ((with_reducible apply T.fieldAddrF); apply rfl; infer_instance; exact (fun _ => rfl); apply rfl; omega; apply rfl) | ((with_reducible apply T.loadF); apply rfl; apply rfl; infer_instance; exact (fun _ => rfl); apply rfl; exact getD_some (by omega); apply rfl; apply rfl) | with_reducible refine Sr.nil ?_ | with_reducible refine S.seq ?_ | with_reducible refine S.reg ?_ | with_reducible refine S.skip ?_ | ((with_reducible apply S.condQ); apply rfl; all_goals (intro _; try (exfalso; omega))) | fail)
        · refine Sr.front mb ?_
          refine Sr.front q ?_
          refine T.call rfl rfl (image_spec hk.ok) ?_
          rintro _ _ ⟨ia, ic, rfl, rfl⟩
          refine Sr.capR (ad := ia) inferInstance fun hwc => ?_
          skip
          refine T.call rfl rfl (open_image hk hwc) ?_
          rintro _ _ ⟨q2, mb2, rfl, rfl⟩
          repeat' (first | ((with_reducible apply T.eqlP); apply rfl; apply rfl) | ((with_reducible apply T.mv); apply rfl; apply rfl) | ((with_reducible apply T.asn); apply rfl; apply rfl) | ((with_reducible apply T.neq); apply rfl; apply rfl; apply rfl) | ((with_reducible apply T.extract); apply rfl; apply rfl; apply rfl) | ((with_reducible apply T.pickF); apply rfl; apply rfl; apply rfl) | with_reducible refine Sr.nil ?_ | with_reducible refine S.seq ?_ | with_reducible refine S.reg ?_ | with_reducible refine S.skip ?_ | ((with_reducible apply T.ung); apply rfl) | ((with_reducible apply S.condF); apply rfl) | (with_reducible apply T.ofRet) | fail)
          exact S.sublist (hrest _ _ _ ⟨q2, mb2, rfl, rfl⟩ (by repeat' first | exact trivial | refine And.intro rfl ?_)) (by ((repeat (first | dsimp only [List.set_cons_zero] | dsimp only [List.set_cons_succ])); repeat' first | exact PSub.refl _ | exact PSub.nil | ((with_reducible apply PSub.take); (repeat' first | (with_reducible exact pick_hd) | (with_reducible apply pick_tl))) | (with_reducible apply PSub.drop) | ((apply PSub.take); (repeat' first | exact pick_hd | (apply pick_tl)))))
        · exact hrest _ _ _ ⟨q, mb, rfl, rfl⟩ (by repeat' first | exact trivial | refine And.intro rfl ?_)
      clear q mb
      rintro _ _ ⟨q, mb, rfl, rfl⟩
      by_cases h4 : (xs.getD i default).kind = 4 ∧ i % 2 = 1
      · obtain ⟨h4, h5⟩ := h4
        repeat' (first | ((with_reducible apply T.remI64 (n := 2)); apply rfl; apply rfl; omega; apply rfl) | ((with_reducible apply T.mv); apply rfl; apply rfl) | ((with_reducible apply T.eql); apply rfl; apply rfl; apply rfl) | ((with_reducible apply T.ixF); apply rfl; apply rfl; infer_instance; exact (fun _ => rfl); apply rfl; omega; omega; apply rfl) | ((with_reducible apply T.fieldAddrF); apply rfl; infer_instance; exact (fun _ => rfl); apply rfl; omega; apply rfl) | ((with_reducible apply T.loadF); apply rfl; apply rfl; infer_instance; exact (fun _ => rfl); apply rfl; exact getD_some (by omega); apply rfl; apply rfl) | ((with_reducible apply T.pickT); apply rfl; apply rfl; apply rfl) | with_reducible refine Sr.nil ?_ | with_reducible refine S.seq ?_ | with_reducible refine S.reg ?_ | ((with_reducible apply T.ung); apply rfl) | ((with_reducible apply S.condQ); apply rfl; all_goals (intro _; try (exfalso; omega))) | ((with_reducible apply T.gcase); apply rfl; apply rfl; all_goals (intro _; try (exfalso; omega))) | fail)
        refine Sr.front mb ?_
        refine Sr.front q ?_
        refine T.call rfl rfl (image_spec hk.ok) ?_
        rintro _ _ ⟨ia, ic, rfl, rfl⟩
        repeat' (first | ((with_reducible apply T.mv); apply rfl; apply rfl) | ((with_reducible apply T.asn); apply rfl; apply rfl) | ((with_reducible apply T.bs); apply rfl; apply rfl; apply rfl; apply rfl; apply rfl; apply rfl; intro nb) | ((with_reducible apply T.append); apply rfl; apply rfl; infer_instance; (first | rfl | (simp; done)); (first | rfl | (simp; done)); apply rfl; apply rfl; (constructor <;> omega); apply rfl; intro na nc) | with_reducible refine Sr.nil ?_ | with_reducible refine S.seq ?_ | with_reducible refine S.reg ?_ | (with_reducible apply T.ofRet) | fail)
        revert na nc
        intro na1 nc1
        refine T.call rfl rfl (mimage_spec (k := k) (all := all) (aa := aa) (ac := ac2) (by omega) hk.ok hm.kept) ?_
        rintro _ _ ⟨va, vc, rfl, rfl⟩
        repeat' (first | ((with_reducible apply T.mv); apply rfl; apply rfl) | ((with_reducible apply T.asn); apply rfl; apply rfl) | ((with_reducible apply T.addI); apply rfl; apply rfl; omega; apply rfl) | ((with_reducible apply T.bs); apply rfl; apply rfl; apply rfl; apply rfl; apply rfl; apply rfl; intro nb) | ((with_reducible apply T.append); apply rfl; apply rfl; infer_instance; (first | rfl | (simp; done)); (first | rfl | (simp; done)); apply rfl; apply rfl; (constructor <;> omega); apply rfl; intro na nc) | with_reducible refine Sr.nil ?_ | with_reducible refine S.reg ?_ | ((with_reducible apply S.exit); apply rfl) | (with_reducible apply T.ofRet) | fail)
        have hll : (ll ++ [(⟨ia, ic, va, vc, imageL k⟩ : Lt)]).length = ll.length + 1 := by simp
        have e1 : ll.flatMap lateV ++ [Value.slice ia (imageL k).length ic] = (ll ++ [(⟨ia, ic, va, vc, imageL k⟩ : Lt)]).flatMap lateV := by simp
        have e2 : ll.flatMap wantV ++ [Value.slice va (imageL k).length vc] = (ll ++ [(⟨ia, ic, va, vc, imageL k⟩ : Lt)]).flatMap wantV := by simp
        rw [e1, e2, ← hll]
        refine S.sublist (ih _ _ _ _ ⟨i + 1, q, mb, k, all, aa, ac2, ll ++ [⟨ia, ic, va, vc, imageL k⟩], na1, na, nc1, nc, .row ia ic 5 1 (imageL k).length ((imageL k).map bV) :: .row va vc 5 1 (imageL k).length ((imageL k).map bV) :: lts ll.reverse, by rw [List.reverse_append]; rfl, rfl, rfl, ⟨by omega, by rw [hll]; omega, hm, fun x hx => ?_⟩, rfl⟩ (by omega) (by repeat' first | exact trivial | refine And.intro rfl ?_)) (by ((repeat (first | dsimp only [List.set_cons_zero] | dsimp only [List.set_cons_succ])); repeat' first | exact PSub.refl _ | exact PSub.nil | ((with_reducible apply PSub.take); (repeat' first | (with_reducible exact pick_hd) | (with_reducible apply pick_tl))) | (with_reducible apply PSub.drop) | ((apply PSub.take); (repeat' first | exact pick_hd | (apply pick_tl)))))
        rcases List.mem_append.1 hx with hx | hx
        · exact hls x hx
        · rw [List.mem_singleton] at hx
          subst hx
          exact lts_len (k := k) rfl hk.ok
      · repeat' (first | ((with_reducible apply T.remI64 (n := 2)); apply rfl; apply rfl; omega; apply rfl) | ((with_reducible apply T.mv); apply rfl; apply rfl) | ((with_reducible apply T.eql); apply rfl; apply rfl; apply rfl) | ((with_reducible apply T.ixF); apply rfl; apply rfl; infer_instance; exact (fun _ => rfl); apply rfl; omega; omega; apply rfl) | ((with_reducible apply T.fieldAddrF); apply rfl; infer_instance; exact (fun _ => rfl); apply rfl; omega; apply rfl) | ((with_reducible apply T.loadF); apply rfl; apply rfl; infer_instance; exact (fun _ => rfl); apply rfl; exact getD_some (by omega); apply rfl; apply rfl) | ((with_reducible apply T.loadFN); apply rfl; apply rfl; infer_instance; exact (fun _ => rfl); apply rfl; exact getD_some (by omega); apply rfl) | ((with_reducible apply T.pickT); apply rfl; apply rfl; apply rfl) | ((with_reducible apply T.pickF); apply rfl; apply rfl; apply rfl) | with_reducible refine Sr.nil ?_ | with_reducible refine S.seq ?_ | with_reducible refine S.reg ?_ | with_reducible refine S.skip ?_ | ((with_reducible apply T.ung); apply rfl) | ((with_reducible apply T.skip); apply rfl; apply rfl; apply rfl) | ((with_reducible apply S.condF); apply rfl) | ((with_reducible apply S.condQ); apply rfl; all_goals (intro _; try (exfalso; omega))) | ((with_reducible apply T.gcase); apply rfl; apply rfl; all_goals (intro _; try (exfalso; omega))) | fail)
        all_goals (refine T.call rfl rfl (plays_spec hm hj ht hw) ?_)
        all_goals (rintro _ _ ⟨k2, all2, aa2, ac3, hm2, rfl, rfl⟩)
        all_goals (repeat' (first | ((with_reducible apply T.mv); apply rfl; apply rfl) | ((with_reducible apply T.asn); apply rfl; apply rfl) | ((with_reducible apply T.addI); apply rfl; apply rfl; omega; apply rfl) | ((with_reducible apply T.notB); apply rfl; apply rfl) | with_reducible refine Sr.nil ?_ | with_reducible refine S.reg ?_ | with_reducible refine S.skip ?_ | with_reducible refine S.inBlock ?_ | ((with_reducible apply S.condF); apply rfl) | (with_reducible apply T.ofRet) | fail))
        all_goals exact ih _ _ _ _ ⟨i + 1, q, mb, k2, all2, aa2, ac3, ll, la, wa, lc, wc, _, rfl, rfl, rfl, ⟨by omega, by omega, hm2, hls⟩, rfl⟩ (by omega) (by repeat' first | exact trivial | refine And.intro rfl ?_)
    · obtain rfl : i = xs.length := by omega
      clear ih
      repeat' (first | ((with_reducible apply T.mv); apply rfl; apply rfl) | ((with_reducible apply T.asn); apply rfl; apply rfl) | ((with_reducible apply T.len); apply rfl; apply rfl) | ((with_reducible apply T.lss); apply rfl; apply rfl; apply rfl) | with_reducible refine Sr.nil ?_ | with_reducible refine S.seq ?_ | with_reducible refine S.block ?_ | with_reducible refine S.reg ?_ | ((with_reducible apply S.exit); apply rfl) | ((with_reducible apply S.condQ); apply rfl; all_goals (intro _; try (exfalso; omega))) | fail)
      refine S.loopE 0 [5, 6, 8, 9] (fun R b' μ H' e => ∃ (j : Nat), H' = R ∧ e = (14, .int .i64 j) :: b' ∧ j ≤ ll.length ∧ μ = ll.length - j) rfl rfl ?_ _ _ ⟨0, rfl, rfl, by omega, rfl⟩ (by repeat' first | exact trivial | refine And.intro rfl ?_)
      rintro _ _ _ ⟨j, rfl, rfl, hj, rfl⟩ ih
      by_cases h2 : j < ll.length
      · have hmem : ll.getD j default ∈ ll := by
          rw [List.getD_eq_getElem?_getD, List.getElem?_eq_getElem h2]
          exact List.getElem_mem h2
        have hbl := hls _ hmem
        obtain ⟨i1, i2⟩ := lts_rd (F := F) (M := []) (List.mem_reverse.2 hmem)
        have n1 : ∀ {X : List Res} [Rd F [] X (ll.getD j default).wa ((ll.getD j default).bs.map bV)] [Rd F [] X (ll.getD j default).va ((ll.getD j default).bs.map bV)], Meets Try.prog 14 [.slice (ll.getD j default).wa (ll.getD j default).bs.length (ll.getD j default).wc, .slice (ll.getD j default).va (ll.getD j default).bs.length (ll.getD j default).vc] F [] X (fun e H' => e = .returned (.bool true) ∧ H' = X) := same_eq inferInstance inferInstance hbl
        repeat' (first | ((with_reducible apply T.mv); apply rfl; apply rfl) | ((with_reducible apply T.len); apply rfl; apply rfl) | ((with_reducible apply T.lss); apply rfl; apply rfl; apply rfl) | with_reducible refine Sr.nil ?_ | with_reducible refine S.seq ?_ | with_reducible refine S.block ?_ | with_reducible refine S.reg ?_ | with_reducible refine S.skip ?_ | ((with_reducible apply S.condQ); apply rfl; all_goals (intro _; try (exfalso; omega))) | fail)
        ((with_reducible apply S.draw); (case Hs => exact []); (case es => exact  [8]); (case n => exact  10); (case hn => rfl))
        repeat' (first | (refine T.call rfl rfl (by with_reducible exact n1) ?_; rintro _ _ ⟨rfl, rfl⟩) | ((with_reducible apply T.mv); apply rfl; apply rfl) | ((with_reducible apply T.asn); apply rfl; apply rfl) | ((with_reducible apply T.addI); apply rfl; apply rfl; omega; apply rfl) | ((with_reducible apply T.ixF); apply rfl; apply rfl; infer_instance; exact (fun _ => rfl); apply rfl; omega; omega; apply rfl) | ((with_reducible apply T.loadF); apply rfl; apply rfl; infer_instance; exact (fun _ => rfl); apply rfl; exact getD_some (by omega); apply rfl; apply rfl) | ((with_reducible apply T.notB); apply rfl; apply rfl) | with_reducible refine Sr.nil ?_ | with_reducible refine S.reg ?_ | with_reducible refine S.skip ?_ | with_reducible refine S.inBlock ?_ | ((with_reducible apply S.condF); apply rfl) | (with_reducible apply T.ofRet) | ((with_reducible apply SA.qn); apply rfl; apply rfl; apply rfl; apply rfl; kernel_rfl) | ((with_reducible apply SA.qsn); apply rfl; apply rfl; apply rfl; kernel_rfl; (first | exact fun _ h => h | exact fun _ h => St.psub h (by ((repeat (first | dsimp only [List.set_cons_zero] | dsimp only [List.set_cons_succ])); repeat' first | exact PSub.refl _ | exact PSub.nil | ((with_reducible apply PSub.take); (repeat' first | (with_reducible exact pick_hd) | (with_reducible apply pick_tl))) | (with_reducible apply PSub.drop) | ((apply PSub.take); (repeat' first | exact pick_hd | (apply pick_tl))))))) | ((with_reducible apply SA.en); apply rfl; apply rfl; kernel_rfl) | ((with_reducible apply SA.done); apply rfl; kernel_rfl) | ((with_reducible apply SK.intro); (first | exact fun _ h => h | exact fun _ h => St.psub h (by ((repeat (first | dsimp only [List.set_cons_zero] | dsimp only [List.set_cons_succ])); repeat' first | exact PSub.refl _ | exact PSub.nil | ((with_reducible apply PSub.take); (repeat' first | (with_reducible exact pick_hd) | (with_reducible apply pick_tl))) | (with_reducible apply PSub.drop) | ((apply PSub.take); (repeat' first | exact pick_hd | (apply pick_tl))))))) | fail)
        all_goals exact ih _ _ _ _ ⟨j + 1, rfl, rfl, by omega, rfl⟩ (by omega) (by repeat' first | exact trivial | refine And.intro rfl ?_)
      · obtain rfl : j = ll.length := by omega
        clear ih
        repeat' (first | ((with_reducible apply T.mv); apply rfl; apply rfl) | ((with_reducible apply T.len); apply rfl; apply rfl) | ((with_reducible apply T.lss); apply rfl; apply rfl; apply rfl) | ((with_reducible apply T.buildL); apply rfl; apply rfl; apply rfl) | with_reducible refine Sr.nil ?_ | with_reducible refine S.seq ?_ | with_reducible refine S.reg ?_ | ((with_reducible apply S.exit); apply rfl) | ((with_reducible apply S.condQ); apply rfl; all_goals (intro _; try (exfalso; omega))) | fail)
        refine T.call rfl rfl (plays_spec (x := ⟨3, [], 0, 0⟩) hm (by decide) (by decide) (by decide)) ?_
        rintro _ _ ⟨k2, all2, aa2, ac3, hm2, rfl, rfl⟩
        repeat' (first | ((with_reducible apply T.mv); apply rfl; apply rfl) | ((with_reducible apply T.buildL); apply rfl; apply rfl; apply rfl) | ((with_reducible apply T.ung); apply rfl) | (with_reducible apply T.ofRet) | fail)
        refine T.call rfl rfl (plays_spec (x := ⟨4, [], 0, 0⟩) hm2 (by decide) (by decide) (by decide)) ?_
        rintro _ _ ⟨k3, all3, aa3, ac4, hm3, rfl, rfl⟩
        repeat' (first | ((with_reducible apply T.asn); apply rfl; apply rfl) | ((with_reducible apply T.pickT); apply rfl; apply rfl; apply rfl) | with_reducible refine Sr.nil ?_ | ((with_reducible apply T.retW); apply rfl) | (with_reducible apply T.ofRet) | fail)
        exact ⟨_, PSub.refl _, rfl⟩
end Go.Proofs.Ytcojlgkfkifhmaa
