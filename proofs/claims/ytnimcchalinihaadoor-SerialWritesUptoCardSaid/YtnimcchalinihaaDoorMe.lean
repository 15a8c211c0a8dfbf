/- Texts put together by a program: GenA RefA RefB DecQ RefI. -/
import Derived.Test.YtnimcchalinihaaDoorMd
import Derived.Test.YtnimcchalinihaaDoorMc
import Derived.Test.YtnimcchalinihaaDoorMb
import Derived.Test.YtnimcchalinihaaDoorMa
/- The walk of the program's General. -/
namespace Go.Proofs.YtnimcchalinihaaDoor
open Sg Go.IntWalk
set_option maxRecDepth 100000
set_option maxHeartbeats 4000000
/-- The library's constant of lengths holds some number. -/
def MaxL (F : World) (M : List Nat) : Prop := ∃ m : Int, ∀ H, Rd F M H (some ⟨2, 0, none⟩) [.int .i64 m]
theorem MaxL.cell {F : World} {M : List Nat} (h : MaxL F M) : ∃ m : Int, ∀ w H, St F M w H → w.cell? ⟨2, 0, none⟩ = some (.int .i64 m) := by
  obtain ⟨m, hm⟩ := h
  refine ⟨m, fun w H hw => ?_⟩
  obtain ⟨ad, h1, h2⟩ := (hm H).h w hw 0 _ rfl
  simp only [Option.some.injEq] at h1
  subst h1
  simpa [addr_add] using h2
theorem split46_spec {F : World} {M : List Nat} {H : List Res} (hm : MaxL F M) (bs : List UInt8) (h : bs.length < 4294967281) :
    Meets Tryd.prog 15 [sV bs, sV [46]] F M H (fun e H' => ∃ b, e = .returned (.slice (some ⟨b, 0, none⟩) (pieces 46 bs).length (pieces 46 bs).length) ∧ H' = .blk b ((pieces 46 bs).map sV) 9 :: H) := fun w hw => by
  obtain ⟨m, hm⟩ := hm.cell
  refine (Tryd.strings_Split (ByteArray.mk bs.toArray) (ByteArray.mk #[46]) m w h (hm w H hw) (by decide)).mono fun e w' ⟨h1, h2⟩ => ?_
  have hsz : Lib.countB (ByteArray.mk bs.toArray) (ByteArray.mk #[46]) = Lib.count bs [46] := rfl
  have hmap : ((Lib.splitB (ByteArray.mk #[46]) 0 (Lib.countB (ByteArray.mk bs.toArray) (ByteArray.mk #[46])) (ByteArray.mk bs.toArray)).map Value.string) = (pieces 46 bs).map sV := by
    rw [← split_pieces, Lib.split, ← hsz]
    have := Lib.splitB_data (ByteArray.mk #[46]) 0 (Lib.countB (ByteArray.mk bs.toArray) (ByteArray.mk #[46])) (ByteArray.mk bs.toArray)
    rw [← this, List.map_map]
    exact List.map_congr_left fun s _ => sV_of s
  have hlen := Lib.splitB_all (ByteArray.mk #[46]) (by decide) 0 _ (ByteArray.mk bs.toArray) rfl
  have hl2 : (pieces 46 bs).length = Lib.countB (ByteArray.mk bs.toArray) (ByteArray.mk #[46]) + 1 := by
    have h3 := congrArg List.length hmap
    rw [List.length_map, List.length_map] at h3
    rw [← h3, hlen]
  rw [hmap] at h2
  subst h2
  rw [hl2]
  exact ⟨_, ⟨w.heap.size, h1, rfl⟩, hw.alloc _ _⟩
section
variable {F : World} {M : List Nat} {H : List Res} {ta : Option Addr} {tc n : Nat} {ts : List (List UInt8)}
theorem text_spec {k t : List UInt8} : Meets Tryd.prog 17 [sV k, sV t] F M H (fun e H' => e = .returned (.agg ⟨ndV (strNd k t)⟩) ∧ H' = H) := by
  refine Meets.enter Tryd.func17 rfl rfl ?_
  repeat' (first | (apply T.mv; apply rfl; apply rfl) | (apply T.buildL; apply rfl; apply rfl; apply rfl) | (apply T.storeW; apply rfl; apply rfl; infer_instance; (first | rfl | (simp only [List.length_append, List.length_map, List.length_set, List.length_replicate, List.length_cons, List.length_nil]; first | done | omega)); (first | rfl | (simp only [List.length_append, List.length_map, List.length_set, List.length_replicate, List.length_cons, List.length_nil]; first | done | omega)); (first | rfl | (repeat' first | apply all_nV | apply all_bV | apply all_iV | rfl | apply all_app))) | (apply T.alloc; apply rfl; intro nb) | with_reducible refine Sr.nil ?_ | with_reducible refine S.seq ?_ | with_reducible refine S.reg ?_ | (apply T.retC; apply rfl; ((repeat' first | apply RV.nil | (apply RV.tmp; apply rfl) | (apply RV.cellW; apply rfl; apply rfl; infer_instance; (first | rfl | (simp only [List.length_append, List.length_map, List.length_set, List.length_replicate, List.length_cons, List.length_nil]; first | done | omega))) | (apply RV.cellP; apply rfl; apply rfl; infer_instance; apply rfl))); apply rfl) | fail)
  exact ⟨_, PSub.drop (PSub.refl _), rfl, rfl⟩
theorem general_spec (hT : Tabs F M) (hm : MaxL F M) [Rd F M H ta (ts.map sV)] (hn : ts.length = n) (hl : tot ts ≤ 1048576) (hl2 : n ≤ 1048576) :
    Meets Tryd.prog 6 [.slice ta n tc] F M H (fun e H' => e = .returned (.tuple ⟨[sV (gnX ts).1, .int .i64 (gnX ts).2]⟩) ∧ H' = H) := by
  subst hn
  refine Meets.enter Tryd.func6 rfl rfl ?_
  unfold gnX
  by_cases h0 : ts.length < 1
  · rw [if_pos (.inl h0)]
    repeat' (first | (apply T.mv; apply rfl; apply rfl) | (apply T.asn; apply rfl; apply rfl) | (apply T.len; apply rfl; apply rfl) | (apply T.lss; apply rfl; apply rfl; apply rfl) | (apply T.pickT; apply rfl; apply rfl; apply rfl) | with_reducible refine Sr.nil ?_ | with_reducible refine S.seq ?_ | with_reducible refine S.reg ?_ | (apply T.skip; apply rfl; (first | with_reducible rfl | decide); apply rfl) | (apply S.condTV; apply rfl; (first | with_reducible rfl | decide)) | (apply T.gcase; apply rfl; apply rfl; all_goals (intro _; try (exfalso; first | omega | with_reducible contradiction))) | (apply T.retW; apply rfl) | fail)
    exact ⟨_, PSub.refl _, rfl, rfl⟩
  by_cases h16 : 16 < ts.length
  · rw [if_pos (.inr h16)]
    repeat' (first | (apply T.mv; apply rfl; apply rfl) | (apply T.asn; apply rfl; apply rfl) | (apply T.len; apply rfl; apply rfl) | (apply T.lss; apply rfl; apply rfl; apply rfl) | (apply T.gtr; apply rfl; apply rfl; apply rfl) | (apply T.pickF; apply rfl; apply rfl; apply rfl) | with_reducible refine Sr.nil ?_ | with_reducible refine S.seq ?_ | with_reducible refine S.reg ?_ | (apply T.ungV; apply rfl; (first | with_reducible rfl | decide)) | (apply S.condQ; apply rfl; all_goals (intro _; try (exfalso; first | omega | with_reducible contradiction))) | (apply T.gcase; apply rfl; apply rfl; all_goals (intro _; try (exfalso; first | omega | with_reducible contradiction))) | (apply T.retW; apply rfl) | fail)
    exact ⟨_, PSub.refl _, rfl, rfl⟩
  rw [if_neg (fun h => h.elim h0 h16)]
  generalize hQ : (if ∀ s ∈ ts, okT (payOf ts) s then printX Lib.validD (genV ts (payOf ts)) else (([], 140) : List UInt8 × Int)) = Q
  repeat' (first | (apply T.mv; apply rfl; apply rfl) | (apply T.asn; apply rfl; apply rfl) | (apply T.len; apply rfl; apply rfl) | (apply T.lss; apply rfl; apply rfl; apply rfl) | (apply T.gtr; apply rfl; apply rfl; apply rfl) | (apply T.pickF; apply rfl; apply rfl; apply rfl) | (apply T.buildL; apply rfl; apply rfl; apply rfl) | (apply T.bsL; apply rfl; apply rfl; apply rfl; apply rfl; apply rfl; intro nb) | with_reducible refine Sr.nil ?_ | with_reducible refine S.seq ?_ | with_reducible refine S.block ?_ | with_reducible refine S.reg ?_ | with_reducible refine S.skip ?_ | (apply T.ungV; apply rfl; (first | with_reducible rfl | decide)) | (apply S.condQ; apply rfl; all_goals (intro _; try (exfalso; first | omega | with_reducible contradiction))) | (apply T.gcase; apply rfl; apply rfl; all_goals (intro _; try (exfalso; first | omega | with_reducible contradiction))) | fail)
  refine S.rowOfN (n := 3) (sz := 6) rfl (by decide) ?_
  refine S.loopE 1 [22, 23] (fun R b' μ H' e => ∃ (i k : Nat) (va : Option Addr) (vc : Nat) (x : Nd), H' = .row va vc 39 6 k ((genH ts.length x ++ (ts.take i).flatMap tri).flatMap ndV) :: R ∧ e = (4, .slice va k vc) :: (24, .int .i64 i) :: b' ∧
    (i ≤ ts.length ∧ k = 3 + 3 * i ∧ (∀ s ∈ ts.take i, okT (payOf ts) s) ∧ (i = 0 ∨ x = strNd nPay (payOf ts))) ∧ μ = ts.length - i) rfl rfl ?_ _ _ ⟨0, 3, some ⟨nb, 0, none⟩, 3, nd 0, rfl, rfl, ⟨Nat.zero_le _, rfl, by simp, .inl rfl⟩, rfl⟩ (by repeat' first | exact trivial | refine And.intro rfl ?_)
  rintro _ _ _ ⟨i, k, va, vc, x, rfl, rfl, ⟨c1, c2, c3, c4⟩, rfl⟩ ih
  refine S.rowSome (by omega) ?_
  rintro g rfl
  by_cases c5 : i < ts.length
  · obtain ⟨s, hs⟩ : ∃ s, s = ts.getD i [] := ⟨_, rfl⟩
    have hmem : s ∈ ts := by rw [hs, List.getD_eq_getElem?_getD, List.getElem?_eq_getElem c5, Option.getD_some]; exact List.getElem_mem c5
    have hsl := tot_mem hmem
    have htk : ts.take (i + 1) = ts.take i ++ [s] := by rw [List.take_succ_eq_append_getElem c5, hs, List.getD_eq_getElem?_getD, List.getElem?_eq_getElem c5, Option.getD_some]
    have hlen : (genH ts.length x ++ (ts.take i).flatMap tri).length = k := by
      have h10 : (genH ts.length x).length = 3 := rfl
      rw [List.length_append, tris_len, List.length_take, Nat.min_eq_left c1]
      omega
    have hg1 : (genH ts.length x ++ (ts.take i).flatMap tri)[1]? = some x := rfl
    have hbad : ¬ okT (payOf ts) s → Q = ([], 140) := fun h => by rw [← hQ, if_neg (fun h2 => h (h2 s hmem))]
    have hset : (genH ts.length x ++ (ts.take i).flatMap tri).set 1 (strNd nPay (pc s 1)) = genH ts.length (strNd nPay (pc s 1)) ++ (ts.take i).flatMap tri := rfl
    have happ : (genH ts.length (strNd nPay (pc s 1)) ++ (ts.take i).flatMap tri).flatMap ndV ++ (tri s).flatMap ndV = (genH ts.length (strNd nPay (pc s 1)) ++ (ts.take (i + 1)).flatMap tri).flatMap ndV := by
      rw [htk, List.flatMap_append, List.flatMap_append, List.flatMap_append, List.flatMap_append]
      simp
    repeat' (first | (apply T.loadS; apply rfl; infer_instance; (first | omega | (simp only [List.length_map]; omega)); apply rfl) | (apply T.mv; apply rfl; apply rfl) | (apply T.asn; apply rfl; apply rfl) | (apply T.lss; apply rfl; apply rfl; apply rfl) | (apply T.ixN; apply rfl; apply rfl; infer_instance; omega; (first | omega | (simp only [List.length_map]; omega) | (simp; omega)); apply rfl) | with_reducible refine Sr.nil ?_ | with_reducible refine S.seq ?_ | with_reducible refine S.block ?_ | with_reducible refine S.reg ?_ | with_reducible refine S.skip ?_ | (apply S.condQ; apply rfl; all_goals (intro _; try (exfalso; first | omega | with_reducible contradiction))) | fail)
    rw [← hs]
    refine T.call rfl rfl (split46_spec hm s (by omega)) ?_
    rintro _ _ ⟨b, rfl, rfl⟩
    repeat' (first | (apply T.asn; apply rfl; apply rfl) | with_reducible refine Sr.nil ?_ | (with_reducible apply T.ofRet) | fail)
    refine S.seq ?_
    refine S.cut (fun H' e' => H' = .blk b ((pieces 46 s).map sV) 9 :: .row (some ⟨g, 0, none⟩) vc 39 6 k ((genH ts.length x ++ (ts.take i).flatMap tri).flatMap ndV) :: H ∧
      e' = [(4, .slice (some ⟨g, 0, none⟩) k vc), (7, .slice (some ⟨b, 0, none⟩) 3 3), (22, .slice ta ts.length tc), (23, .int .i64 ts.length), (24, .int .i64 i)] ∧ okT (payOf ts) s) ?_ ?_
    · intro k' hrest
      by_cases h3 : (pieces 46 s).length = 3
      · have hp := pieces3 h3
        have hp1 : ((pieces 46 s).map sV)[1]? = some (sV (pc s 1)) := by rw [hp]; rfl
        have hp0 : ((pieces 46 s).map sV)[0]? = some (sV (pc s 0)) := by rw [hp]; rfl
        have hp2 : ((pieces 46 s).map sV)[2]? = some (sV (pc s 2)) := by rw [hp]; rfl
        have hpm : ((pieces 46 s).map sV).length = 3 := by rw [List.length_map, h3]
        rw [h3]
        cases hv : Lib.validD s with
        | false =>
          have hq := hbad (fun h => by rw [okT, hv] at h; cases h.2.1)
          subst hq
          repeat' (first | with_reducible refine S.seq ?_ | fail)
          (apply S.draw; (case Hs => exact .blk b ((pieces 46 s).map sV) 9 :: .row (some ⟨g, 0, none⟩) vc 39 6 k ((genH ts.length x ++ (ts.take i).flatMap tri).flatMap ndV) :: H); (case es => exact  [5]); (case n => exact  22); (case hn => rfl))
          repeat' (first | (apply Sr.same; refine T.call rfl rfl (validString_spec hT (by omega)) ?_; rintro _ _ ⟨rfl, rfl⟩; rw [hv]) | (apply T.mv; apply rfl; apply rfl) | (apply T.asn; apply rfl; apply rfl) | (apply T.len; apply rfl; apply rfl) | (apply T.neq; apply rfl; apply rfl; apply rfl) | (apply T.notB; apply rfl; apply rfl) | (apply T.pickT; apply rfl; apply rfl; apply rfl) | (apply T.pickF; apply rfl; apply rfl; apply rfl) | with_reducible refine Sr.nil ?_ | with_reducible refine S.seq ?_ | with_reducible refine S.reg ?_ | (apply T.ungV; apply rfl; (first | with_reducible rfl | decide)) | (apply S.condTV; apply rfl; (first | with_reducible rfl | decide)) | (apply T.retW; apply rfl) | (with_reducible apply T.ofRet) | (apply SA.gxu; apply rfl; apply rfl; apply rfl; apply rfl; kernel_rfl; apply rfl) | (apply SA.gxv; apply rfl; apply rfl; apply rfl; apply rfl; apply rfl; kernel_rfl; apply rfl) | (apply SA.gz; apply rfl; apply rfl; apply rfl; apply rfl; (first | with_reducible rfl | decide); apply rfl; kernel_rfl) | (apply SA.qn; apply rfl; apply rfl; apply rfl; apply rfl; kernel_rfl) | (apply SA.en; apply rfl; apply rfl; kernel_rfl) | (apply SA.done; apply rfl; kernel_rfl) | (apply SK.intro; (first | exact fun _ h => h | exact fun _ h => St.psub h (by ((repeat (first | dsimp only [List.set_cons_zero] | dsimp only [List.set_cons_succ])); repeat' first | exact PSub.refl _ | exact PSub.nil | (apply PSub.take; (repeat' first | (with_reducible exact pick_hd) | (with_reducible apply pick_tl))) | (with_reducible apply PSub.drop) | ((apply PSub.take); (repeat' first | exact pick_hd | (apply pick_tl))))))) | fail)
          skip
          exact ⟨_, PSub.drop (PSub.drop (PSub.refl _)), rfl, rfl⟩
        | true =>
          by_cases hi0 : i = 0
          · have hpay : pc s 1 = payOf ts := by rw [hs, hi0]; rfl
            have hgt : decide ((0 : Int) < (i : Int)) = false := decide_eq_false (by omega)
            repeat' (first | with_reducible refine S.seq ?_ | fail)
            (apply S.draw; (case Hs => exact .blk b ((pieces 46 s).map sV) 9 :: .row (some ⟨g, 0, none⟩) vc 39 6 k ((genH ts.length x ++ (ts.take i).flatMap tri).flatMap ndV) :: H); (case es => exact  [5]); (case n => exact  22); (case hn => rfl))
            repeat' (first | (apply Sr.same; refine T.call rfl rfl (validString_spec hT (by omega)) ?_; rintro _ _ ⟨rfl, rfl⟩; rw [hv]) | (apply T.gtr; apply rfl; apply rfl; apply rfl; rw [hgt]) | (apply T.mv; apply rfl; apply rfl) | (apply T.len; apply rfl; apply rfl) | (apply T.neq; apply rfl; apply rfl; apply rfl) | (apply T.notB; apply rfl; apply rfl) | (apply T.pickF; apply rfl; apply rfl; apply rfl) | with_reducible refine Sr.nil ?_ | with_reducible refine S.skip ?_ | (apply T.ungV; apply rfl; (first | with_reducible rfl | decide)) | (apply S.condFV; apply rfl; (first | with_reducible rfl | decide)) | (with_reducible apply T.ofRet) | (apply SA.gxv; apply rfl; apply rfl; apply rfl; apply rfl; apply rfl; kernel_rfl; apply rfl) | (apply SA.gz; apply rfl; apply rfl; apply rfl; apply rfl; (first | with_reducible rfl | decide); apply rfl; kernel_rfl) | (apply SA.qn; apply rfl; apply rfl; apply rfl; apply rfl; kernel_rfl) | (apply SA.en; apply rfl; apply rfl; kernel_rfl) | (apply SA.done; apply rfl; kernel_rfl) | (apply SK.intro; (first | exact fun _ h => h | exact fun _ h => St.psub h (by ((repeat (first | dsimp only [List.set_cons_zero] | dsimp only [List.set_cons_succ])); repeat' first | exact PSub.refl _ | exact PSub.nil | (apply PSub.take; (repeat' first | (with_reducible exact pick_hd) | (with_reducible apply pick_tl))) | (with_reducible apply PSub.drop) | ((apply PSub.take); (repeat' first | exact pick_hd | (apply pick_tl))))))) | fail)
            skip
            exact hrest _ _ _ ⟨rfl, rfl, h3, hv, hpay⟩ (by repeat' first | exact trivial | refine And.intro rfl ?_)
          · have hx := c4.resolve_left hi0
            have hgt : decide ((0 : Int) < (i : Int)) = true := decide_eq_true (by omega)
            have hxt : x.text = payOf ts := by rw [hx]; rfl
            by_cases hpay : pc s 1 = payOf ts
            · have hnq : decide (¬ pc s 1 = x.text) = false := by rw [hxt, hpay]; simp
              repeat' (first | with_reducible refine S.seq ?_ | fail)
              (apply S.draw; (case Hs => exact .blk b ((pieces 46 s).map sV) 9 :: .row (some ⟨g, 0, none⟩) vc 39 6 k ((genH ts.length x ++ (ts.take i).flatMap tri).flatMap ndV) :: H); (case es => exact  [5]); (case n => exact  22); (case hn => rfl))
              repeat' (first | (apply Sr.same; refine T.call rfl rfl (validString_spec hT (by omega)) ?_; rintro _ _ ⟨rfl, rfl⟩; rw [hv]) | (apply T.gtr; apply rfl; apply rfl; apply rfl; rw [hgt]) | (apply Sr.same; refine T.loadE (v := sV (pc s 1)) rfl rfl inferInstance hp1 rfl ?_) | (apply T.fieldAddrS; apply rfl; apply rfl) | (apply Sr.same; refine T.ixF (g := ndV) (sz := 6) (i := 1) (xs := genH ts.length x ++ (ts.take i).flatMap tri) rfl rfl inferInstance (fun _ => rfl) rfl (by omega) (by omega) rfl ?_) | (apply Sr.same; refine T.loadF (g := ndV) (v := sV x.text) rfl rfl inferInstance (fun _ => rfl) rfl hg1 rfl rfl ?_) | (apply T.sneq; apply rfl; apply rfl; apply rfl; rw [hnq]) | (apply T.mv; apply rfl; apply rfl) | (apply T.len; apply rfl; apply rfl) | (apply T.neq; apply rfl; apply rfl; apply rfl) | (apply T.ixC; apply rfl; infer_instance; omega; (first | omega | (simp only [List.length_map]; omega) | (simp; omega)); apply rfl) | (apply T.notB; apply rfl; apply rfl) | (apply T.pickT; apply rfl; apply rfl; apply rfl) | (apply T.pickF; apply rfl; apply rfl; apply rfl) | with_reducible refine Sr.nil ?_ | with_reducible refine S.skip ?_ | (apply T.ungV; apply rfl; (first | with_reducible rfl | decide)) | (apply S.condFV; apply rfl; (first | with_reducible rfl | decide)) | (with_reducible apply T.ofRet) | (apply SA.gz; apply rfl; apply rfl; apply rfl; apply rfl; (first | with_reducible rfl | decide); apply rfl; kernel_rfl) | (apply SA.gn; apply rfl; apply rfl; apply rfl; apply rfl; (first | with_reducible rfl | decide); apply rfl; kernel_rfl) | (apply SA.qn; apply rfl; apply rfl; apply rfl; apply rfl; kernel_rfl) | (apply SA.en; apply rfl; apply rfl; kernel_rfl) | (apply SA.done; apply rfl; kernel_rfl) | (apply SK.intro; (first | exact fun _ h => h | exact fun _ h => St.psub h (by ((repeat (first | dsimp only [List.set_cons_zero] | dsimp only [List.set_cons_succ])); repeat' first | exact PSub.refl _ | exact PSub.nil | (apply PSub.take; (repeat' first | (with_reducible exact pick_hd) | (with_reducible apply pick_tl))) | (with_reducible apply PSub.drop) | ((apply PSub.take); (repeat' first | exact pick_hd | (apply pick_tl))))))) | fail)
              skip
              exact hrest _ _ _ ⟨rfl, rfl, h3, hv, hpay⟩ (by repeat' first | exact trivial | refine And.intro rfl ?_)
            · have hq := hbad (fun h => hpay h.2.2)
              subst hq
              have hnq : decide (¬ pc s 1 = x.text) = true := by rw [hxt]; exact decide_eq_true hpay
              repeat' (first | with_reducible refine S.seq ?_ | fail)
              (apply S.draw; (case Hs => exact .blk b ((pieces 46 s).map sV) 9 :: .row (some ⟨g, 0, none⟩) vc 39 6 k ((genH ts.length x ++ (ts.take i).flatMap tri).flatMap ndV) :: H); (case es => exact  [5]); (case n => exact  22); (case hn => rfl))
              repeat' (first | (apply Sr.same; refine T.call rfl rfl (validString_spec hT (by omega)) ?_; rintro _ _ ⟨rfl, rfl⟩; rw [hv]) | (apply T.gtr; apply rfl; apply rfl; apply rfl; rw [hgt]) | (apply Sr.same; refine T.loadE (v := sV (pc s 1)) rfl rfl inferInstance hp1 rfl ?_) | (apply T.fieldAddrS; apply rfl; apply rfl) | (apply Sr.same; refine T.ixF (g := ndV) (sz := 6) (i := 1) (xs := genH ts.length x ++ (ts.take i).flatMap tri) rfl rfl inferInstance (fun _ => rfl) rfl (by omega) (by omega) rfl ?_) | (apply Sr.same; refine T.loadF (g := ndV) (v := sV x.text) rfl rfl inferInstance (fun _ => rfl) rfl hg1 rfl rfl ?_) | (apply T.sneq; apply rfl; apply rfl; apply rfl; rw [hnq]) | (apply T.mv; apply rfl; apply rfl) | (apply T.asn; apply rfl; apply rfl) | (apply T.len; apply rfl; apply rfl) | (apply T.neq; apply rfl; apply rfl; apply rfl) | (apply T.ixC; apply rfl; infer_instance; omega; (first | omega | (simp only [List.length_map]; omega) | (simp; omega)); apply rfl) | (apply T.notB; apply rfl; apply rfl) | (apply T.pickT; apply rfl; apply rfl; apply rfl) | (apply T.pickF; apply rfl; apply rfl; apply rfl) | with_reducible refine Sr.nil ?_ | with_reducible refine S.seq ?_ | with_reducible refine S.reg ?_ | (apply T.ungV; apply rfl; (first | with_reducible rfl | decide)) | (apply S.condTV; apply rfl; (first | with_reducible rfl | decide)) | (apply T.retW; apply rfl) | (with_reducible apply T.ofRet) | (apply SA.gz; apply rfl; apply rfl; apply rfl; apply rfl; (first | with_reducible rfl | decide); apply rfl; kernel_rfl) | (apply SA.gn; apply rfl; apply rfl; apply rfl; apply rfl; (first | with_reducible rfl | decide); apply rfl; kernel_rfl) | (apply SA.qn; apply rfl; apply rfl; apply rfl; apply rfl; kernel_rfl) | (apply SA.en; apply rfl; apply rfl; kernel_rfl) | (apply SA.done; apply rfl; kernel_rfl) | (apply SK.intro; (first | exact fun _ h => h | exact fun _ h => St.psub h (by ((repeat (first | dsimp only [List.set_cons_zero] | dsimp only [List.set_cons_succ])); repeat' first | exact PSub.refl _ | exact PSub.nil | (apply PSub.take; (repeat' first | (with_reducible exact pick_hd) | (with_reducible apply pick_tl))) | (with_reducible apply PSub.drop) | ((apply PSub.take); (repeat' first | exact pick_hd | (apply pick_tl))))))) | fail)
              skip
              exact ⟨_, PSub.drop (PSub.drop (PSub.refl _)), rfl, rfl⟩
      · have hq := hbad (fun h => h3 h.1)
        subst hq
        have hne : decide (¬ ((pieces 46 s).length : Int) = 3) = true := decide_eq_true (by omega)
        repeat' (first | with_reducible refine S.seq ?_ | fail)
        (apply S.draw; (case Hs => exact .blk b ((pieces 46 s).map sV) 9 :: .row (some ⟨g, 0, none⟩) vc 39 6 k ((genH ts.length x ++ (ts.take i).flatMap tri).flatMap ndV) :: H); (case es => exact  [5]); (case n => exact  22); (case hn => rfl))
        repeat' (first | (apply T.neq; apply rfl; apply rfl; apply rfl; rw [hne]) | (apply T.mv; apply rfl; apply rfl) | (apply T.asn; apply rfl; apply rfl) | (apply T.len; apply rfl; apply rfl) | (apply T.pickT; apply rfl; apply rfl; apply rfl) | with_reducible refine Sr.nil ?_ | with_reducible refine S.seq ?_ | with_reducible refine S.reg ?_ | (apply T.skip; apply rfl; (first | with_reducible rfl | decide); apply rfl) | (apply S.condTV; apply rfl; (first | with_reducible rfl | decide)) | (apply T.retW; apply rfl) | (apply SA.gxu; apply rfl; apply rfl; apply rfl; apply rfl; kernel_rfl; apply rfl) | (apply SA.gxv; apply rfl; apply rfl; apply rfl; apply rfl; apply rfl; kernel_rfl; apply rfl) | (apply SA.qn; apply rfl; apply rfl; apply rfl; apply rfl; kernel_rfl) | (apply SA.en; apply rfl; apply rfl; kernel_rfl) | (apply SA.done; apply rfl; kernel_rfl) | (apply SK.intro; (first | exact fun _ h => h | exact fun _ h => St.psub h (by ((repeat (first | dsimp only [List.set_cons_zero] | dsimp only [List.set_cons_succ])); repeat' first | exact PSub.refl _ | exact PSub.nil | (apply PSub.take; (repeat' first | (with_reducible exact pick_hd) | (with_reducible apply pick_tl))) | (with_reducible apply PSub.drop) | ((apply PSub.take); (repeat' first | exact pick_hd | (apply pick_tl))))))) | fail)
        skip
        exact ⟨_, PSub.drop (PSub.drop (PSub.refl _)), rfl, rfl⟩
    · rintro _ _ ⟨rfl, rfl, h3, hv, hpay⟩
      have hp := pieces3 h3
      have hpl := pieces3_len h3
      have hp0 : ((pieces 46 s).map sV)[0]? = some (sV (pc s 0)) := by rw [hp]; rfl
      have hp1 : ((pieces 46 s).map sV)[1]? = some (sV (pc s 1)) := by rw [hp]; rfl
      have hp2 : ((pieces 46 s).map sV)[2]? = some (sV (pc s 2)) := by rw [hp]; rfl
      have hpm : ((pieces 46 s).map sV).length = 3 := by rw [List.length_map, h3]
      have c3' : ∀ s' ∈ ts.take (i + 1), okT (payOf ts) s' := fun s' h => by
        rw [htk] at h
        rcases List.mem_append.1 h with h | h
        · exact c3 s' h
        · rw [List.mem_singleton.1 h]; exact ⟨h3, hv, hpay⟩
      clear hbad hQ c3
      repeat' (first | (apply Sr.same; refine T.loadE (v := sV (pc s 1)) rfl rfl inferInstance hp1 rfl ?_) | (apply T.mv; apply rfl; apply rfl) | (apply T.ixC; apply rfl; infer_instance; omega; (first | omega | (simp only [List.length_map]; omega) | (simp; omega)); apply rfl) | with_reducible refine S.seq ?_ | with_reducible refine S.reg ?_ | fail)
      refine T.call rfl rfl text_spec ?_
      rintro _ _ ⟨rfl, rfl⟩
      repeat' (first | (apply Sr.same; refine T.ixF (g := ndV) (sz := 6) (i := 1) (xs := genH ts.length x ++ (ts.take i).flatMap tri) rfl rfl inferInstance (fun _ => rfl) rfl (by omega) (by omega) rfl ?_) | (apply Sr.same; refine T.storeFN (g := ndV) (xs := genH ts.length x ++ (ts.take i).flatMap tri) (i := 1) (strNd nPay (pc s 1)) rfl rfl rfl inferInstance (fun _ => rfl) rfl (by omega) rfl ?_; rw [hset]) | with_reducible refine Sr.nil ?_ | (with_reducible apply T.ofRet) | fail)
      (apply S.draw; (case Hs => exact .blk b ((pieces 46 s).map sV) 9 :: H); (case es => exact  [5, 9, 10, 11]); (case n => exact  13); (case hn => rfl))
      repeat' (first | (apply Sr.same; refine T.loadE (v := sV (pc s 0)) rfl rfl inferInstance hp0 rfl ?_) | (apply Sr.same; refine T.loadE (v := sV (pc s 2)) rfl rfl inferInstance hp2 rfl ?_) | (apply Sr.same; refine T.call rfl rfl text_spec ?_; rintro _ _ ⟨rfl, rfl⟩) | (apply T.mv; apply rfl; apply rfl) | (apply T.asn; apply rfl; apply rfl) | (apply T.addI; apply rfl; apply rfl; omega; apply rfl) | (apply T.ixC; apply rfl; infer_instance; omega; (first | omega | (simp only [List.length_map]; omega) | (simp; omega)); apply rfl) | (apply T.buildL; apply rfl; apply rfl; apply rfl) | (apply T.bsL; apply rfl; apply rfl; apply rfl; apply rfl; apply rfl; intro nb) | (apply T.append; apply rfl; apply rfl; infer_instance; (first | rfl | (simp; done)); (first | rfl | (simp; done)); apply rfl; apply rfl; (constructor <;> omega); apply rfl; intro na nc) | with_reducible refine Sr.nil ?_ | with_reducible refine S.reg ?_ | with_reducible refine S.inBlock ?_ | (with_reducible apply T.ofRet) | (apply SA.qn; apply rfl; apply rfl; apply rfl; apply rfl; kernel_rfl) | (apply SA.qz; apply rfl; apply rfl; apply rfl; apply rfl; kernel_rfl) | (apply SA.qsn; apply rfl; apply rfl; apply rfl; kernel_rfl; (first | exact fun _ h => h | exact fun _ h => St.psub h (by ((repeat (first | dsimp only [List.set_cons_zero] | dsimp only [List.set_cons_succ])); repeat' first | exact PSub.refl _ | exact PSub.nil | (apply PSub.take; (repeat' first | (with_reducible exact pick_hd) | (with_reducible apply pick_tl))) | (with_reducible apply PSub.drop) | ((apply PSub.take); (repeat' first | exact pick_hd | (apply pick_tl))))))) | (apply SA.en; apply rfl; apply rfl; kernel_rfl) | (apply SA.done; apply rfl; kernel_rfl) | (apply SK.intro; (first | exact fun _ h => h | exact fun _ h => St.psub h (by ((repeat (first | dsimp only [List.set_cons_zero] | dsimp only [List.set_cons_succ])); repeat' first | exact PSub.refl _ | exact PSub.nil | (apply PSub.take; (repeat' first | (with_reducible exact pick_hd) | (with_reducible apply pick_tl))) | (with_reducible apply PSub.drop) | ((apply PSub.take); (repeat' first | exact pick_hd | (apply pick_tl))))))) | fail)
      skip
      refine S.sublist (H' := .row na nc 39 6 (k + 3) ((genH ts.length (strNd nPay (pc s 1)) ++ (ts.take (i + 1)).flatMap tri).flatMap ndV) :: H) ?_ (by rw [← happ]; exact PSub.drop (PSub.refl _))
      exact ih _ _ _ _ ⟨i + 1, k + 3, na, nc, strNd nPay (pc s 1), rfl, rfl, ⟨c5, by omega, c3', .inr (by rw [hpay])⟩, rfl⟩ (by omega) (by repeat' first | exact trivial | refine And.intro rfl ?_)
  · obtain rfl : i = ts.length := by omega
    rw [List.take_length] at c3 ⊢
    have hx := c4.resolve_left (by omega)
    subst hx
    rw [if_pos c3] at hQ
    rw [show genH ts.length (strNd nPay (payOf ts)) ++ ts.flatMap tri = genV ts (payOf ts) from rfl]
    have hlen := genV_len ts (payOf ts)
    have h3 : ∀ s ∈ ts, (pieces 46 s).length = 3 := fun s h => (c3 s h).1
    have hpl : (payOf ts).length ≤ 1048576 := by
      have hm0 : ts.getD 0 [] ∈ ts := by rw [List.getD_eq_getElem?_getD, List.getElem?_eq_getElem (by omega), Option.getD_some]; exact List.getElem_mem (by omega)
      have g1 := pieces3_len (h3 _ hm0)
      have g2 := tot_mem hm0
      show (pc (ts.getD 0 []) 1).length ≤ _
      omega
    have htx := genV_tx (B := 1048576) h3 (fun s h => Nat.le_trans (tot_mem h) hl) hpl (by omega)
    have hw := wL_gen (pay := payOf ts) h3
    repeat' (first | (apply T.mv; apply rfl; apply rfl) | (apply T.lss; apply rfl; apply rfl; apply rfl) | with_reducible refine Sr.nil ?_ | with_reducible refine S.seq ?_ | with_reducible refine S.reg ?_ | (apply S.exit; apply rfl) | (apply S.condQ; apply rfl; all_goals (intro _; try (exfalso; first | omega | with_reducible contradiction))) | fail)
    refine T.call rfl rfl (print_spec (v := genV ts (payOf ts)) hT (by omega) (by omega) (fun x hx => by
      obtain ⟨y1, y2, y3, y4⟩ := htx x hx
      exact ⟨fun h => absurd h y1, by omega, by omega, by omega⟩) (by omega)) ?_
    rintro _ _ ⟨rfl, rfl⟩
    rw [hQ]
    repeat' (first | (apply T.asn; apply rfl; apply rfl) | (apply T.extract; apply rfl; apply rfl; apply rfl) | with_reducible refine Sr.nil ?_ | (apply T.retW; apply rfl) | (with_reducible apply T.ofRet) | fail)
    exact ⟨_, PSub.drop (PSub.refl _), rfl, rfl⟩
end
end Go.Proofs.YtnimcchalinihaaDoor
/- The walks of the document's looks at bytes. -/
namespace Sg
/-- A byte at a place; -1 behind the end. -/
def byteI (t : List UInt8) (p : Nat) : Int := if p < t.length then (bAt t p : Nat) else -1
theorem byteI_lt {t : List UInt8} {p : Nat} (h : p < t.length) : byteI t p = (bAt t p : Nat) := if_pos h
theorem byteI_ge {t : List UInt8} {p : Nat} (h : ¬ p < t.length) : byteI t p = -1 := if_neg h
end Sg
namespace Go.Proofs.YtnimcchalinihaaDoor
open Sg Go.IntWalk
set_option maxRecDepth 100000
set_option maxHeartbeats 4000000
/-- What has been read, as the document keeps it. -/
abbrev goV (a : Nat) (l : Value) (s : List UInt8) (c b : Int) : List Value := [.int .i64 a, l, sV s, .int .i64 c, .int .i64 b]
abbrev noL : Value := .slice none 0 0
section
variable {F : World} {M : List Nat} {H : List Res} {t : List UInt8} {p : Nat}
theorem fault_spec {c b : Int} : Meets Tryd.prog 112 [.int .i64 c, .int .i64 b] F M H (fun e H' => e = .returned (.agg ⟨goV 0 noL [] c b⟩) ∧ H' = H) := by
  refine Meets.enter Tryd.func112 rfl rfl ?_
  repeat' (first | (apply T.mv; apply rfl; apply rfl) | (apply T.buildL; apply rfl; apply rfl; apply rfl) | (apply T.storeW; apply rfl; apply rfl; infer_instance; (first | rfl | (simp only [List.length_append, List.length_map, List.length_set, List.length_replicate, List.length_cons, List.length_nil]; first | done | omega)); (first | rfl | (simp only [List.length_append, List.length_map, List.length_set, List.length_replicate, List.length_cons, List.length_nil]; first | done | omega)); (first | rfl | (repeat' first | apply all_nV | apply all_bV | apply all_iV | rfl | apply all_app))) | (apply T.alloc; apply rfl; intro nb) | with_reducible refine Sr.nil ?_ | with_reducible refine S.seq ?_ | with_reducible refine S.reg ?_ | (apply T.retC; apply rfl; ((repeat' first | apply RV.nil | (apply RV.tmp; apply rfl) | (apply RV.cellW; apply rfl; apply rfl; infer_instance; (first | rfl | (simp only [List.length_append, List.length_map, List.length_set, List.length_replicate, List.length_cons, List.length_nil]; first | done | omega))) | (apply RV.cellP; apply rfl; apply rfl; infer_instance; apply rfl))); apply rfl) | fail)
  exact ⟨_, PSub.drop (PSub.refl _), rfl, rfl⟩
theorem byteAt_spec : Meets Tryd.prog 113 [sV t, .int .i64 p] F M H (fun e H' => e = .returned (.int .i64 (byteI t p)) ∧ H' = H) := by
  refine Meets.enter Tryd.func113 rfl rfl ?_
  by_cases h : p < t.length
  · rw [byteI_lt h]
    have hu := (t.getD p 0).toNat_lt
    repeat' (first | (apply T.slen; apply rfl; apply rfl) | (apply T.sidx; apply rfl; apply rfl; omega; apply rfl) | (apply T.mv; apply rfl; apply rfl) | (apply T.asn; apply rfl; apply rfl) | (apply T.geq; apply rfl; apply rfl; apply rfl) | (apply T.convI64; apply rfl; omega; apply rfl) | with_reducible refine Sr.nil ?_ | with_reducible refine S.seq ?_ | with_reducible refine S.reg ?_ | with_reducible refine S.skip ?_ | (apply S.condQ; apply rfl; all_goals (intro _; try (exfalso; first | omega | with_reducible contradiction))) | (apply T.retW; apply rfl) | fail)
    exact ⟨_, PSub.refl _, rfl, rfl⟩
  · rw [byteI_ge h]
    repeat' (first | (apply T.slen; apply rfl; apply rfl) | (apply T.mv; apply rfl; apply rfl) | (apply T.asn; apply rfl; apply rfl) | (apply T.geq; apply rfl; apply rfl; apply rfl) | with_reducible refine Sr.nil ?_ | with_reducible refine S.seq ?_ | with_reducible refine S.reg ?_ | (apply S.condQ; apply rfl; all_goals (intro _; try (exfalso; first | omega | with_reducible contradiction))) | (apply T.retW; apply rfl) | fail)
    exact ⟨_, PSub.refl _, rfl, rfl⟩
theorem bounds_spec {n : Nat} (h : n < 256) : Meets Tryd.prog 111 [.int .i64 n] F M H (fun e H' => e = .returned (.tuple ⟨match seqB n with
    | none => [.int .i64 (-1), .int .i64 0, .int .i64 0]
    | some (k, lo, hi) => [.int .i64 k, .int .i64 lo, .int .i64 hi]⟩) ∧ H' = H) := by
  refine Meets.enter Tryd.func111 rfl rfl ?_
  unfold seqB
  by_cases h1 : n < 194 ∨ 244 < n
  · rw [if_pos h1]
    by_cases h2 : n < 194
    · repeat' (first | (apply T.mv; apply rfl; apply rfl) | (apply T.asn; apply rfl; apply rfl) | (apply T.lss; apply rfl; apply rfl; apply rfl) | (apply T.pickT; apply rfl; apply rfl; apply rfl) | with_reducible refine Sr.nil ?_ | with_reducible refine S.seq ?_ | with_reducible refine S.block ?_ | with_reducible refine S.reg ?_ | (apply T.skip; apply rfl; (first | with_reducible rfl | decide); apply rfl) | (apply S.condTV; apply rfl; (first | with_reducible rfl | decide)) | (apply T.gcase; apply rfl; apply rfl; all_goals (intro _; try (exfalso; first | omega | with_reducible contradiction))) | (apply T.retW; apply rfl) | fail)
      exact ⟨_, PSub.refl _, rfl, rfl⟩
    · have h3 : 244 < n := by omega
      repeat' (first | (apply T.mv; apply rfl; apply rfl) | (apply T.asn; apply rfl; apply rfl) | (apply T.lss; apply rfl; apply rfl; apply rfl) | (apply T.gtr; apply rfl; apply rfl; apply rfl) | (apply T.pickF; apply rfl; apply rfl; apply rfl) | with_reducible refine Sr.nil ?_ | with_reducible refine S.seq ?_ | with_reducible refine S.block ?_ | with_reducible refine S.reg ?_ | (apply T.ungV; apply rfl; (first | with_reducible rfl | decide)) | (apply S.condQ; apply rfl; all_goals (intro _; try (exfalso; first | omega | with_reducible contradiction))) | (apply T.gcase; apply rfl; apply rfl; all_goals (intro _; try (exfalso; first | omega | with_reducible contradiction))) | (apply T.retW; apply rfl) | fail)
      exact ⟨_, PSub.refl _, rfl, rfl⟩
  rw [if_neg h1]
  have h2 : ¬ n < 194 := by omega
  have h3 : ¬ 244 < n := by omega
  clear h1
  by_cases h4 : n < 224
  · rw [if_pos h4]
    repeat' (first | (apply T.mv; apply rfl; apply rfl) | (apply T.asn; apply rfl; apply rfl) | (apply T.lss; apply rfl; apply rfl; apply rfl) | (apply T.gtr; apply rfl; apply rfl; apply rfl) | (apply T.pickF; apply rfl; apply rfl; apply rfl) | with_reducible refine Sr.nil ?_ | with_reducible refine S.seq ?_ | with_reducible refine S.block ?_ | with_reducible refine S.reg ?_ | (apply T.ungV; apply rfl; (first | with_reducible rfl | decide)) | (apply S.condQ; apply rfl; all_goals (intro _; try (exfalso; first | omega | with_reducible contradiction))) | (apply T.gcase; apply rfl; apply rfl; all_goals (intro _; try (exfalso; first | omega | with_reducible contradiction))) | (apply T.retW; apply rfl) | fail)
    exact ⟨_, PSub.refl _, rfl, rfl⟩
  rw [if_neg h4]
  by_cases h5 : n = 224
  · rw [if_pos h5]
    repeat' (first | (apply T.mv; apply rfl; apply rfl) | (apply T.asn; apply rfl; apply rfl) | (apply T.lss; apply rfl; apply rfl; apply rfl) | (apply T.gtr; apply rfl; apply rfl; apply rfl) | (apply T.eql; apply rfl; apply rfl; apply rfl) | (apply T.pickF; apply rfl; apply rfl; apply rfl) | with_reducible refine Sr.nil ?_ | with_reducible refine S.seq ?_ | with_reducible refine S.block ?_ | with_reducible refine S.reg ?_ | (apply T.ungV; apply rfl; (first | with_reducible rfl | decide)) | (apply S.condQ; apply rfl; all_goals (intro _; try (exfalso; first | omega | with_reducible contradiction))) | (apply T.gcase; apply rfl; apply rfl; all_goals (intro _; try (exfalso; first | omega | with_reducible contradiction))) | (apply T.retW; apply rfl) | fail)
    exact ⟨_, PSub.refl _, rfl, rfl⟩
  rw [if_neg h5]
  by_cases h6 : n = 237
  · rw [if_pos h6]
    repeat' (first | (apply T.mv; apply rfl; apply rfl) | (apply T.asn; apply rfl; apply rfl) | (apply T.lss; apply rfl; apply rfl; apply rfl) | (apply T.gtr; apply rfl; apply rfl; apply rfl) | (apply T.eql; apply rfl; apply rfl; apply rfl) | (apply T.pickF; apply rfl; apply rfl; apply rfl) | with_reducible refine Sr.nil ?_ | with_reducible refine S.seq ?_ | with_reducible refine S.block ?_ | with_reducible refine S.reg ?_ | (apply T.ungV; apply rfl; (first | with_reducible rfl | decide)) | (apply S.condQ; apply rfl; all_goals (intro _; try (exfalso; first | omega | with_reducible contradiction))) | (apply T.gcase; apply rfl; apply rfl; all_goals (intro _; try (exfalso; first | omega | with_reducible contradiction))) | (apply T.retW; apply rfl) | fail)
    exact ⟨_, PSub.refl _, rfl, rfl⟩
  rw [if_neg h6]
  by_cases h7 : n < 240
  · rw [if_pos h7]
    repeat' (first | (apply T.mv; apply rfl; apply rfl) | (apply T.asn; apply rfl; apply rfl) | (apply T.lss; apply rfl; apply rfl; apply rfl) | (apply T.gtr; apply rfl; apply rfl; apply rfl) | (apply T.eql; apply rfl; apply rfl; apply rfl) | (apply T.pickF; apply rfl; apply rfl; apply rfl) | with_reducible refine Sr.nil ?_ | with_reducible refine S.seq ?_ | with_reducible refine S.block ?_ | with_reducible refine S.reg ?_ | (apply T.ungV; apply rfl; (first | with_reducible rfl | decide)) | (apply S.condQ; apply rfl; all_goals (intro _; try (exfalso; first | omega | with_reducible contradiction))) | (apply T.gcase; apply rfl; apply rfl; all_goals (intro _; try (exfalso; first | omega | with_reducible contradiction))) | (apply T.retW; apply rfl) | fail)
    exact ⟨_, PSub.refl _, rfl, rfl⟩
  rw [if_neg h7]
  by_cases h8 : n = 240
  · rw [if_pos h8]
    repeat' (first | (apply T.mv; apply rfl; apply rfl) | (apply T.asn; apply rfl; apply rfl) | (apply T.lss; apply rfl; apply rfl; apply rfl) | (apply T.gtr; apply rfl; apply rfl; apply rfl) | (apply T.eql; apply rfl; apply rfl; apply rfl) | (apply T.pickF; apply rfl; apply rfl; apply rfl) | with_reducible refine Sr.nil ?_ | with_reducible refine S.seq ?_ | with_reducible refine S.block ?_ | with_reducible refine S.reg ?_ | (apply T.ungV; apply rfl; (first | with_reducible rfl | decide)) | (apply S.condQ; apply rfl; all_goals (intro _; try (exfalso; first | omega | with_reducible contradiction))) | (apply T.gcase; apply rfl; apply rfl; all_goals (intro _; try (exfalso; first | omega | with_reducible contradiction))) | (apply T.retW; apply rfl) | fail)
    exact ⟨_, PSub.refl _, rfl, rfl⟩
  rw [if_neg h8]
  by_cases h9 : n = 244
  · rw [if_pos h9]
    repeat' (first | (apply T.mv; apply rfl; apply rfl) | (apply T.asn; apply rfl; apply rfl) | (apply T.lss; apply rfl; apply rfl; apply rfl) | (apply T.gtr; apply rfl; apply rfl; apply rfl) | (apply T.eql; apply rfl; apply rfl; apply rfl) | (apply T.pickF; apply rfl; apply rfl; apply rfl) | with_reducible refine Sr.nil ?_ | with_reducible refine S.seq ?_ | with_reducible refine S.block ?_ | with_reducible refine S.reg ?_ | (apply T.ungV; apply rfl; (first | with_reducible rfl | decide)) | (apply S.condQ; apply rfl; all_goals (intro _; try (exfalso; first | omega | with_reducible contradiction))) | (apply T.gcase; apply rfl; apply rfl; all_goals (intro _; try (exfalso; first | omega | with_reducible contradiction))) | (apply T.retW; apply rfl) | fail)
    exact ⟨_, PSub.refl _, rfl, rfl⟩
  rw [if_neg h9]
  repeat' (first | (apply T.mv; apply rfl; apply rfl) | (apply T.asn; apply rfl; apply rfl) | (apply T.lss; apply rfl; apply rfl; apply rfl) | (apply T.gtr; apply rfl; apply rfl; apply rfl) | (apply T.eql; apply rfl; apply rfl; apply rfl) | (apply T.pickF; apply rfl; apply rfl; apply rfl) | with_reducible refine Sr.nil ?_ | with_reducible refine S.seq ?_ | with_reducible refine S.block ?_ | with_reducible refine S.reg ?_ | with_reducible refine S.skip ?_ | with_reducible refine S.inBlock ?_ | (apply T.ungV; apply rfl; (first | with_reducible rfl | decide)) | (apply S.condQ; apply rfl; all_goals (intro _; try (exfalso; first | omega | with_reducible contradiction))) | (apply T.gcase; apply rfl; apply rfl; all_goals (intro _; try (exfalso; first | omega | with_reducible contradiction))) | (apply T.retW; apply rfl) | fail)
  exact ⟨_, PSub.refl _, rfl, rfl⟩
end
end Go.Proofs.YtnimcchalinihaaDoor
/- The walks of the document's reader of JSON: bytes that belong together. -/
namespace Go.Proofs.YtnimcchalinihaaDoor
open Sg Go.IntWalk
set_option maxRecDepth 100000
set_option maxHeartbeats 4000000
section
variable {F : World} {M : List Nat} {H : List Res} {t : List UInt8} {p : Nat}
theorem seqB_le {c n lo hi : Nat} (h : seqB c = some (n, lo, hi)) : 1 ≤ n ∧ n ≤ 3 ∧ lo ≤ 255 ∧ hi ≤ 255 := by
  unfold seqB at h
  repeat' split at h
  all_goals (cases h; try omega)
theorem refSequence_spec (hp : p < t.length) (hl : t.length ≤ 1000000000) : Meets Tryd.prog 87 [sV t, .int .i64 p] F M H (fun e H' => e = .returned (.agg ⟨match sequX t p (t.getD p 0) with
    | .ok a _ => goV a noL ((t.drop p).take (a - p)) 0 0
    | .bad c b => goV 0 noL [] c b⟩) ∧ H' = H) := by
  refine Meets.enter Tryd.func87 rfl rfl ?_
  have hu := (t.getD p 0).toNat_lt
  have hu' : (t.getD p 0).toNat < 256 := hu
  repeat' (first | (apply T.sidx; apply rfl; apply rfl; omega; apply rfl) | (apply T.mv; apply rfl; apply rfl) | (apply T.convI64; apply rfl; omega; apply rfl) | (apply T.alloc; apply rfl; intro nb) | with_reducible refine Sr.nil ?_ | with_reducible refine S.seq ?_ | with_reducible refine S.reg ?_ | fail)
  refine T.call rfl rfl (bounds_spec hu') ?_
  cases hs : seqB (t.getD p 0).toNat with
  | none =>
    have hX : sequX t p (t.getD p 0) = .bad 32 p := by unfold sequX; rw [hs]
    rw [hX]
    rintro _ _ ⟨rfl, rfl⟩
    repeat' (first | (apply T.mv; apply rfl; apply rfl) | (apply T.asn; apply rfl; apply rfl) | (apply T.lss; apply rfl; apply rfl; apply rfl) | (apply T.extract; apply rfl; apply rfl; apply rfl) | with_reducible refine Sr.nil ?_ | with_reducible refine S.seq ?_ | with_reducible refine S.reg ?_ | (apply S.condTV; apply rfl; (first | with_reducible rfl | decide)) | (with_reducible apply T.ofRet) | fail)
    refine T.call rfl rfl fault_spec ?_
    rintro _ _ ⟨rfl, rfl⟩
    repeat' (first | (apply T.storeW; apply rfl; apply rfl; infer_instance; (first | rfl | (simp only [List.length_append, List.length_map, List.length_set, List.length_replicate, List.length_cons, List.length_nil]; first | done | omega)); (first | rfl | (simp only [List.length_append, List.length_map, List.length_set, List.length_replicate, List.length_cons, List.length_nil]; first | done | omega)); (first | rfl | (repeat' first | apply all_nV | apply all_bV | apply all_iV | rfl | apply all_app))) | with_reducible refine Sr.nil ?_ | (with_reducible apply T.ofRet) | (apply T.retC; apply rfl; ((repeat' first | apply RV.nil | (apply RV.tmp; apply rfl) | (apply RV.cellW; apply rfl; apply rfl; infer_instance; (first | rfl | (simp only [List.length_append, List.length_map, List.length_set, List.length_replicate, List.length_cons, List.length_nil]; first | done | omega))) | (apply RV.cellP; apply rfl; apply rfl; infer_instance; apply rfl))); apply rfl) | fail)
    exact ⟨_, PSub.drop (PSub.refl _), rfl, rfl⟩
  | some y =>
    obtain ⟨n, lo0, hi0⟩ := y
    have hX : sequX t p (t.getD p 0) = seqX t p n (p + 1) lo0 hi0 := by unfold sequX; rw [hs]
    obtain ⟨n1, n2, n3, n4⟩ := seqB_le hs
    rw [hX]
    generalize hQ : seqX t p n (p + 1) lo0 hi0 = Q
    rintro _ _ ⟨rfl, rfl⟩
    repeat' (first | (apply T.mv; apply rfl; apply rfl) | (apply T.asn; apply rfl; apply rfl) | (apply T.lss; apply rfl; apply rfl; apply rfl) | (apply T.extract; apply rfl; apply rfl; apply rfl) | with_reducible refine Sr.nil ?_ | with_reducible refine S.seq ?_ | with_reducible refine S.block ?_ | with_reducible refine S.reg ?_ | with_reducible refine S.skip ?_ | (apply S.condQ; apply rfl; all_goals (intro _; try (exfalso; first | omega | with_reducible contradiction))) | (with_reducible apply T.ofRet) | fail)
    refine S.loopE 0 [0, 1, 4, 5] (fun R b' μ H' e => ∃ i lo hi : Nat, H' = R ∧ e = (6, .int .i64 lo) :: (7, .int .i64 hi) :: (8, .int .i64 i) :: b' ∧ (1 ≤ i ∧ i ≤ n + 1 ∧ p + i ≤ t.length ∧ seqX t p (n + 1 - i) (p + i) lo hi = Q) ∧ μ = n + 1 - i) rfl rfl ?_ _ _ ⟨1, lo0, hi0, rfl, rfl, ⟨Nat.le_refl _, by omega, by omega, hQ⟩, rfl⟩ (by repeat' first | exact trivial | refine And.intro rfl ?_)
    rintro _ _ _ ⟨i, lo, hi, rfl, rfl, ⟨h1, h2, h3, h4⟩, rfl⟩ ih
    by_cases h5 : i ≤ n
    · obtain ⟨k, hk⟩ : ∃ k, n + 1 - i = k + 1 := ⟨n - i, by omega⟩
      rw [hk, seqX] at h4
      have e1 : (p : Int) + (i : Int) = ((p + i : Nat) : Int) := by omega
      repeat' (first | (apply T.addI; apply rfl; apply rfl; omega; apply rfl; rw [e1]) | (apply T.mv; apply rfl; apply rfl) | (apply T.leq; apply rfl; apply rfl; apply rfl) | with_reducible refine Sr.nil ?_ | with_reducible refine S.seq ?_ | with_reducible refine S.block ?_ | with_reducible refine S.reg ?_ | with_reducible refine S.skip ?_ | (apply S.condQ; apply rfl; all_goals (intro _; try (exfalso; first | omega | with_reducible contradiction))) | fail)
      refine T.call rfl rfl byteAt_spec ?_
      rintro _ _ ⟨rfl, rfl⟩
      by_cases h6 : p + i < t.length
      · have hc : t[p + i]? = some (t.getD (p + i) 0) := by simp [List.getD, h6]
        have hb : bAt t (p + i) = (t.getD (p + i) 0).toNat := rfl
        rw [byteI_lt h6]
        rw [hc] at h4
        by_cases h7 : bAt t (p + i) < lo ∨ hi < bAt t (p + i)
        · have h8 : Q = .bad 32 p := by rw [← h4]; exact if_pos h7
          rw [h8]
          by_cases h9 : bAt t (p + i) < lo
          · repeat' (first | (apply T.mv; apply rfl; apply rfl) | (apply T.asn; apply rfl; apply rfl) | (apply T.lss; apply rfl; apply rfl; apply rfl) | (apply T.pickT; apply rfl; apply rfl; apply rfl) | with_reducible refine Sr.nil ?_ | with_reducible refine S.seq ?_ | with_reducible refine S.reg ?_ | with_reducible refine S.skip ?_ | (apply T.skip; apply rfl; (first | with_reducible rfl | decide); apply rfl) | (apply S.condTV; apply rfl; (first | with_reducible rfl | decide)) | (apply S.condQ; apply rfl; all_goals (intro _; try (exfalso; first | omega | with_reducible contradiction))) | (apply T.gcase; apply rfl; apply rfl; all_goals (intro _; try (exfalso; first | omega | with_reducible contradiction))) | (with_reducible apply T.ofRet) | fail)
            refine T.call rfl rfl fault_spec ?_
            rintro _ _ ⟨rfl, rfl⟩
            repeat' (first | (apply T.storeW; apply rfl; apply rfl; infer_instance; (first | rfl | (simp only [List.length_append, List.length_map, List.length_set, List.length_replicate, List.length_cons, List.length_nil]; first | done | omega)); (first | rfl | (simp only [List.length_append, List.length_map, List.length_set, List.length_replicate, List.length_cons, List.length_nil]; first | done | omega)); (first | rfl | (repeat' first | apply all_nV | apply all_bV | apply all_iV | rfl | apply all_app))) | with_reducible refine Sr.nil ?_ | (with_reducible apply T.ofRet) | (apply T.retC; apply rfl; ((repeat' first | apply RV.nil | (apply RV.tmp; apply rfl) | (apply RV.cellW; apply rfl; apply rfl; infer_instance; (first | rfl | (simp only [List.length_append, List.length_map, List.length_set, List.length_replicate, List.length_cons, List.length_nil]; first | done | omega))) | (apply RV.cellP; apply rfl; apply rfl; infer_instance; apply rfl))); apply rfl) | fail)
            exact ⟨_, PSub.drop (PSub.refl _), rfl, rfl⟩
          · have h10 := h7.resolve_left h9
            repeat' (first | (apply T.mv; apply rfl; apply rfl) | (apply T.asn; apply rfl; apply rfl) | (apply T.lss; apply rfl; apply rfl; apply rfl) | (apply T.gtr; apply rfl; apply rfl; apply rfl) | (apply T.pickF; apply rfl; apply rfl; apply rfl) | with_reducible refine Sr.nil ?_ | with_reducible refine S.seq ?_ | with_reducible refine S.reg ?_ | with_reducible refine S.skip ?_ | (apply T.ungV; apply rfl; (first | with_reducible rfl | decide)) | (apply S.condQ; apply rfl; all_goals (intro _; try (exfalso; first | omega | with_reducible contradiction))) | (apply T.gcase; apply rfl; apply rfl; all_goals (intro _; try (exfalso; first | omega | with_reducible contradiction))) | (with_reducible apply T.ofRet) | fail)
            refine T.call rfl rfl fault_spec ?_
            rintro _ _ ⟨rfl, rfl⟩
            repeat' (first | (apply T.storeW; apply rfl; apply rfl; infer_instance; (first | rfl | (simp only [List.length_append, List.length_map, List.length_set, List.length_replicate, List.length_cons, List.length_nil]; first | done | omega)); (first | rfl | (simp only [List.length_append, List.length_map, List.length_set, List.length_replicate, List.length_cons, List.length_nil]; first | done | omega)); (first | rfl | (repeat' first | apply all_nV | apply all_bV | apply all_iV | rfl | apply all_app))) | with_reducible refine Sr.nil ?_ | (with_reducible apply T.ofRet) | (apply T.retC; apply rfl; ((repeat' first | apply RV.nil | (apply RV.tmp; apply rfl) | (apply RV.cellW; apply rfl; apply rfl; infer_instance; (first | rfl | (simp only [List.length_append, List.length_map, List.length_set, List.length_replicate, List.length_cons, List.length_nil]; first | done | omega))) | (apply RV.cellP; apply rfl; apply rfl; infer_instance; apply rfl))); apply rfl) | fail)
            exact ⟨_, PSub.drop (PSub.refl _), rfl, rfl⟩
        · have h8 : seqX t p k (p + i + 1) 128 191 = Q := by rw [← h4]; exact (if_neg h7).symm
          have h9 : ¬ bAt t (p + i) < lo := fun h => h7 (.inl h)
          have h10 : ¬ hi < bAt t (p + i) := fun h => h7 (.inr h)
          repeat' (first | (apply T.mv; apply rfl; apply rfl) | (apply T.asn; apply rfl; apply rfl) | (apply T.lss; apply rfl; apply rfl; apply rfl) | (apply T.gtr; apply rfl; apply rfl; apply rfl) | (apply T.addI; apply rfl; apply rfl; omega; apply rfl) | (apply T.pickF; apply rfl; apply rfl; apply rfl) | with_reducible refine Sr.nil ?_ | with_reducible refine S.seq ?_ | with_reducible refine S.reg ?_ | with_reducible refine S.skip ?_ | with_reducible refine S.inBlock ?_ | (apply T.ungV; apply rfl; (first | with_reducible rfl | decide)) | (apply S.condQ; apply rfl; all_goals (intro _; try (exfalso; first | omega | with_reducible contradiction))) | (apply T.gcase; apply rfl; apply rfl; all_goals (intro _; try (exfalso; first | omega | with_reducible contradiction))) | (with_reducible apply T.ofRet) | fail)
          exact ih _ _ _ _ ⟨i + 1, 128, 191, rfl, rfl, ⟨by omega, by omega, by omega, by rw [show n + 1 - (i + 1) = k by omega]; exact h8⟩, rfl⟩ (by omega) (by repeat' first | exact trivial | refine And.intro rfl ?_)
      · have hc : t[p + i]? = none := List.getElem?_eq_none (by omega)
        rw [byteI_ge h6]
        rw [hc] at h4
        have h8 : Q = .bad 31 t.length := by rw [← h4, show t.length = p + i by omega]
        rw [h8]
        repeat' (first | (apply T.slen; apply rfl; apply rfl) | (apply T.mv; apply rfl; apply rfl) | (apply T.asn; apply rfl; apply rfl) | (apply T.lss; apply rfl; apply rfl; apply rfl) | with_reducible refine Sr.nil ?_ | with_reducible refine S.seq ?_ | with_reducible refine S.reg ?_ | (apply S.condTV; apply rfl; (first | with_reducible rfl | decide)) | (with_reducible apply T.ofRet) | fail)
        refine T.call rfl rfl fault_spec ?_
        rintro _ _ ⟨rfl, rfl⟩
        repeat' (first | (apply T.storeW; apply rfl; apply rfl; infer_instance; (first | rfl | (simp only [List.length_append, List.length_map, List.length_set, List.length_replicate, List.length_cons, List.length_nil]; first | done | omega)); (first | rfl | (simp only [List.length_append, List.length_map, List.length_set, List.length_replicate, List.length_cons, List.length_nil]; first | done | omega)); (first | rfl | (repeat' first | apply all_nV | apply all_bV | apply all_iV | rfl | apply all_app))) | with_reducible refine Sr.nil ?_ | (with_reducible apply T.ofRet) | (apply T.retC; apply rfl; ((repeat' first | apply RV.nil | (apply RV.tmp; apply rfl) | (apply RV.cellW; apply rfl; apply rfl; infer_instance; (first | rfl | (simp only [List.length_append, List.length_map, List.length_set, List.length_replicate, List.length_cons, List.length_nil]; first | done | omega))) | (apply RV.cellP; apply rfl; apply rfl; infer_instance; apply rfl))); apply rfl) | fail)
        exact ⟨_, PSub.drop (PSub.refl _), rfl, rfl⟩
    · have hi1 : i = n + 1 := by omega
      subst hi1
      have h8 : Q = .ok (p + n + 1) () := by
        rw [← h4, show n + 1 - (n + 1) = 0 by omega, seqX]
        rfl
      rw [h8]
      have e0 : (p : Int) + (n : Int) = ((p + n : Nat) : Int) := by omega
      have e1 : ((p + n : Nat) : Int) + 1 = ((p + n + 1 : Nat) : Int) := by omega
      have hlen : ((t.drop p).take (p + n + 1 - p)).length = n + 1 := by rw [List.length_take, List.length_drop]; omega
      repeat' (first | (apply T.addI; apply rfl; apply rfl; omega; apply rfl; first | rw [e0] | rw [e1]) | (apply T.sslice; apply rfl; apply rfl; apply rfl; omega; apply rfl) | (apply T.mv; apply rfl; apply rfl) | (apply T.leq; apply rfl; apply rfl; apply rfl) | (apply T.buildL; apply rfl; apply rfl; apply rfl) | (apply T.storeW; apply rfl; apply rfl; infer_instance; (first | rfl | (simp only [List.length_append, List.length_map, List.length_set, List.length_replicate, List.length_cons, List.length_nil]; first | done | omega)); (first | rfl | (simp only [List.length_append, List.length_map, List.length_set, List.length_replicate, List.length_cons, List.length_nil]; first | done | omega)); (first | rfl | (repeat' first | apply all_nV | apply all_bV | apply all_iV | rfl | apply all_app))) | with_reducible refine Sr.nil ?_ | with_reducible refine S.seq ?_ | with_reducible refine S.reg ?_ | (apply S.exit; apply rfl) | (apply S.condQ; apply rfl; all_goals (intro _; try (exfalso; first | omega | with_reducible contradiction))) | (apply T.retC; apply rfl; ((repeat' first | apply RV.nil | (apply RV.tmp; apply rfl) | (apply RV.cellW; apply rfl; apply rfl; infer_instance; (first | rfl | (simp only [List.length_append, List.length_map, List.length_set, List.length_replicate, List.length_cons, List.length_nil]; first | done | omega))) | (apply RV.cellP; apply rfl; apply rfl; infer_instance; apply rfl))); apply rfl) | fail)
      exact ⟨_, PSub.drop (PSub.refl _), rfl, rfl⟩
end
end Go.Proofs.YtnimcchalinihaaDoor
/- Numbers of JSON texts, in plain Lean: by places in the text. -/
namespace Sg
def fracR (t : List UInt8) (p : Nat) : Option (Nat × Bool) := if bAt t p = 46 then (if digsE t (p + 1) = p + 1 then none else some (digsE t (p + 1), false)) else some (p, true)
def signR (t : List UInt8) (p : Nat) : Nat := if bAt t p = 43 ∨ bAt t p = 45 then p + 1 else p
def expR (t : List UInt8) (p : Nat) : Option (Nat × Bool) := if bAt t p = 101 ∨ bAt t p = 69 then (if digsE t (signR t (p + 1)) = signR t (p + 1) then none else some (digsE t (signR t (p + 1)), false)) else some (p, true)
def minR (t : List UInt8) : Nat := if bAt t 0 = 45 then 1 else 0
/-- A number, by places. -/
def numR (t : List UInt8) : Option (Bool × List UInt8 × Bool) :=
  if digsE t (minR t) = minR t ∨ (bAt t (minR t) = 48 ∧ minR t + 1 < digsE t (minR t)) then none else
  match fracR t (digsE t (minR t)) with
  | none => none
  | some (b, p1) => match expR t b with
    | none => none
    | some (e, p2) => if e = t.length then some (decide (bAt t 0 = 45), sl t (minR t) (digsE t (minR t)), p1 && p2) else none
theorem bAt_drop (t : List UInt8) (p k : Nat) : bAt (t.drop p) k = bAt t (p + k) := by
  unfold bAt
  simp only [List.getD, List.getElem?_drop]
theorem cut_drop {t : List UInt8} {p : Nat} {c : UInt8} (hc : c ≠ 0) : cutP c (t.drop p) = if bAt t p = c.toNat then (t.drop (p + 1), true) else (t.drop p, false) := by
  rcases Nat.lt_or_ge p t.length with h | h
  · have h1 : t.drop p = t[p] :: t.drop (p + 1) := List.drop_eq_getElem_cons h
    have h2 : bAt t p = t[p].toNat := bAt_of (List.getElem?_eq_getElem h)
    rw [h1, h2]
    unfold cutP
    simp only
    by_cases h3 : t[p] = c
    · rw [if_pos h3, if_pos (by rw [h3])]
    · rw [if_neg h3, if_neg (fun h4 => h3 (UInt8.toNat_inj.1 h4))]
  · rw [List.drop_eq_nil_of_le h, bAt_big h, if_neg (fun h1 => hc (UInt8.toNat_inj.1 h1.symm))]
    rfl
theorem run_drop (t : List UInt8) (p : Nat) : runD (t.drop p) = digsE t p - p := by
  unfold runD digsE
  omega
theorem drop_run (t : List UInt8) (p : Nat) : (t.drop p).drop (runD (t.drop p)) = t.drop (digsE t p) := by
  rw [List.drop_drop]
  rfl
theorem sign_drop (t : List UInt8) (p : Nat) : signP (t.drop p) = t.drop (signR t p) := by
  unfold signR
  rcases Nat.lt_or_ge p t.length with h | h
  · have h1 : t.drop p = t[p] :: t.drop (p + 1) := List.drop_eq_getElem_cons h
    have h2 : bAt t p = t[p].toNat := bAt_of (List.getElem?_eq_getElem h)
    rw [h1, h2]
    unfold signP
    simp only
    by_cases h3 : t[p] = 43 ∨ t[p] = 45
    · rw [if_pos h3, if_pos (h3.imp (fun h => by rw [h]; rfl) (fun h => by rw [h]; rfl))]
    · rw [if_neg h3, if_neg (fun h4 => h3 (h4.imp (fun h => UInt8.toNat_inj.1 h) (fun h => UInt8.toNat_inj.1 h))), h1]
  · rw [List.drop_eq_nil_of_le h, bAt_big h, if_neg (by omega), List.drop_eq_nil_of_le h]
    rfl
theorem signR_le {t : List UInt8} {p : Nat} (h : p ≤ t.length) : p ≤ signR t p ∧ signR t p ≤ t.length := by
  unfold signR
  split
  · rename_i h1
    have := bAt_lt_of (t := t) (p := p) (by omega)
    omega
  · omega
theorem digs_len {t : List UInt8} {p : Nat} (h : p ≤ t.length) : p ≤ digsE t p ∧ digsE t p ≤ t.length := ⟨digs_ge t p, digs_le h⟩
theorem frac_drop {t : List UInt8} {p : Nat} (_h : p ≤ t.length) : fracP (t.drop p) = (fracR t p).map fun x => (t.drop x.1, x.2) := by
  unfold fracP fracR
  rw [cut_drop (by decide)]
  by_cases h1 : bAt t p = 46
  · have h2 := digs_ge t (p + 1)
    rw [if_pos (show bAt t p = (46 : UInt8).toNat from h1), if_pos h1, if_pos rfl]
    simp only
    rw [run_drop]
    by_cases h3 : digsE t (p + 1) = p + 1
    · rw [if_pos (by omega), if_pos h3]
      rfl
    · rw [if_neg (by omega), if_neg h3]
      have := drop_run t (p + 1)
      rw [run_drop] at this
      rw [this]
      rfl
  · rw [if_neg (show ¬ bAt t p = (46 : UInt8).toNat from h1), if_neg h1, if_neg (by simp)]
    rfl
theorem exp_drop {t : List UInt8} {p : Nat} (_h : p ≤ t.length) : expP (t.drop p) = match expR t p with
    | none => none
    | some (e, p2) => if p2 = true then some (t.drop p, true) else if e = t.length then some ([], false) else none := by
  unfold expR
  by_cases h1 : bAt t p = 101 ∨ bAt t p = 69
  · have h0 := bAt_lt_of (t := t) (p := p) (by omega)
    have h2 : t.drop p = t[p] :: t.drop (p + 1) := List.drop_eq_getElem_cons h0
    have h3 : bAt t p = t[p].toNat := bAt_of (List.getElem?_eq_getElem h0)
    have h4 : t[p] = 101 ∨ t[p] = 69 := by
      rw [h3] at h1
      exact h1.imp (fun h => UInt8.toNat_inj.1 h) (fun h => UInt8.toNat_inj.1 h)
    obtain ⟨h5, h6⟩ := signR_le (t := t) (p := p + 1) h0
    obtain ⟨h7, h8⟩ := digs_len h6
    rw [if_pos h1, h2]
    unfold expP
    simp only
    rw [if_pos h4, sign_drop, run_drop, List.length_drop]
    by_cases h9 : digsE t (signR t (p + 1)) = signR t (p + 1)
    · rw [if_pos h9]
      simp only
      by_cases h10 : signR t (p + 1) = t.length
      · rw [if_pos (.inl (List.drop_eq_nil_of_le (by omega)))]
      · rw [if_pos (.inr (by omega))]
    · rw [if_neg h9]
      simp only [Bool.false_eq_true, if_false]
      by_cases h10 : digsE t (signR t (p + 1)) = t.length
      · rw [if_pos h10, if_neg]
        rintro (h11 | h11)
        · have := List.drop_eq_nil_iff.1 h11
          omega
        · omega
      · rw [if_neg h10, if_pos (.inr (by omega))]
  · rw [if_neg h1]
    simp only [if_true]
    rcases Nat.lt_or_ge p t.length with h0 | h0
    · have h2 : t.drop p = t[p] :: t.drop (p + 1) := List.drop_eq_getElem_cons h0
      have h3 : bAt t p = t[p].toNat := bAt_of (List.getElem?_eq_getElem h0)
      rw [h2]
      unfold expP
      simp only
      rw [if_neg (fun h4 => h1 (h4.imp (fun h => by rw [h3, h]; rfl) (fun h => by rw [h3, h]; rfl)))]
    · rw [List.drop_eq_nil_of_le h0]
      rfl
theorem fracR_le {t : List UInt8} {p b : Nat} {x : Bool} (h : p ≤ t.length) (hf : fracR t p = some (b, x)) : b ≤ t.length ∧ p ≤ b := by
  unfold fracR at hf
  split at hf
  · rename_i h1
    have := bAt_lt_of (t := t) (p := p) (by omega)
    have := digs_len (t := t) (p := p + 1) (by omega)
    split at hf
    · cases hf
    · cases hf
      omega
  · cases hf
    omega
theorem minR_le (t : List UInt8) : minR t ≤ t.length := by
  unfold minR
  split
  · rename_i h
    have := bAt_lt_of (t := t) (p := 0) (by omega)
    omega
  · omega
theorem cut_min (t : List UInt8) : cutP 45 t = (t.drop (minR t), decide (bAt t 0 = 45)) := by
  have := cut_drop (t := t) (p := 0) (c := 45) (by decide)
  rw [List.drop_zero] at this
  rw [this]
  unfold minR
  by_cases h : bAt t 0 = 45
  · rw [if_pos (show bAt t 0 = (45 : UInt8).toNat from h), if_pos h, decide_eq_true h]
  · rw [if_neg (show ¬ bAt t 0 = (45 : UInt8).toNat from h), if_neg h, decide_eq_false h]
    rfl
theorem numP_numR (t : List UInt8) : numP t = numR t := by
  have hm := minR_le t
  obtain ⟨hd1, hd2⟩ := digs_len hm
  unfold numP numR
  rw [cut_min]
  simp only
  have hb : intBad (t.drop (minR t)) = true ↔ (digsE t (minR t) = minR t ∨ (bAt t (minR t) = 48 ∧ minR t + 1 < digsE t (minR t))) := by
    unfold intBad
    rw [run_drop, bAt_drop]
    simp only [Nat.add_zero, Bool.or_eq_true, Bool.and_eq_true, decide_eq_true_eq]
    omega
  by_cases h1 : digsE t (minR t) = minR t ∨ (bAt t (minR t) = 48 ∧ minR t + 1 < digsE t (minR t))
  · rw [if_pos (hb.2 h1), if_pos h1]
  · rw [if_neg (fun h => h1 (hb.1 h)), if_neg h1, drop_run, frac_drop hd2]
    have hsl : (t.drop (minR t)).take (runD (t.drop (minR t))) = sl t (minR t) (digsE t (minR t)) := by
      unfold sl
      rw [run_drop]
    cases hf : fracR t (digsE t (minR t)) with
    | none => rfl
    | some y =>
      obtain ⟨b, p1⟩ := y
      obtain ⟨hb2, -⟩ := fracR_le hd2 hf
      simp only [Option.map_some]
      rw [exp_drop hb2]
      cases he : expR t b with
      | none => rfl
      | some z =>
        obtain ⟨e, p2⟩ := z
        simp only
        cases p2 with
        | true =>
          rw [if_pos rfl]
          have : e = b := by
            unfold expR at he
            split at he
            · split at he <;> cases he
            · cases he; rfl
          subst this
          simp only
          rw [hsl]
          by_cases h3 : e = t.length
          · rw [if_pos h3, if_pos (List.drop_eq_nil_of_le (by omega))]
          · rw [if_neg h3, if_neg (fun h4 => by have := List.drop_eq_nil_iff.1 h4; omega)]
        | false =>
          rw [if_neg (by simp)]
          by_cases h3 : e = t.length
          · rw [if_pos h3, if_pos h3]
            simp only
            rw [if_pos trivial, hsl]
          · rw [if_neg h3, if_neg h3]
end Sg
/- The walks of the document's numbers: read. -/
namespace Go.Proofs.YtnimcchalinihaaDoor
open Sg Go.IntWalk
set_option maxRecDepth 100000
set_option maxHeartbeats 4000000
section
variable {F : World} {M : List Nat} {H : List Res} {t : List UInt8} {p : Nat}
theorem refDigit_spec : Meets Tryd.prog 141 [sV t, .int .i64 p] F M H (fun e H' => e = .returned (.bool (decide (48 ≤ bAt t p ∧ bAt t p ≤ 57))) ∧ H' = H) := by
  refine Meets.enter Tryd.func141 rfl rfl ?_
  by_cases hp : p < t.length
  · have hb : (t.getD p 0).toNat = bAt t p := rfl
    by_cases hd : 48 ≤ (t.getD p 0).toNat
    · have e : decide (48 ≤ bAt t p ∧ bAt t p ≤ 57) = decide ((((t.getD p 0).toNat : Nat) : Int) ≤ 57) := by rw [decide_eq_decide]; omega
      rw [e]
      repeat' (first | (apply T.slen; apply rfl; apply rfl) | (apply T.sidx; apply rfl; apply rfl; omega; apply rfl) | (apply T.mv; apply rfl; apply rfl) | (apply T.asn; apply rfl; apply rfl) | (apply T.lss; apply rfl; apply rfl; apply rfl) | (apply T.leq; apply rfl; apply rfl; apply rfl) | (apply T.geq; apply rfl; apply rfl; apply rfl) | (apply T.pickT; apply rfl; apply rfl; apply rfl) | with_reducible refine Sr.nil ?_ | with_reducible refine S.seq ?_ | with_reducible refine S.reg ?_ | (apply T.ungV; apply rfl; (first | with_reducible rfl | decide)) | (apply T.gcase; apply rfl; apply rfl; all_goals (intro _; try (exfalso; first | omega | with_reducible contradiction))) | (apply T.retW; apply rfl) | fail)
      exact ⟨_, PSub.refl _, rfl, rfl⟩
    · have e : decide (48 ≤ bAt t p ∧ bAt t p ≤ 57) = false := decide_eq_false (by omega)
      rw [e]
      repeat' (first | (apply T.slen; apply rfl; apply rfl) | (apply T.sidx; apply rfl; apply rfl; omega; apply rfl) | (apply T.mv; apply rfl; apply rfl) | (apply T.asn; apply rfl; apply rfl) | (apply T.lss; apply rfl; apply rfl; apply rfl) | (apply T.geq; apply rfl; apply rfl; apply rfl) | (apply T.pickT; apply rfl; apply rfl; apply rfl) | (apply T.pickF; apply rfl; apply rfl; apply rfl) | with_reducible refine Sr.nil ?_ | with_reducible refine S.seq ?_ | with_reducible refine S.reg ?_ | (apply T.ungV; apply rfl; (first | with_reducible rfl | decide)) | (apply T.skip; apply rfl; (first | with_reducible rfl | decide); apply rfl) | (apply T.gcase; apply rfl; apply rfl; all_goals (intro _; try (exfalso; first | omega | with_reducible contradiction))) | (apply T.retW; apply rfl) | fail)
      exact ⟨_, PSub.refl _, rfl, rfl⟩
  · have hb := bAt_big (t := t) (p := p) (by omega)
    rw [decide_eq_false (by omega)]
    repeat' (first | (apply T.slen; apply rfl; apply rfl) | (apply T.mv; apply rfl; apply rfl) | (apply T.asn; apply rfl; apply rfl) | (apply T.lss; apply rfl; apply rfl; apply rfl) | (apply T.pickF; apply rfl; apply rfl; apply rfl) | with_reducible refine Sr.nil ?_ | with_reducible refine S.seq ?_ | with_reducible refine S.reg ?_ | (apply T.skip; apply rfl; (first | with_reducible rfl | decide); apply rfl) | (apply T.gcase; apply rfl; apply rfl; all_goals (intro _; try (exfalso; first | omega | with_reducible contradiction))) | (apply T.retW; apply rfl) | fail)
    exact ⟨_, PSub.refl _, rfl, rfl⟩
theorem refMany_spec (hp : p ≤ t.length) (hl : t.length ≤ 1000000000) : Meets Tryd.prog 128 [sV t, .int .i64 p] F M H (fun e H' => e = .returned (.int .i64 (digsE t p : Nat)) ∧ H' = H) := by
  refine Meets.enter Tryd.func128 rfl rfl ?_
  repeat' (first | (apply T.asn; apply rfl; apply rfl) | with_reducible refine Sr.nil ?_ | with_reducible refine S.seq ?_ | with_reducible refine S.block ?_ | with_reducible refine S.reg ?_ | fail)
  refine S.loopE 0 [0] (fun R b' μ H' e => ∃ q : Nat, H' = R ∧ e = (1, .int .i64 q) :: b' ∧ (q ≤ t.length ∧ digsE t p = digsE t q) ∧ μ = t.length - q) rfl rfl ?_ _ _ ⟨p, rfl, rfl, ⟨hp, rfl⟩, rfl⟩ (by repeat' first | exact trivial | refine And.intro rfl ?_)
  rintro _ _ _ ⟨q, rfl, rfl, ⟨h1, h2⟩, rfl⟩ ih
  repeat' (first | (apply T.mv; apply rfl; apply rfl) | with_reducible refine S.seq ?_ | with_reducible refine S.reg ?_ | fail)
  refine T.call rfl rfl refDigit_spec ?_
  rintro _ _ ⟨rfl, rfl⟩
  by_cases h3 : 48 ≤ bAt t q ∧ bAt t q ≤ 57
  · have h4 := bAt_lt_of (t := t) (p := q) (by omega)
    have h5 := digsE_yes h3
    rw [decide_eq_true h3]
    repeat' (first | (apply T.mv; apply rfl; apply rfl) | (apply T.asn; apply rfl; apply rfl) | (apply T.addI; apply rfl; apply rfl; omega; apply rfl) | with_reducible refine Sr.nil ?_ | with_reducible refine S.block ?_ | with_reducible refine S.reg ?_ | with_reducible refine S.skip ?_ | with_reducible refine S.inBlock ?_ | (apply S.condTV; apply rfl; (first | with_reducible rfl | decide)) | (with_reducible apply T.ofRet) | fail)
    exact ih _ _ _ _ ⟨q + 1, rfl, rfl, ⟨by omega, h2.trans h5⟩, rfl⟩ (by omega) (by repeat' first | exact trivial | refine And.intro rfl ?_)
  · have h5 := digsE_no h3
    rw [decide_eq_false h3]
    repeat' (first | (apply T.mv; apply rfl; apply rfl) | (apply T.asn; apply rfl; apply rfl) | with_reducible refine Sr.nil ?_ | with_reducible refine S.seq ?_ | with_reducible refine S.reg ?_ | (apply S.exit; apply rfl) | (apply S.condFV; apply rfl; (first | with_reducible rfl | decide)) | (apply T.retW; apply rfl) | (with_reducible apply T.ofRet) | fail)
    rw [h2, h5]
    exact ⟨_, PSub.refl _, rfl, rfl⟩
end
end Go.Proofs.YtnimcchalinihaaDoor
