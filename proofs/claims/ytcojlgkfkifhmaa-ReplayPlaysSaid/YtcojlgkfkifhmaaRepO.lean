/- The walk of the statement ReplayOnce. -/
import Derived.Test.YtcojlgkfkifhmaaRepN
/- maps -/
namespace Go.Proofs.Ytcojlgkfkifhmaa
open Sg Go.IntWalk
set_option maxRecDepth 100000
set_option maxHeartbeats 2000000
/-- The book and what was taken. -/
structure TInv (k : Bk) (es : Ents) : Prop where
  good : k.good
  same : ∀ n, eget k.ends n = (lastE n es).filter fun e => decide (k.last ≤ e)
  none : k.has = false → es = []
theorem tinv_has {k : Bk} {es : Ents} (h : TInv k es) (n : List UInt8) : (eget k.ends n).isSome = liveM es n k.last := by
  rw [h.same, liveM]
  cases lastE n es with
  | none => rfl
  | some e =>
    rw [Option.filter_some]
    by_cases hd : k.last ≤ e <;> simp [hd]
theorem tinv_live {k : Bk} {es : Ents} (h : TInv k es) {now : Int} (hc : ¬ (k.has = true ∧ now < k.last)) (n : List UInt8) : eget (live now k.ends) n = (lastE n es).filter fun e => decide (now ≤ e) := by
  rw [eget_live h.good.ok.rise.once, h.same]
  cases hb : k.has with
  | false =>
    rw [h.none hb]
    rfl
  | true =>
    have hle : k.last ≤ now := by
      rw [hb] at hc
      simp only [true_and] at hc
      omega
    cases lastE n es with
    | none => rfl
    | some e =>
      by_cases hd : now ≤ e
      · rw [Option.filter_some, if_pos (decide_eq_true (by omega)), Option.filter_some, if_pos (decide_eq_true hd)]
      · by_cases hl : k.last ≤ e
        · rw [Option.filter_some, if_pos (decide_eq_true hl)]
        · rw [Option.filter_some, if_neg (by simpa using hl), Option.filter_some, if_neg (by simpa using hd)]
          rfl
theorem lasts_live (es : Ents) (now : Int) (n : List UInt8) : eget (live now (lasts es)) n = (lastE n es).filter fun e => decide (now ≤ e) := by rw [eget_live (lasts_once es), eget_lasts]
theorem tinv_count {k : Bk} {es : Ents} (h : TInv k es) {now : Int} (hc : ¬ (k.has = true ∧ now < k.last)) : (live now (lasts es)).length = (live now k.ends).length :=
  once_same ((lasts_once es).filter _) (h.good.ok.rise.once.filter _) fun n => by rw [lasts_live, tinv_live h hc]
theorem tinv_len {k : Bk} {es : Ents} (h : TInv k es) : (live k.last (lasts es)).length = k.ends.length :=
  once_same ((lasts_once es).filter _) h.good.ok.rise.once fun n => by rw [lasts_live, h.same]
theorem tinv_liveM {k : Bk} {es : Ents} (h : TInv k es) {now : Int} (hc : ¬ (k.has = true ∧ now < k.last)) (n : List UInt8) : liveM es n now = (eget (live now k.ends) n).isSome := by
  rw [tinv_live h hc]
  unfold liveM
  cases lastE n es with
  | none => rfl
  | some e =>
    rw [Option.filter_some]
    by_cases hd : now ≤ e <;> simp [hd]
theorem eget_eput {m : Ents} (hr : Rise m) (n n2 : List UInt8) (z : Int) : eget (eput m n z) n2 = if n = n2 then some z else eget m n2 := by
  by_cases h : n = n2
  · subst h
    rw [if_pos rfl]
    exact eput_get hr n z
  · rw [if_neg h]
    have ho := (eput_rise hr n z).once
    refine Option.ext fun e => ?_
    have h1 := once_mem ho (p := (n2, e))
    have h2 := once_mem hr.once (p := (n2, e))
    dsimp only at h1 h2
    rw [← h1, ← h2]
    unfold eput
    rw [eins_mem]
    constructor
    · rintro (h3 | h3)
      · simp only [Prod.mk.injEq] at h3
        exact absurd h3.1.symm h
      · exact (List.mem_filter.1 h3).1
    · intro h3
      exact .inr (List.mem_filter.2 ⟨h3, by simpa using fun he => h he.symm⟩)
theorem tinv_new : TInv ⟨false, 0, []⟩ [] := ⟨new_good, fun _ => rfl, fun _ => rfl⟩
theorem tinv_late {k : Bk} {es : Ents} (h : TInv k es) {now : Int} (hc : ¬ (k.has = true ∧ now < k.last)) (hg : Bk.good ⟨true, now, live now k.ends⟩) : TInv ⟨true, now, live now k.ends⟩ es := ⟨hg, fun n => tinv_live h hc n, fun h => by cases h⟩
theorem tinv_put {k : Bk} {es : Ents} (h : TInv k es) {now til : Int} {n : List UInt8} (hc : ¬ (k.has = true ∧ now < k.last)) (ht : now ≤ til) (hg : Bk.good ⟨true, now, eput (live now k.ends) n til⟩) : TInv ⟨true, now, eput (live now k.ends) n til⟩ (es ++ [(n, til)]) :=
  ⟨hg, fun n2 => by
    show eget (eput (live now k.ends) n til) n2 = _
    have hr : Rise (live now k.ends) := h.good.ok.rise.filter _
    rw [eget_eput hr, tinv_live h hc, lastE_append]
    by_cases he : n = n2
    · rw [if_pos he]
      simp only [lastE, he, if_true]
      rw [Option.filter_some, if_pos (decide_eq_true ht)]
    · rw [if_neg he]
      simp [lastE, he], fun h => by cases h⟩
/-- What Take answers, by what was taken. -/
theorem take_why (k : Bk) (n : List UInt8) (til now : Int) : (1024 < n.length ∧ k.take n til now = (10, k)) ∨ (¬ 1024 < n.length ∧ (k.has = true ∧ now < k.last) ∧ k.take n til now = (162, k)) ∨
    (¬ 1024 < n.length ∧ ¬ (k.has = true ∧ now < k.last) ∧ ((til < now ∧ k.take n til now = (134, ⟨true, now, live now k.ends⟩)) ∨ (¬ til < now ∧ (((eget (live now k.ends) n).isSome = true ∧ k.take n til now = (160, ⟨true, now, live now k.ends⟩)) ∨
      ((eget (live now k.ends) n).isSome = false ∧ (((live now k.ends).length = 4096 ∧ k.take n til now = (161, ⟨true, now, live now k.ends⟩)) ∨ ((live now k.ends).length ≠ 4096 ∧ k.take n til now = (0, ⟨true, now, eput (live now k.ends) n til⟩))))))) ) := by
  unfold Bk.take
  by_cases h1 : 1024 < n.length
  · exact .inl ⟨h1, by rw [if_pos h1]⟩
  by_cases h2 : k.has = true ∧ now < k.last
  · exact .inr (.inl ⟨h1, h2, by rw [if_neg h1, if_pos h2]⟩)
  refine .inr (.inr ⟨h1, h2, ?_⟩)
  rw [if_neg h1, if_neg h2]
  by_cases h3 : til < now
  · exact .inl ⟨h3, by rw [if_pos h3]⟩
  refine .inr ⟨h3, ?_⟩
  rw [if_neg h3]
  by_cases h4 : (eget (live now k.ends) n).isSome = true
  · exact .inl ⟨h4, by rw [if_pos h4]⟩
  refine .inr ⟨by simpa using h4, ?_⟩
  rw [if_neg h4]
  by_cases h5 : (live now k.ends).length = 4096
  · exact .inl ⟨h5, by rw [if_pos h5]⟩
  · exact .inr ⟨h5, by rw [if_neg h5]⟩
theorem opened_image {F : World} {M : List Nat} {H : List Res} {c : Nat} {b : Option Addr} {k : Bk} [hR : Rd F M H b ((imageL k).map bV)] (hk : k.good) (hc : (imageL k).length ≤ c) :
    Meets Try.prog 23 [.slice b (imageL k).length c] F M H (fun e H' => ∃ q mb, e = .returned (.pointer (some ⟨q, 0, none⟩)) ∧ H' = .blk q (bkV mb k) 63 :: bkM mb k :: H) := by
  have hin := image_le hk.ok
  have hop := opened_spec (F := F) (M := M) (H := H) (b := b) (c := c) (l := imageL k) (by omega) hc
  have he : openedM (imageL k) = k := by
    unfold openedM
    rw [openM_some hk]
  rw [he] at hop
  exact hop
theorem once_walk {F : World} {ac : Nat} {a : Option Addr} {xs : List OpR} [hA : ∀ H, Rd F [] H a (xs.flatMap opV)] (hx : Ops xs) (hxl : xs.length ≤ 140737488355328) :
    Meets Try.prog 6 [.slice a xs.length ac] F [] [] (fun e _ => e = .returned (.bool true)) := by
  refine Meets.enter Try.func6 rfl rfl ?_
  refine S.nilrow 53 2 ?_
  repeat' (first | ((with_reducible apply T.asn); apply rfl; apply rfl) | with_reducible refine Sr.nil ?_ | with_reducible refine S.seq ?_ | with_reducible refine S.reg ?_ | fail)
  refine T.call rfl rfl started_spec ?_
  rintro _ _ ⟨rfl, rfl⟩
  repeat' (first | ((with_reducible apply T.notB); apply rfl; apply rfl) | with_reducible refine Sr.nil ?_ | with_reducible refine S.seq ?_ | with_reducible refine S.reg ?_ | with_reducible refine S.skip ?_ | ((with_reducible apply S.condF); apply rfl) | (with_reducible apply T.ofRet) | fail)
  refine T.call rfl rfl new_spec ?_
  rintro _ _ ⟨q, mb, rfl, rfl⟩
  repeat' (first | ((with_reducible apply T.eqlP); apply rfl; apply rfl) | ((with_reducible apply T.mv); apply rfl; apply rfl) | ((with_reducible apply T.asn); apply rfl; apply rfl) | with_reducible refine Sr.nil ?_ | with_reducible refine S.seq ?_ | with_reducible refine S.block ?_ | with_reducible refine S.reg ?_ | with_reducible refine S.skip ?_ | ((with_reducible apply S.condF); apply rfl) | (with_reducible apply T.ofRet) | fail)
  refine S.loopE 3 [0] (fun R b' μ H' e => ∃ (i q mb : Nat) (k : Bk) (es : Ents) (ta : Option Addr) (tc : Nat), H' = .blk q (bkV mb k) 63 :: bkM mb k :: .row ta tc 53 2 es.length (es.flatMap enV) :: R ∧ e = (3, .pointer (some ⟨q, 0, none⟩)) :: (4, .slice ta es.length tc) :: (5, .bool k.has) :: (6, .int .i64 k.last) :: (7, .int .i64 i) :: b' ∧ (i ≤ xs.length ∧ i ≤ 1000 ∧ es.length ≤ i ∧ TInv k es) ∧ μ = xs.length - i) rfl rfl ?_ _ _ ⟨0, q, mb, ⟨false, 0, []⟩, [], none, 0, rfl, rfl, ⟨by omega, by omega, Nat.le_refl _, tinv_new⟩, rfl⟩ (by repeat' first | exact trivial | refine And.intro rfl ?_)
  clear q mb
  rintro _ _ _ ⟨i, q, mb, k, es, ta, tc, rfl, rfl, ⟨hi, hi2, hel, hinv⟩, rfl⟩ ih
  have hk := hinv.good
  have hkl := hk.ok.len
  by_cases h1 : i < xs.length ∧ i < 1000
  · obtain ⟨h1, h10⟩ := h1
    obtain ⟨hj, ht, hw⟩ := hx.at h1
    refine S.seq ?_
    refine S.cut (fun H' e' => H' = .blk q (bkV mb k) 63 :: bkM mb k :: .row ta tc 53 2 es.length (es.flatMap enV) :: [] ∧ e' = [(0, .slice a xs.length ac), (3, .pointer (some ⟨q, 0, none⟩)), (4, .slice ta es.length tc), (5, .bool k.has), (6, .int .i64 k.last), (7, .int .i64 i)]) ?_ ?_
    · intro k' hrest
      repeat' (first | ((with_reducible apply T.mv); apply rfl; apply rfl) | ((with_reducible apply T.len); apply rfl; apply rfl) | ((with_reducible apply T.lss); apply rfl; apply rfl; apply rfl) | ((with_reducible apply T.pickT); apply rfl; apply rfl; apply rfl) | with_reducible refine Sr.nil ?_ | with_reducible refine S.seq ?_ | with_reducible refine S.reg ?_ | with_reducible refine S.skip ?_ | ((with_reducible apply T.ung); apply rfl) | ((with_reducible apply S.condQ); apply rfl; all_goals (intro _; try (exfalso; omega))) | ((with_reducible apply T.gcase); apply rfl; apply rfl; all_goals (intro _; try (exfalso; omega))) | fail)
      exact hrest _ _ _ ⟨rfl, rfl⟩ (by repeat' first | exact trivial | refine And.intro rfl ?_)
    rintro _ _ ⟨rfl, rfl⟩
    refine S.seq ?_
    refine S.block ?_
    refine S.seq ?_
    repeat' (first | ((with_reducible apply T.mv); apply rfl; apply rfl) | ((with_reducible apply T.ixF); apply rfl; apply rfl; infer_instance; exact (fun _ => rfl); apply rfl; omega; omega; apply rfl) | ((with_reducible apply T.loadFN); apply rfl; apply rfl; infer_instance; exact (fun _ => rfl); apply rfl; exact getD_some (by omega); apply rfl) | ((with_reducible apply T.storeW); apply rfl; apply rfl; infer_instance; (first | rfl | ((first | simp only [List.length_append] | simp only [List.length_map] | simp only [List.length_set] | simp only [List.length_replicate] | simp only [List.length_cons] | simp only [List.length_nil]); (repeat (first | simp only [List.length_append] | simp only [List.length_map] | simp only [List.length_set] | simp only [List.length_replicate] | simp only [List.length_cons] | simp only [List.length_nil])); first | done | omega)); (first | rfl | ((first | simp only [List.length_append] | simp only [List.length_map] | simp only [List.length_set] | simp only [List.length_replicate] | simp only [List.length_cons] | simp only [List.length_nil]); (repeat (first | simp only [List.length_append] | simp only [List.length_map] | simp only [List.length_set] | simp only [List.length_replicate] | simp only [List.length_cons] | simp only [List.length_nil])); first | done | omega)); (first | rfl | (repeat' first | apply all_nV | apply all_bV | apply all_iV | rfl | apply all_app))) | ((with_reducible apply T.alloc); apply rfl; intro nb) | with_reducible refine Sr.nil ?_ | with_reducible refine S.reg ?_ | fail)
    refine S.seq ?_
    refine S.cut (fun H' e' => ∃ q mb, H' = .blk nb (opV (xs.getD i default)) 27 :: .blk q (bkV mb k) 63 :: bkM mb k :: .row ta tc 53 2 es.length (es.flatMap enV) :: [] ∧ e' = [(0, .slice a xs.length ac), (3, .pointer (some ⟨q, 0, none⟩)), (4, .slice ta es.length tc), (5, .bool k.has), (6, .int .i64 k.last), (7, .int .i64 i), (8, .pointer (some ⟨nb, 0, none⟩))]) ?_ ?_
    · intro k' hrest
      have hin := image_le hk.ok
      repeat' (first | ((with_reducible apply T.mv); apply rfl; apply rfl) | ((with_reducible apply T.fieldAddrZ); apply rfl; apply rfl) | ((with_reducible apply T.load); apply rfl; apply rfl; infer_instance; apply rfl; apply rfl) | ((with_reducible apply T.eql); apply rfl; apply rfl; apply rfl) | with_reducible refine Sr.nil ?_ | with_reducible refine S.seq ?_ | with_reducible refine S.reg ?_ | with_reducible refine S.skip ?_ | ((with_reducible apply S.condQ); apply rfl; all_goals (intro _; try (exfalso; omega))) | fail)
      · refine Sr.front mb ?_
        refine Sr.front q ?_
        refine T.call rfl rfl (image_spec hk.ok) ?_
        rintro _ _ ⟨wa, wc, rfl, rfl⟩
        refine Sr.capR (ad := wa) inferInstance fun hwc => ?_
        skip
        refine T.call rfl rfl (opened_image hk hwc) ?_
        rintro _ _ ⟨q2, mb2, rfl, rfl⟩
        repeat' (first | ((with_reducible apply T.asn); apply rfl; apply rfl) | with_reducible refine Sr.nil ?_ | (with_reducible apply T.ofRet) | fail)
        refine S.front nb ?_
        exact S.sublist (hrest _ _ _ ⟨q2, mb2, rfl, rfl⟩ (by repeat' first | exact trivial | refine And.intro rfl ?_)) (by ((repeat (first | dsimp only [List.set_cons_zero] | dsimp only [List.set_cons_succ])); repeat' first | exact PSub.refl _ | exact PSub.nil | ((with_reducible apply PSub.take); (repeat' first | (with_reducible exact pick_hd) | (with_reducible apply pick_tl))) | (with_reducible apply PSub.drop) | ((apply PSub.take); (repeat' first | exact pick_hd | (apply pick_tl)))))
      · exact hrest _ _ _ ⟨q, mb, rfl, rfl⟩ (by repeat' first | exact trivial | refine And.intro rfl ?_)
    clear q mb
    rintro _ _ ⟨q, mb, rfl, rfl⟩
    refine S.seq ?_
    refine S.cut (fun H' e' => H' = .blk nb (opV (xs.getD i default)) 27 :: .blk q (bkV mb k) 63 :: bkM mb k :: .row ta tc 53 2 es.length (es.flatMap enV) :: [] ∧ e' = [(0, .slice a xs.length ac), (3, .pointer (some ⟨q, 0, none⟩)), (4, .slice ta es.length tc), (5, .bool k.has), (6, .int .i64 k.last), (7, .int .i64 i), (8, .pointer (some ⟨nb, 0, none⟩))]) ?_ ?_
    · intro k' hrest
      have hbx : (!((eget k.ends (xs.getD i default).jti).isSome == liveM es (xs.getD i default).jti k.last)) = false := by
        rw [tinv_has hinv]
        simp
      have n1 : ∀ {X : List Res} [InB X q (bkV mb k) 63] [InE X mb (mapQ Try.prog 9 2 k.ends.length (mapD k.ends))], Meets Try.prog 24 [.pointer (some ⟨q, 0, none⟩), sV (xs.getD i default).jti] F [] X (fun e H' => e = .returned (.bool (eget k.ends (xs.getD i default).jti).isSome) ∧ H' = X) := has_in hj
      have n2 : ∀ {X : List Res} [Rd F [] X ta (es.flatMap enV)], Meets Try.prog 25 [.slice ta es.length tc, sV (xs.getD i default).jti, .int .i64 k.last] F [] X (fun e H' => e = .returned (.bool (liveM es (xs.getD i default).jti k.last)) ∧ H' = X) := live_spec (by omega)
      refine S.seq ?_
      ((with_reducible apply S.draw); (case Hs => exact [.blk nb (opV (xs.getD i default)) 27]); (case es => exact  [3, 8]); (case n => exact  10); (case hn => rfl))
      repeat' (first | ((with_reducible apply T.neqB); apply rfl; apply rfl; apply rfl; rw [hbx]) | (refine T.call rfl rfl (by with_reducible exact n1) ?_; rintro _ _ ⟨rfl, rfl⟩) | (refine T.call rfl rfl (by with_reducible exact n2) ?_; rintro _ _ ⟨rfl, rfl⟩) | ((with_reducible apply T.mv); apply rfl; apply rfl) | ((with_reducible apply T.fieldAddrZ); apply rfl; apply rfl) | ((with_reducible apply T.load); apply rfl; apply rfl; infer_instance; apply rfl; apply rfl) | with_reducible refine Sr.nil ?_ | with_reducible refine S.skip ?_ | ((with_reducible apply S.condF); apply rfl) | (with_reducible apply T.ofRet) | ((with_reducible apply SA.qn); apply rfl; apply rfl; apply rfl; apply rfl; kernel_rfl) | ((with_reducible apply SA.qsn); apply rfl; apply rfl; apply rfl; kernel_rfl; (first | exact fun _ h => h | exact fun _ h => St.psub h (by ((repeat (first | dsimp only [List.set_cons_zero] | dsimp only [List.set_cons_succ])); repeat' first | exact PSub.refl _ | exact PSub.nil | ((with_reducible apply PSub.take); (repeat' first | (with_reducible exact pick_hd) | (with_reducible apply pick_tl))) | (with_reducible apply PSub.drop) | ((apply PSub.take); (repeat' first | exact pick_hd | (apply pick_tl))))))) | ((with_reducible apply SA.en); apply rfl; apply rfl; kernel_rfl) | ((with_reducible apply SA.done); apply rfl; kernel_rfl) | ((with_reducible apply SK.intro); (first | exact fun _ h => h | exact fun _ h => St.psub h (by ((repeat (first | dsimp only [List.set_cons_zero] | dsimp only [List.set_cons_succ])); repeat' first | exact PSub.refl _ | exact PSub.nil | ((with_reducible apply PSub.take); (repeat' first | (with_reducible exact pick_hd) | (with_reducible apply pick_tl))) | (with_reducible apply PSub.drop) | ((apply PSub.take); (repeat' first | exact pick_hd | (apply pick_tl))))))) | fail)
      all_goals exact hrest _ _ _ ⟨rfl, rfl⟩ (by repeat' first | exact trivial | refine And.intro rfl ?_)
    rintro _ _ ⟨rfl, rfl⟩
    by_cases hkd : (xs.getD i default).kind = 1
    · repeat' (first | ((with_reducible apply T.mv); apply rfl; apply rfl) | ((with_reducible apply T.fieldAddrZ); apply rfl; apply rfl) | ((with_reducible apply T.load); apply rfl; apply rfl; infer_instance; apply rfl; apply rfl) | ((with_reducible apply T.neq); apply rfl; apply rfl; apply rfl) | with_reducible refine Sr.nil ?_ | with_reducible refine S.seq ?_ | with_reducible refine S.reg ?_ | with_reducible refine S.skip ?_ | ((with_reducible apply S.condQ); apply rfl; all_goals (intro _; try (exfalso; omega))) | fail)
      refine Sr.front mb ?_
      refine Sr.front q ?_
      have why := take_why k (xs.getD i default).jti (xs.getD i default).til (xs.getD i default).now
      have htg := take_good hk (xs.getD i default).jti ht hw
      generalize hT : k.take (xs.getD i default).jti (xs.getD i default).til (xs.getD i default).now = T2 at *
      obtain ⟨c, k2⟩ := T2
      simp only [Prod.mk.injEq] at why
      dsimp only at htg
      refine T.call rfl rfl (take_at hT hj hk.ok.len9 ht) ?_
      rintro _ _ ⟨rfl, rfl⟩
      repeat' (first | ((with_reducible apply T.asn); apply rfl; apply rfl) | with_reducible refine Sr.nil ?_ | (with_reducible apply T.ofRet) | fail)
      refine S.seq ?_
      repeat' (first | ((with_reducible apply T.asn); apply rfl; apply rfl) | with_reducible refine Sr.nil ?_ | with_reducible refine S.reg ?_ | fail)
      refine S.seq ?_
      refine S.cut (fun H' e' => H' = .blk q (bkV mb k2) 63 :: bkM mb k2 :: .blk nb (opV (xs.getD i default)) 27 :: .row ta tc 53 2 es.length (es.flatMap enV) :: [] ∧ e' = [(9, .int .i64 c), (10, .int .i64 c), (0, .slice a xs.length ac), (3, .pointer (some ⟨q, 0, none⟩)), (4, .slice ta es.length tc), (5, .bool k.has), (6, .int .i64 k.last), (7, .int .i64 i), (8, .pointer (some ⟨nb, 0, none⟩))]) ?_ ?_
      · intro k' hrest
        clear hT
        by_cases hb : k.has = true
        · rw [hb] at hrest ⊢
          rcases why with ⟨c1, rfl, rfl⟩ | ⟨c1, c2, rfl, rfl⟩ | ⟨c1, c2, ⟨c3, rfl, rfl⟩ | ⟨c3, ⟨c4, rfl, rfl⟩ | ⟨c4, ⟨c5, rfl, rfl⟩ | ⟨c5, rfl, rfl⟩⟩⟩⟩
          · repeat' (first | ((with_reducible apply T.slen); apply rfl; apply rfl) | ((with_reducible apply T.asn); apply rfl; apply rfl) | ((with_reducible apply T.fieldAddrZ); apply rfl; apply rfl) | ((with_reducible apply T.load); apply rfl; apply rfl; infer_instance; apply rfl; apply rfl) | ((with_reducible apply T.gtr); apply rfl; apply rfl; apply rfl) | with_reducible refine Sr.nil ?_ | with_reducible refine S.seq ?_ | with_reducible refine S.block ?_ | with_reducible refine S.reg ?_ | with_reducible refine S.inBlock ?_ | ((with_reducible apply S.condQ); apply rfl; all_goals (intro _; try (exfalso; omega))) | fail)
            exact hrest _ _ _ ⟨rfl, rfl⟩ (by repeat' first | exact trivial | refine And.intro rfl ?_)
          · obtain ⟨_, cl⟩ := c2
            repeat' (first | ((with_reducible apply T.slen); apply rfl; apply rfl) | ((with_reducible apply T.mv); apply rfl; apply rfl) | ((with_reducible apply T.asn); apply rfl; apply rfl) | ((with_reducible apply T.fieldAddrZ); apply rfl; apply rfl) | ((with_reducible apply T.load); apply rfl; apply rfl; infer_instance; apply rfl; apply rfl) | ((with_reducible apply T.lss); apply rfl; apply rfl; apply rfl) | ((with_reducible apply T.gtr); apply rfl; apply rfl; apply rfl) | ((with_reducible apply T.pickT); apply rfl; apply rfl; apply rfl) | with_reducible refine Sr.nil ?_ | with_reducible refine S.seq ?_ | with_reducible refine S.block ?_ | with_reducible refine S.reg ?_ | with_reducible refine S.inBlock ?_ | ((with_reducible apply T.ung); apply rfl) | ((with_reducible apply S.condQ); apply rfl; all_goals (intro _; try (exfalso; omega))) | fail)
            exact hrest _ _ _ ⟨rfl, rfl⟩ (by repeat' first | exact trivial | refine And.intro rfl ?_)
          · have cl : ¬ (xs.getD i default).now < k.last := fun h => c2 ⟨hb, h⟩
            repeat' (first | ((with_reducible apply T.slen); apply rfl; apply rfl) | ((with_reducible apply T.mv); apply rfl; apply rfl) | ((with_reducible apply T.asn); apply rfl; apply rfl) | ((with_reducible apply T.fieldAddrZ); apply rfl; apply rfl) | ((with_reducible apply T.load); apply rfl; apply rfl; infer_instance; apply rfl; apply rfl) | ((with_reducible apply T.lss); apply rfl; apply rfl; apply rfl) | ((with_reducible apply T.gtr); apply rfl; apply rfl; apply rfl) | ((with_reducible apply T.pickT); apply rfl; apply rfl; apply rfl) | with_reducible refine Sr.nil ?_ | with_reducible refine S.seq ?_ | with_reducible refine S.block ?_ | with_reducible refine S.reg ?_ | with_reducible refine S.inBlock ?_ | ((with_reducible apply T.ung); apply rfl) | ((with_reducible apply S.condQ); apply rfl; all_goals (intro _; try (exfalso; omega))) | fail)
            exact hrest _ _ _ ⟨rfl, rfl⟩ (by repeat' first | exact trivial | refine And.intro rfl ?_)
          · have cl : ¬ (xs.getD i default).now < k.last := fun h => c2 ⟨hb, h⟩
            have hlv := tinv_liveM hinv c2 (xs.getD i default).jti
            rw [c4] at hlv
            repeat' (first | ((with_reducible apply T.slen); apply rfl; apply rfl) | ((with_reducible apply T.mv); apply rfl; apply rfl) | ((with_reducible apply T.asn); apply rfl; apply rfl) | ((with_reducible apply T.fieldAddrZ); apply rfl; apply rfl) | ((with_reducible apply T.load); apply rfl; apply rfl; infer_instance; apply rfl; apply rfl) | ((with_reducible apply T.lss); apply rfl; apply rfl; apply rfl) | ((with_reducible apply T.gtr); apply rfl; apply rfl; apply rfl) | ((with_reducible apply T.pickT); apply rfl; apply rfl; apply rfl) | with_reducible refine Sr.nil ?_ | with_reducible refine S.seq ?_ | with_reducible refine S.block ?_ | with_reducible refine S.reg ?_ | ((with_reducible apply T.ung); apply rfl) | ((with_reducible apply S.condQ); apply rfl; all_goals (intro _; try (exfalso; omega))) | fail)
            refine T.call rfl rfl (live_spec (es := es) (by omega)) ?_
            rintro _ _ ⟨rfl, rfl⟩
            rw [hlv]
            repeat' (first | ((with_reducible apply T.asn); apply rfl; apply rfl) | with_reducible refine Sr.nil ?_ | with_reducible refine S.reg ?_ | with_reducible refine S.inBlock ?_ | ((with_reducible apply S.condT); apply rfl) | (with_reducible apply T.ofRet) | fail)
            exact hrest _ _ _ ⟨rfl, rfl⟩ (by repeat' first | exact trivial | refine And.intro rfl ?_)
          · have cl : ¬ (xs.getD i default).now < k.last := fun h => c2 ⟨hb, h⟩
            have hlv := tinv_liveM hinv c2 (xs.getD i default).jti
            rw [c4] at hlv
            have hct := tinv_count hinv c2
            repeat' (first | ((with_reducible apply T.slen); apply rfl; apply rfl) | ((with_reducible apply T.mv); apply rfl; apply rfl) | ((with_reducible apply T.asn); apply rfl; apply rfl) | ((with_reducible apply T.fieldAddrZ); apply rfl; apply rfl) | ((with_reducible apply T.load); apply rfl; apply rfl; infer_instance; apply rfl; apply rfl) | ((with_reducible apply T.lss); apply rfl; apply rfl; apply rfl) | ((with_reducible apply T.gtr); apply rfl; apply rfl; apply rfl) | ((with_reducible apply T.pickT); apply rfl; apply rfl; apply rfl) | with_reducible refine Sr.nil ?_ | with_reducible refine S.seq ?_ | with_reducible refine S.block ?_ | with_reducible refine S.reg ?_ | ((with_reducible apply T.ung); apply rfl) | ((with_reducible apply S.condQ); apply rfl; all_goals (intro _; try (exfalso; omega))) | fail)
            refine T.call rfl rfl (live_spec (es := es) (by omega)) ?_
            rintro _ _ ⟨rfl, rfl⟩
            rw [hlv]
            repeat' (first | ((with_reducible apply T.mv); apply rfl; apply rfl) | ((with_reducible apply T.asn); apply rfl; apply rfl) | ((with_reducible apply T.fieldAddrZ); apply rfl; apply rfl) | ((with_reducible apply T.load); apply rfl; apply rfl; infer_instance; apply rfl; apply rfl) | with_reducible refine Sr.nil ?_ | with_reducible refine S.seq ?_ | with_reducible refine S.reg ?_ | ((with_reducible apply S.condF); apply rfl) | (with_reducible apply T.ofRet) | fail)
            refine T.call rfl rfl (count_spec (es := es) (by omega)) ?_
            rintro _ _ ⟨rfl, rfl⟩
            rw [hct]
            repeat' (first | ((with_reducible apply T.asn); apply rfl; apply rfl) | ((with_reducible apply T.geq); apply rfl; apply rfl; apply rfl) | with_reducible refine Sr.nil ?_ | with_reducible refine S.reg ?_ | with_reducible refine S.inBlock ?_ | (with_reducible apply T.ofRet) | ((with_reducible apply S.condQ); apply rfl; all_goals (intro _; try (exfalso; omega))) | fail)
            exact hrest _ _ _ ⟨rfl, rfl⟩ (by repeat' first | exact trivial | refine And.intro rfl ?_)
          · have cl : ¬ (xs.getD i default).now < k.last := fun h => c2 ⟨hb, h⟩
            have hlv := tinv_liveM hinv c2 (xs.getD i default).jti
            rw [c4] at hlv
            have hct := tinv_count hinv c2
            have hll := live_len (xs.getD i default).now k.ends
            repeat' (first | ((with_reducible apply T.slen); apply rfl; apply rfl) | ((with_reducible apply T.mv); apply rfl; apply rfl) | ((with_reducible apply T.asn); apply rfl; apply rfl) | ((with_reducible apply T.fieldAddrZ); apply rfl; apply rfl) | ((with_reducible apply T.load); apply rfl; apply rfl; infer_instance; apply rfl; apply rfl) | ((with_reducible apply T.lss); apply rfl; apply rfl; apply rfl) | ((with_reducible apply T.gtr); apply rfl; apply rfl; apply rfl) | ((with_reducible apply T.pickT); apply rfl; apply rfl; apply rfl) | with_reducible refine Sr.nil ?_ | with_reducible refine S.seq ?_ | with_reducible refine S.block ?_ | with_reducible refine S.reg ?_ | ((with_reducible apply T.ung); apply rfl) | ((with_reducible apply S.condQ); apply rfl; all_goals (intro _; try (exfalso; omega))) | fail)
            refine T.call rfl rfl (live_spec (es := es) (by omega)) ?_
            rintro _ _ ⟨rfl, rfl⟩
            rw [hlv]
            repeat' (first | ((with_reducible apply T.mv); apply rfl; apply rfl) | ((with_reducible apply T.asn); apply rfl; apply rfl) | ((with_reducible apply T.fieldAddrZ); apply rfl; apply rfl) | ((with_reducible apply T.load); apply rfl; apply rfl; infer_instance; apply rfl; apply rfl) | with_reducible refine Sr.nil ?_ | with_reducible refine S.seq ?_ | with_reducible refine S.reg ?_ | ((with_reducible apply S.condF); apply rfl) | (with_reducible apply T.ofRet) | fail)
            refine T.call rfl rfl (count_spec (es := es) (by omega)) ?_
            rintro _ _ ⟨rfl, rfl⟩
            rw [hct]
            repeat' (first | ((with_reducible apply T.asn); apply rfl; apply rfl) | ((with_reducible apply T.geq); apply rfl; apply rfl; apply rfl) | with_reducible refine Sr.nil ?_ | with_reducible refine S.skip ?_ | with_reducible refine S.inBlock ?_ | (with_reducible apply T.ofRet) | ((with_reducible apply S.condQ); apply rfl; all_goals (intro _; try (exfalso; omega))) | fail)
            exact hrest _ _ _ ⟨rfl, rfl⟩ (by repeat' first | exact trivial | refine And.intro rfl ?_)
        · rw [Bool.not_eq_true] at hb
          rw [hb] at hrest ⊢
          rcases why with ⟨c1, rfl, rfl⟩ | ⟨c1, c2, rfl, rfl⟩ | ⟨c1, c2, ⟨c3, rfl, rfl⟩ | ⟨c3, ⟨c4, rfl, rfl⟩ | ⟨c4, ⟨c5, rfl, rfl⟩ | ⟨c5, rfl, rfl⟩⟩⟩⟩
          · repeat' (first | ((with_reducible apply T.slen); apply rfl; apply rfl) | ((with_reducible apply T.asn); apply rfl; apply rfl) | ((with_reducible apply T.fieldAddrZ); apply rfl; apply rfl) | ((with_reducible apply T.load); apply rfl; apply rfl; infer_instance; apply rfl; apply rfl) | ((with_reducible apply T.gtr); apply rfl; apply rfl; apply rfl) | with_reducible refine Sr.nil ?_ | with_reducible refine S.seq ?_ | with_reducible refine S.block ?_ | with_reducible refine S.reg ?_ | with_reducible refine S.inBlock ?_ | ((with_reducible apply S.condQ); apply rfl; all_goals (intro _; try (exfalso; omega))) | fail)
            exact hrest _ _ _ ⟨rfl, rfl⟩ (by repeat' first | exact trivial | refine And.intro rfl ?_)
          · exact absurd (hb.symm.trans c2.1) (by decide)
          · repeat' (first | ((with_reducible apply T.slen); apply rfl; apply rfl) | ((with_reducible apply T.mv); apply rfl; apply rfl) | ((with_reducible apply T.asn); apply rfl; apply rfl) | ((with_reducible apply T.fieldAddrZ); apply rfl; apply rfl) | ((with_reducible apply T.load); apply rfl; apply rfl; infer_instance; apply rfl; apply rfl) | ((with_reducible apply T.lss); apply rfl; apply rfl; apply rfl) | ((with_reducible apply T.gtr); apply rfl; apply rfl; apply rfl) | ((with_reducible apply T.pickF); apply rfl; apply rfl; apply rfl) | with_reducible refine Sr.nil ?_ | with_reducible refine S.seq ?_ | with_reducible refine S.block ?_ | with_reducible refine S.reg ?_ | with_reducible refine S.inBlock ?_ | ((with_reducible apply T.skip); apply rfl; apply rfl; apply rfl) | ((with_reducible apply S.condF); apply rfl) | ((with_reducible apply S.condQ); apply rfl; all_goals (intro _; try (exfalso; omega))) | fail)
            exact hrest _ _ _ ⟨rfl, rfl⟩ (by repeat' first | exact trivial | refine And.intro rfl ?_)
          · have hlv := tinv_liveM hinv c2 (xs.getD i default).jti
            rw [c4] at hlv
            repeat' (first | ((with_reducible apply T.slen); apply rfl; apply rfl) | ((with_reducible apply T.mv); apply rfl; apply rfl) | ((with_reducible apply T.asn); apply rfl; apply rfl) | ((with_reducible apply T.fieldAddrZ); apply rfl; apply rfl) | ((with_reducible apply T.load); apply rfl; apply rfl; infer_instance; apply rfl; apply rfl) | ((with_reducible apply T.lss); apply rfl; apply rfl; apply rfl) | ((with_reducible apply T.gtr); apply rfl; apply rfl; apply rfl) | ((with_reducible apply T.pickF); apply rfl; apply rfl; apply rfl) | with_reducible refine Sr.nil ?_ | with_reducible refine S.seq ?_ | with_reducible refine S.block ?_ | with_reducible refine S.reg ?_ | ((with_reducible apply T.skip); apply rfl; apply rfl; apply rfl) | ((with_reducible apply S.condF); apply rfl) | ((with_reducible apply S.condQ); apply rfl; all_goals (intro _; try (exfalso; omega))) | fail)
            refine T.call rfl rfl (live_spec (es := es) (by omega)) ?_
            rintro _ _ ⟨rfl, rfl⟩
            rw [hlv]
            repeat' (first | ((with_reducible apply T.asn); apply rfl; apply rfl) | with_reducible refine Sr.nil ?_ | with_reducible refine S.reg ?_ | with_reducible refine S.inBlock ?_ | ((with_reducible apply S.condT); apply rfl) | (with_reducible apply T.ofRet) | fail)
            exact hrest _ _ _ ⟨rfl, rfl⟩ (by repeat' first | exact trivial | refine And.intro rfl ?_)
          · have hlv := tinv_liveM hinv c2 (xs.getD i default).jti
            rw [c4] at hlv
            have hct := tinv_count hinv c2
            repeat' (first | ((with_reducible apply T.slen); apply rfl; apply rfl) | ((with_reducible apply T.mv); apply rfl; apply rfl) | ((with_reducible apply T.asn); apply rfl; apply rfl) | ((with_reducible apply T.fieldAddrZ); apply rfl; apply rfl) | ((with_reducible apply T.load); apply rfl; apply rfl; infer_instance; apply rfl; apply rfl) | ((with_reducible apply T.lss); apply rfl; apply rfl; apply rfl) | ((with_reducible apply T.gtr); apply rfl; apply rfl; apply rfl) | ((with_reducible apply T.pickF); apply rfl; apply rfl; apply rfl) | with_reducible refine Sr.nil ?_ | with_reducible refine S.seq ?_ | with_reducible refine S.block ?_ | with_reducible refine S.reg ?_ | ((with_reducible apply T.skip); apply rfl; apply rfl; apply rfl) | ((with_reducible apply S.condF); apply rfl) | ((with_reducible apply S.condQ); apply rfl; all_goals (intro _; try (exfalso; omega))) | fail)
            refine T.call rfl rfl (live_spec (es := es) (by omega)) ?_
            rintro _ _ ⟨rfl, rfl⟩
            rw [hlv]
            repeat' (first | ((with_reducible apply T.mv); apply rfl; apply rfl) | ((with_reducible apply T.asn); apply rfl; apply rfl) | ((with_reducible apply T.fieldAddrZ); apply rfl; apply rfl) | ((with_reducible apply T.load); apply rfl; apply rfl; infer_instance; apply rfl; apply rfl) | with_reducible refine Sr.nil ?_ | with_reducible refine S.seq ?_ | with_reducible refine S.reg ?_ | ((with_reducible apply S.condF); apply rfl) | (with_reducible apply T.ofRet) | fail)
            refine T.call rfl rfl (count_spec (es := es) (by omega)) ?_
            rintro _ _ ⟨rfl, rfl⟩
            rw [hct]
            repeat' (first | ((with_reducible apply T.asn); apply rfl; apply rfl) | ((with_reducible apply T.geq); apply rfl; apply rfl; apply rfl) | with_reducible refine Sr.nil ?_ | with_reducible refine S.reg ?_ | with_reducible refine S.inBlock ?_ | (with_reducible apply T.ofRet) | ((with_reducible apply S.condQ); apply rfl; all_goals (intro _; try (exfalso; omega))) | fail)
            exact hrest _ _ _ ⟨rfl, rfl⟩ (by repeat' first | exact trivial | refine And.intro rfl ?_)
          · have hlv := tinv_liveM hinv c2 (xs.getD i default).jti
            rw [c4] at hlv
            have hct := tinv_count hinv c2
            have hll := live_len (xs.getD i default).now k.ends
            repeat' (first | ((with_reducible apply T.slen); apply rfl; apply rfl) | ((with_reducible apply T.mv); apply rfl; apply rfl) | ((with_reducible apply T.asn); apply rfl; apply rfl) | ((with_reducible apply T.fieldAddrZ); apply rfl; apply rfl) | ((with_reducible apply T.load); apply rfl; apply rfl; infer_instance; apply rfl; apply rfl) | ((with_reducible apply T.lss); apply rfl; apply rfl; apply rfl) | ((with_reducible apply T.gtr); apply rfl; apply rfl; apply rfl) | ((with_reducible apply T.pickF); apply rfl; apply rfl; apply rfl) | with_reducible refine Sr.nil ?_ | with_reducible refine S.seq ?_ | with_reducible refine S.block ?_ | with_reducible refine S.reg ?_ | ((with_reducible apply T.skip); apply rfl; apply rfl; apply rfl) | ((with_reducible apply S.condF); apply rfl) | ((with_reducible apply S.condQ); apply rfl; all_goals (intro _; try (exfalso; omega))) | fail)
            refine T.call rfl rfl (live_spec (es := es) (by omega)) ?_
            rintro _ _ ⟨rfl, rfl⟩
            rw [hlv]
            repeat' (first | ((with_reducible apply T.mv); apply rfl; apply rfl) | ((with_reducible apply T.asn); apply rfl; apply rfl) | ((with_reducible apply T.fieldAddrZ); apply rfl; apply rfl) | ((with_reducible apply T.load); apply rfl; apply rfl; infer_instance; apply rfl; apply rfl) | with_reducible refine Sr.nil ?_ | with_reducible refine S.seq ?_ | with_reducible refine S.reg ?_ | ((with_reducible apply S.condF); apply rfl) | (with_reducible apply T.ofRet) | fail)
            refine T.call rfl rfl (count_spec (es := es) (by omega)) ?_
            rintro _ _ ⟨rfl, rfl⟩
            rw [hct]
            repeat' (first | ((with_reducible apply T.asn); apply rfl; apply rfl) | ((with_reducible apply T.geq); apply rfl; apply rfl; apply rfl) | with_reducible refine Sr.nil ?_ | with_reducible refine S.skip ?_ | with_reducible refine S.inBlock ?_ | (with_reducible apply T.ofRet) | ((with_reducible apply S.condQ); apply rfl; all_goals (intro _; try (exfalso; omega))) | fail)
            exact hrest _ _ _ ⟨rfl, rfl⟩ (by repeat' first | exact trivial | refine And.intro rfl ?_)
      rintro _ _ ⟨rfl, rfl⟩
      refine S.seq ?_
      refine S.seq ?_
      repeat' (first | ((with_reducible apply T.mv); apply rfl; apply rfl) | ((with_reducible apply T.neq); apply rfl; apply rfl; apply rfl) | with_reducible refine Sr.nil ?_ | with_reducible refine S.reg ?_ | fail)
      refine S.condP rfl (fun h => absurd rfl h) (fun _ => ?_)
      repeat' (first | with_reducible refine S.skip ?_ | fail)
      refine S.seq ?_
      refine S.cut (fun H' e' => H' = .blk q (bkV mb k2) 63 :: bkM mb k2 :: .blk nb (opV (xs.getD i default)) 27 :: .row ta tc 53 2 es.length (es.flatMap enV) :: [] ∧ e' = [(9, .int .i64 c), (0, .slice a xs.length ac), (3, .pointer (some ⟨q, 0, none⟩)), (4, .slice ta es.length tc), (5, .bool k2.has), (6, .int .i64 k2.last), (7, .int .i64 i), (8, .pointer (some ⟨nb, 0, none⟩))]) ?_ ?_
      · intro k' hrest
        clear hT
        rcases why with ⟨c1, rfl, rfl⟩ | ⟨c1, c2, rfl, rfl⟩ | ⟨c1, c2, ⟨c3, rfl, rfl⟩ | ⟨c3, ⟨c4, rfl, rfl⟩ | ⟨c4, ⟨c5, rfl, rfl⟩ | ⟨c5, rfl, rfl⟩⟩⟩⟩
        all_goals (repeat' (first | ((with_reducible apply T.mv); apply rfl; apply rfl) | ((with_reducible apply T.asn); apply rfl; apply rfl) | ((with_reducible apply T.fieldAddrZ); apply rfl; apply rfl) | ((with_reducible apply T.load); apply rfl; apply rfl; infer_instance; apply rfl; apply rfl) | ((with_reducible apply T.neq); apply rfl; apply rfl; apply rfl) | ((with_reducible apply T.pickT); apply rfl; apply rfl; apply rfl) | ((with_reducible apply T.pickF); apply rfl; apply rfl; apply rfl) | with_reducible refine Sr.nil ?_ | with_reducible refine S.seq ?_ | with_reducible refine S.reg ?_ | with_reducible refine S.skip ?_ | ((with_reducible apply T.ung); apply rfl) | ((with_reducible apply T.skip); apply rfl; apply rfl; apply rfl) | ((with_reducible apply S.condT); apply rfl) | ((with_reducible apply S.condF); apply rfl) | fail))
        all_goals exact hrest _ _ _ ⟨rfl, rfl⟩ (by repeat' first | exact trivial | refine And.intro rfl ?_)
      rintro _ _ ⟨rfl, rfl⟩
      refine S.seq ?_
      refine S.cut (fun H' e' => ∃ es2 ta2 tc2, TInv k2 es2 ∧ es2.length ≤ i + 1 ∧ H' = .blk q (bkV mb k2) 63 :: bkM mb k2 :: .row ta2 tc2 53 2 es2.length (es2.flatMap enV) :: [] ∧ e' = [(0, .slice a xs.length ac), (3, .pointer (some ⟨q, 0, none⟩)), (4, .slice ta2 es2.length tc2), (5, .bool k2.has), (6, .int .i64 k2.last), (7, .int .i64 i)]) ?_ ?_
      · intro k' hrest
        clear hT
        rcases why with ⟨c1, rfl, rfl⟩ | ⟨c1, c2, rfl, rfl⟩ | ⟨c1, c2, ⟨c3, rfl, rfl⟩ | ⟨c3, ⟨c4, rfl, rfl⟩ | ⟨c4, ⟨c5, rfl, rfl⟩ | ⟨c5, rfl, rfl⟩⟩⟩⟩
        · repeat' (first | ((with_reducible apply T.mv); apply rfl; apply rfl) | ((with_reducible apply T.eql); apply rfl; apply rfl; apply rfl) | with_reducible refine Sr.nil ?_ | with_reducible refine S.seq ?_ | with_reducible refine S.reg ?_ | with_reducible refine S.skip ?_ | ((with_reducible apply S.condF); apply rfl) | fail)
          exact S.sublist (hrest _ _ _ ⟨es, ta, tc, hinv, by omega, rfl, rfl⟩ (by repeat' first | exact trivial | refine And.intro rfl ?_)) (by ((repeat (first | dsimp only [List.set_cons_zero] | dsimp only [List.set_cons_succ])); repeat' first | exact PSub.refl _ | exact PSub.nil | ((with_reducible apply PSub.take); (repeat' first | (with_reducible exact pick_hd) | (with_reducible apply pick_tl))) | (with_reducible apply PSub.drop) | ((apply PSub.take); (repeat' first | exact pick_hd | (apply pick_tl)))))
        · repeat' (first | ((with_reducible apply T.mv); apply rfl; apply rfl) | ((with_reducible apply T.eql); apply rfl; apply rfl; apply rfl) | with_reducible refine Sr.nil ?_ | with_reducible refine S.seq ?_ | with_reducible refine S.reg ?_ | with_reducible refine S.skip ?_ | ((with_reducible apply S.condF); apply rfl) | fail)
          exact S.sublist (hrest _ _ _ ⟨es, ta, tc, hinv, by omega, rfl, rfl⟩ (by repeat' first | exact trivial | refine And.intro rfl ?_)) (by ((repeat (first | dsimp only [List.set_cons_zero] | dsimp only [List.set_cons_succ])); repeat' first | exact PSub.refl _ | exact PSub.nil | ((with_reducible apply PSub.take); (repeat' first | (with_reducible exact pick_hd) | (with_reducible apply pick_tl))) | (with_reducible apply PSub.drop) | ((apply PSub.take); (repeat' first | exact pick_hd | (apply pick_tl)))))
        · repeat' (first | ((with_reducible apply T.mv); apply rfl; apply rfl) | ((with_reducible apply T.eql); apply rfl; apply rfl; apply rfl) | with_reducible refine Sr.nil ?_ | with_reducible refine S.seq ?_ | with_reducible refine S.reg ?_ | with_reducible refine S.skip ?_ | ((with_reducible apply S.condF); apply rfl) | fail)
          exact S.sublist (hrest _ _ _ ⟨es, ta, tc, tinv_late hinv c2 htg, by omega, rfl, rfl⟩ (by repeat' first | exact trivial | refine And.intro rfl ?_)) (by ((repeat (first | dsimp only [List.set_cons_zero] | dsimp only [List.set_cons_succ])); repeat' first | exact PSub.refl _ | exact PSub.nil | ((with_reducible apply PSub.take); (repeat' first | (with_reducible exact pick_hd) | (with_reducible apply pick_tl))) | (with_reducible apply PSub.drop) | ((apply PSub.take); (repeat' first | exact pick_hd | (apply pick_tl)))))
        · repeat' (first | ((with_reducible apply T.mv); apply rfl; apply rfl) | ((with_reducible apply T.eql); apply rfl; apply rfl; apply rfl) | with_reducible refine Sr.nil ?_ | with_reducible refine S.seq ?_ | with_reducible refine S.reg ?_ | with_reducible refine S.skip ?_ | ((with_reducible apply S.condF); apply rfl) | fail)
          exact S.sublist (hrest _ _ _ ⟨es, ta, tc, tinv_late hinv c2 htg, by omega, rfl, rfl⟩ (by repeat' first | exact trivial | refine And.intro rfl ?_)) (by ((repeat (first | dsimp only [List.set_cons_zero] | dsimp only [List.set_cons_succ])); repeat' first | exact PSub.refl _ | exact PSub.nil | ((with_reducible apply PSub.take); (repeat' first | (with_reducible exact pick_hd) | (with_reducible apply pick_tl))) | (with_reducible apply PSub.drop) | ((apply PSub.take); (repeat' first | exact pick_hd | (apply pick_tl)))))
        · repeat' (first | ((with_reducible apply T.mv); apply rfl; apply rfl) | ((with_reducible apply T.eql); apply rfl; apply rfl; apply rfl) | with_reducible refine Sr.nil ?_ | with_reducible refine S.seq ?_ | with_reducible refine S.reg ?_ | with_reducible refine S.skip ?_ | ((with_reducible apply S.condF); apply rfl) | fail)
          exact S.sublist (hrest _ _ _ ⟨es, ta, tc, tinv_late hinv c2 htg, by omega, rfl, rfl⟩ (by repeat' first | exact trivial | refine And.intro rfl ?_)) (by ((repeat (first | dsimp only [List.set_cons_zero] | dsimp only [List.set_cons_succ])); repeat' first | exact PSub.refl _ | exact PSub.nil | ((with_reducible apply PSub.take); (repeat' first | (with_reducible exact pick_hd) | (with_reducible apply pick_tl))) | (with_reducible apply PSub.drop) | ((apply PSub.take); (repeat' first | exact pick_hd | (apply pick_tl)))))
        · repeat' (first | (refine T.appendF (g := enV) ((xs.getD i default).jti, (xs.getD i default).til) rfl rfl rfl inferInstance (fun _ => rfl) rfl rfl rfl (by constructor <;> omega) rfl ?_; intro na nc) | ((with_reducible apply T.mv); apply rfl; apply rfl) | ((with_reducible apply T.asn); apply rfl; apply rfl) | ((with_reducible apply T.fieldAddrZ); apply rfl; apply rfl) | ((with_reducible apply T.load); apply rfl; apply rfl; infer_instance; apply rfl; apply rfl) | ((with_reducible apply T.eql); apply rfl; apply rfl; apply rfl) | ((with_reducible apply T.buildL); apply rfl; apply rfl; apply rfl) | ((with_reducible apply T.bsL); apply rfl; apply rfl; apply rfl; apply rfl; apply rfl; intro nb) | with_reducible refine Sr.nil ?_ | with_reducible refine S.seq ?_ | with_reducible refine S.reg ?_ | ((with_reducible apply S.condT); apply rfl) | fail)
          have hlen : es.length + 1 = (es ++ [((xs.getD i default).jti, (xs.getD i default).til)]).length := by simp
          rw [hlen]
          exact S.sublist (hrest _ _ _ ⟨es ++ [((xs.getD i default).jti, (xs.getD i default).til)], na, nc, tinv_put hinv c2 (by omega) htg, by rw [← hlen]; omega, rfl, rfl⟩ (by repeat' first | exact trivial | refine And.intro rfl ?_)) (by ((repeat (first | dsimp only [List.set_cons_zero] | dsimp only [List.set_cons_succ])); repeat' first | exact PSub.refl _ | exact PSub.nil | ((with_reducible apply PSub.take); (repeat' first | (with_reducible exact pick_hd) | (with_reducible apply pick_tl))) | (with_reducible apply PSub.drop) | ((apply PSub.take); (repeat' first | exact pick_hd | (apply pick_tl)))))
      rintro _ _ ⟨es2, ta2, tc2, hinv2, hel2, rfl, rfl⟩
      have hbh : (!(k2.has == k2.has)) = false := by simp
      have hl2 := tinv_len hinv2
      repeat' (first | ((with_reducible apply T.mv); apply rfl; apply rfl) | with_reducible refine S.seq ?_ | with_reducible refine S.reg ?_ | fail)
      refine T.call rfl rfl (last_in (k := k2) (mb := mb)) ?_
      rintro _ _ ⟨rfl, rfl⟩
      repeat' (first | ((with_reducible apply T.neqB); apply rfl; apply rfl; apply rfl; rw [hbh]) | ((with_reducible apply T.mv); apply rfl; apply rfl) | ((with_reducible apply T.asn); apply rfl; apply rfl) | ((with_reducible apply T.neq); apply rfl; apply rfl; apply rfl) | ((with_reducible apply T.extract); apply rfl; apply rfl; apply rfl) | ((with_reducible apply T.pickF); apply rfl; apply rfl; apply rfl) | with_reducible refine Sr.nil ?_ | with_reducible refine S.seq ?_ | with_reducible refine S.reg ?_ | ((with_reducible apply T.ung); apply rfl) | (with_reducible apply T.ofRet) | ((with_reducible apply T.gcase); apply rfl; apply rfl; all_goals (intro _; try (exfalso; omega))) | fail)
      refine T.call rfl rfl (len_in (k := k2) (mb := mb)) ?_
      rintro _ _ ⟨rfl, rfl⟩
      repeat' (first | ((with_reducible apply T.mv); apply rfl; apply rfl) | ((with_reducible apply T.ung); apply rfl) | (with_reducible apply T.ofRet) | fail)
      refine T.call rfl rfl (count_spec (es := es2) (by omega)) ?_
      rintro _ _ ⟨rfl, rfl⟩
      rw [hl2]
      repeat' (first | ((with_reducible apply T.mv); apply rfl; apply rfl) | ((with_reducible apply T.asn); apply rfl; apply rfl) | ((with_reducible apply T.neq); apply rfl; apply rfl; apply rfl) | ((with_reducible apply T.addI); apply rfl; apply rfl; omega; apply rfl) | ((with_reducible apply T.pickF); apply rfl; apply rfl; apply rfl) | with_reducible refine Sr.nil ?_ | with_reducible refine S.reg ?_ | with_reducible refine S.skip ?_ | with_reducible refine S.inBlock ?_ | ((with_reducible apply T.ung); apply rfl) | (with_reducible apply T.ofRet) | ((with_reducible apply S.condQ); apply rfl; all_goals (intro _; try (exfalso; omega))) | fail)
      exact ih _ _ _ _ ⟨i + 1, q, mb, k2, es2, ta2, tc2, rfl, rfl, ⟨by omega, by omega, hel2, hinv2⟩, rfl⟩ (by omega) (by repeat' first | exact trivial | refine And.intro rfl ?_)
    · repeat' (first | ((with_reducible apply T.mv); apply rfl; apply rfl) | ((with_reducible apply T.asn); apply rfl; apply rfl) | ((with_reducible apply T.fieldAddrZ); apply rfl; apply rfl) | ((with_reducible apply T.load); apply rfl; apply rfl; infer_instance; apply rfl; apply rfl) | ((with_reducible apply T.neq); apply rfl; apply rfl; apply rfl) | ((with_reducible apply T.addI); apply rfl; apply rfl; omega; apply rfl) | with_reducible refine Sr.nil ?_ | with_reducible refine S.seq ?_ | with_reducible refine S.reg ?_ | ((with_reducible apply S.exit); apply rfl) | ((with_reducible apply S.condQ); apply rfl; all_goals (intro _; try (exfalso; omega))) | fail)
      exact S.sublist (ih _ _ _ _ ⟨i + 1, q, mb, k, es, ta, tc, rfl, rfl, ⟨by omega, by omega, by omega, hinv⟩, rfl⟩ (by omega) (by repeat' first | exact trivial | refine And.intro rfl ?_)) (by ((repeat (first | dsimp only [List.set_cons_zero] | dsimp only [List.set_cons_succ])); repeat' first | exact PSub.refl _ | exact PSub.nil | ((with_reducible apply PSub.take); (repeat' first | (with_reducible exact pick_hd) | (with_reducible apply pick_tl))) | (with_reducible apply PSub.drop) | ((apply PSub.take); (repeat' first | exact pick_hd | (apply pick_tl)))))
  · repeat' (first | ((with_reducible apply T.mv); apply rfl; apply rfl) | ((with_reducible apply T.asn); apply rfl; apply rfl) | ((with_reducible apply T.len); apply rfl; apply rfl) | ((with_reducible apply T.lss); apply rfl; apply rfl; apply rfl) | ((with_reducible apply T.pickT); apply rfl; apply rfl; apply rfl) | ((with_reducible apply T.pickF); apply rfl; apply rfl; apply rfl) | with_reducible refine Sr.nil ?_ | with_reducible refine S.seq ?_ | with_reducible refine S.reg ?_ | ((with_reducible apply S.exit); apply rfl) | ((with_reducible apply T.ung); apply rfl) | ((with_reducible apply T.skip); apply rfl; apply rfl; apply rfl) | ((with_reducible apply S.condF); apply rfl) | ((with_reducible apply T.retW); apply rfl) | ((with_reducible apply S.condQ); apply rfl; all_goals (intro _; try (exfalso; omega))) | ((with_reducible apply T.gcase); apply rfl; apply rfl; all_goals (intro _; try (exfalso; omega))) | fail)
    all_goals exact ⟨_, PSub.refl _, rfl⟩
end Go.Proofs.Ytcojlgkfkifhmaa
