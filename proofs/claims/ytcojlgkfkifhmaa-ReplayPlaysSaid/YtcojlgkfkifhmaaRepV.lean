/- The walks of the document's own answer: an image's bytes. -/
import Derived.Test.YtcojlgkfkifhmaaRepU
/- maps -/
namespace Go.Proofs.Ytcojlgkfkifhmaa
open Sg Go.IntWalk
set_option maxRecDepth 100000
set_option maxHeartbeats 1000000
theorem bytes_spec {F : World} {M : List Nat} {H : List Res} {c : Nat} {b : Option Addr} {k : Bk} [hR : Rd F M H b (k.ends.flatMap enV)] (hk : k.ok) :
    Meets Try.prog 43 [.bool k.has, .int .i64 k.last, .slice b k.ends.length c] F M H (fun e H' => ∃ ad cp, e = .returned (.slice ad (imageL k).length cp) ∧ H' = .row ad cp 5 1 (imageL k).length ((imageL k).map bV) :: H) := by
  have hl := hk.len
  have hn := hk.name
  have hacc := accL_le hk
  refine Meets.enter Try.func43 rfl rfl ?_
  refine S.seq ?_
  repeat' (first | ((with_reducible apply T.asn); apply rfl; apply rfl) | with_reducible refine Sr.nil ?_ | with_reducible refine S.reg ?_ | fail)
  refine S.seq ?_
  repeat' (first | ((with_reducible apply T.asn); apply rfl; apply rfl) | ((with_reducible apply T.bs); apply rfl; apply rfl; apply rfl; apply rfl; apply rfl; apply rfl; intro nb) | with_reducible refine Sr.nil ?_ | with_reducible refine S.reg ?_ | fail)
  refine S.rowOf (n := 3) rfl (by decide) ?_
  refine S.seq ?_
  refine S.cut (fun H' e' => H' = .row (some ⟨nb, 0, none⟩) 3 5 1 3 (([82, 1, flagB k.has] : List UInt8).map bV) :: H ∧ e' = [(7, .slice (some ⟨nb, 0, none⟩) 3 3), (1, .int .i64 k.last), (2, .slice b k.ends.length c)]) ?_ ?_
  · intro k' hrest
    have hl3 : [Value.int .u8 82, Value.int .u8 1, Value.int .u8 0] = ([82, 1, 0] : List UInt8).map bV := rfl
    rw [hl3]
    by_cases hb : k.has = true
    · rw [hb] at hrest ⊢
      repeat' (first | ((with_reducible apply T.ixC); apply rfl; infer_instance; omega; simp; apply rfl) | ((with_reducible apply T.mv); apply rfl; apply rfl) | with_reducible refine Sr.nil ?_ | with_reducible refine S.seq ?_ | with_reducible refine S.reg ?_ | ((with_reducible apply S.condT); apply rfl) | fail)
      refine T.storeB (m := 1) (xs := [82, 1, 0]) rfl rfl inferInstance (by simp) ?_
      repeat' (first | with_reducible refine Sr.nil ?_ | fail)
      exact hrest _ _ _ ⟨rfl, rfl⟩ (by repeat' first | exact trivial | refine And.intro rfl ?_)
    · rw [Bool.not_eq_true] at hb
      rw [hb] at hrest ⊢
      repeat' (first | ((with_reducible apply T.mv); apply rfl; apply rfl) | with_reducible refine Sr.nil ?_ | with_reducible refine S.seq ?_ | with_reducible refine S.reg ?_ | with_reducible refine S.skip ?_ | ((with_reducible apply S.condF); apply rfl) | fail)
      exact hrest _ _ _ ⟨rfl, rfl⟩ (by repeat' first | exact trivial | refine And.intro rfl ?_)
  rintro _ _ ⟨rfl, rfl⟩
  repeat' (first | ((with_reducible apply T.convMU64); apply rfl; apply rfl; rw [u64_eq]) | ((with_reducible apply T.mv); apply rfl; apply rfl) | with_reducible refine S.seq ?_ | with_reducible refine S.reg ?_ | fail)
  refine T.call rfl rfl (put_spec (size := 8) (u64_lt k.last) (by omega) (by omega)) ?_
  rintro _ _ ⟨a1, c1, rfl, rfl⟩
  repeat' (first | ((with_reducible apply T.mv); apply rfl; apply rfl) | ((with_reducible apply T.asn); apply rfl; apply rfl) | ((with_reducible apply T.len); apply rfl; apply rfl) | ((with_reducible apply T.convU64); apply rfl; omega; apply rfl) | with_reducible refine Sr.nil ?_ | with_reducible refine S.seq ?_ | with_reducible refine S.reg ?_ | (with_reducible apply T.ofRet) | fail)
  refine T.call rfl rfl (put_spec (v := k.ends.length) (size := 4) (by omega) (by omega) (by omega)) ?_
  rintro _ _ ⟨a2, c2, rfl, rfl⟩
  repeat' (first | ((with_reducible apply T.asn); apply rfl; apply rfl) | with_reducible refine Sr.nil ?_ | with_reducible refine S.seq ?_ | with_reducible refine S.block ?_ | with_reducible refine S.reg ?_ | (with_reducible apply T.ofRet) | fail)
  have e15 : 3 + 8 + 4 = (accL k 0).length := by rw [accL_zero, headL_len]
  have e16 : [82, 1, flagB k.has] ++ beN 8 (u64 k.last) ++ beN 4 k.ends.length = accL k 0 := by rw [accL_zero]; rfl
  rw [e15, e16]
  refine S.loopE 1 [2] (fun R b' μ H' e => ∃ (i : Nat) (ad : Option Addr) (cp : Nat), H' = .row ad cp 5 1 (accL k i).length ((accL k i).map bV) :: R ∧ e = (7, .slice ad (accL k i).length cp) :: (8, .int .i64 i) :: b' ∧ i ≤ k.ends.length ∧ μ = k.ends.length - i) rfl rfl ?_ _ _ ⟨0, _, _, rfl, rfl, by omega, rfl⟩ (by repeat' first | exact trivial | refine And.intro rfl ?_)
  rintro _ _ _ ⟨i, ad, cp, rfl, rfl, hi, rfl⟩ ih
  have ha := hacc i
  by_cases h1 : i < k.ends.length
  · obtain ⟨q, hq⟩ : ∃ q, k.ends[i]? = some q := ⟨_, List.getElem?_eq_getElem h1⟩
    have hqm : q ∈ k.ends := List.mem_of_getElem? hq
    have hqn := hn q hqm
    have hgq : k.ends.getD i default = q := by rw [List.getD_eq_getElem?_getD, hq]; rfl
    repeat' (first | ((with_reducible apply T.loadF); apply rfl; apply rfl; infer_instance; exact (fun _ => rfl); apply rfl; exact getD_some (by omega); apply rfl; apply rfl; rw [hgq]) | ((with_reducible apply T.slen); apply rfl; apply rfl) | ((with_reducible apply T.mv); apply rfl; apply rfl) | ((with_reducible apply T.len); apply rfl; apply rfl) | ((with_reducible apply T.lss); apply rfl; apply rfl; apply rfl) | ((with_reducible apply T.ixF); apply rfl; apply rfl; infer_instance; exact (fun _ => rfl); apply rfl; omega; omega; apply rfl) | ((with_reducible apply T.fieldAddrF); apply rfl; infer_instance; exact (fun _ => rfl); apply rfl; omega; apply rfl) | ((with_reducible apply T.convU64); apply rfl; omega; apply rfl) | with_reducible refine Sr.nil ?_ | with_reducible refine S.seq ?_ | with_reducible refine S.block ?_ | with_reducible refine S.reg ?_ | with_reducible refine S.skip ?_ | ((with_reducible apply S.condQ); apply rfl; all_goals (intro _; try (exfalso; omega))) | fail)
    refine T.call rfl rfl (put_spec (v := q.1.length) (size := 2) (by omega) (by omega) (by omega)) ?_
    rintro _ _ ⟨a3, c3, rfl, rfl⟩
    repeat' (first | ((with_reducible apply T.asn); apply rfl; apply rfl) | with_reducible refine Sr.nil ?_ | with_reducible refine S.seq ?_ | with_reducible refine S.block ?_ | with_reducible refine S.reg ?_ | (with_reducible apply T.ofRet) | fail)
    refine S.loopE 1 [2, 8] (fun R b' μ H' e => ∃ (j : Nat) (ad : Option Addr) (cp : Nat), H' = .row ad cp 5 1 ((accL k i).length + 2 + j) ((accL k i ++ beN 2 q.1.length ++ q.1.take j).map bV) :: R ∧ e = (7, .slice ad ((accL k i).length + 2 + j) cp) :: (9, .int .i64 j) :: b' ∧ j ≤ q.1.length ∧ μ = q.1.length - j) rfl rfl ?_ _ _ ⟨0, a3, c3, by rw [List.take_zero, List.append_nil], rfl, by omega, rfl⟩ (by repeat' first | exact trivial | refine And.intro rfl ?_)
    rintro _ _ _ ⟨j, a4, c4, rfl, rfl, hj, rfl⟩ ih2
    by_cases h2 : j < q.1.length
    · repeat' (first | ((with_reducible apply T.loadF); apply rfl; apply rfl; infer_instance; exact (fun _ => rfl); apply rfl; exact getD_some (by omega); apply rfl; apply rfl; rw [hgq]) | ((with_reducible apply T.slen); apply rfl; apply rfl) | ((with_reducible apply T.sidx); apply rfl; apply rfl; omega; apply rfl) | ((with_reducible apply T.mv); apply rfl; apply rfl) | ((with_reducible apply T.asn); apply rfl; apply rfl) | ((with_reducible apply T.lss); apply rfl; apply rfl; apply rfl) | ((with_reducible apply T.addI); apply rfl; apply rfl; omega; apply rfl) | ((with_reducible apply T.ixF); apply rfl; apply rfl; infer_instance; exact (fun _ => rfl); apply rfl; omega; omega; apply rfl) | ((with_reducible apply T.fieldAddrF); apply rfl; infer_instance; exact (fun _ => rfl); apply rfl; omega; apply rfl) | ((with_reducible apply T.bs); apply rfl; apply rfl; apply rfl; apply rfl; apply rfl; apply rfl; intro nb) | ((with_reducible apply T.appendB); apply rfl; apply rfl; infer_instance; apply rfl; (constructor <;> omega); apply rfl; intro na nc) | with_reducible refine Sr.nil ?_ | with_reducible refine S.seq ?_ | with_reducible refine S.block ?_ | with_reducible refine S.reg ?_ | with_reducible refine S.skip ?_ | with_reducible refine S.inBlock ?_ | ((with_reducible apply S.condQ); apply rfl; all_goals (intro _; try (exfalso; omega))) | fail)
      refine ih2 _ _ _ _ ⟨j + 1, na, nc, ?_, rfl, by omega, rfl⟩ (by omega) (by repeat' first | exact trivial | refine And.intro rfl ?_)
      rw [take_snocB (d := 0) h2, ← List.append_assoc]
      rfl
    obtain rfl : j = q.1.length := by omega
    clear ih2
    rw [List.take_length]
    repeat' (first | ((with_reducible apply T.loadF); apply rfl; apply rfl; infer_instance; exact (fun _ => rfl); apply rfl; exact getD_some (by omega); apply rfl; apply rfl; rw [hgq]) | ((with_reducible apply T.convMU64); apply rfl; apply rfl; rw [u64_eq]) | ((with_reducible apply T.slen); apply rfl; apply rfl) | ((with_reducible apply T.mv); apply rfl; apply rfl) | ((with_reducible apply T.lss); apply rfl; apply rfl; apply rfl) | ((with_reducible apply T.ixF); apply rfl; apply rfl; infer_instance; exact (fun _ => rfl); apply rfl; omega; omega; apply rfl) | ((with_reducible apply T.fieldAddrF); apply rfl; infer_instance; exact (fun _ => rfl); apply rfl; omega; apply rfl) | with_reducible refine Sr.nil ?_ | with_reducible refine S.seq ?_ | with_reducible refine S.reg ?_ | ((with_reducible apply S.exit); apply rfl) | ((with_reducible apply S.condQ); apply rfl; all_goals (intro _; try (exfalso; omega))) | fail)
    refine T.call rfl rfl (put_spec (size := 8) (u64_lt q.2) (by omega) (by omega)) ?_
    rintro _ _ ⟨a5, c5, rfl, rfl⟩
    have hs : accL k (i + 1) = accL k i ++ beN 2 q.1.length ++ q.1 ++ beN 8 (u64 q.2) := accL_succ hq
    have hsl : (accL k i).length + 2 + q.1.length + 8 = (accL k (i + 1)).length := by
      rw [hs]
      simp [beN_len]
      omega
    repeat' (first | ((with_reducible apply T.mv); apply rfl; apply rfl) | ((with_reducible apply T.asn); apply rfl; apply rfl) | ((with_reducible apply T.addI); apply rfl; apply rfl; omega; apply rfl) | with_reducible refine Sr.nil ?_ | with_reducible refine S.reg ?_ | with_reducible refine S.inBlock ?_ | (with_reducible apply T.ofRet) | fail)
    rw [hsl, ← hs]
    exact ih _ _ _ _ ⟨i + 1, a5, c5, rfl, rfl, by omega, rfl⟩ (by omega) (by repeat' first | exact trivial | refine And.intro rfl ?_)
  · obtain rfl : i = k.ends.length := by omega
    rw [accL_all] at ha ⊢
    repeat' (first | ((with_reducible apply T.mv); apply rfl; apply rfl) | ((with_reducible apply T.len); apply rfl; apply rfl) | ((with_reducible apply T.lss); apply rfl; apply rfl; apply rfl) | with_reducible refine Sr.nil ?_ | with_reducible refine S.seq ?_ | with_reducible refine S.reg ?_ | ((with_reducible apply S.exit); apply rfl) | ((with_reducible apply S.condQ); apply rfl; all_goals (intro _; try (exfalso; omega))) | fail)
    refine T.call rfl rfl (sumF_spec (l := bodyL k) (Nat.le_refl _) (by omega)) ?_
    rintro _ _ ⟨rfl, rfl⟩
    rw [List.take_length]
    repeat' (first | (with_reducible apply T.ofRet) | fail)
    refine T.call rfl rfl (put_spec (size := 8) (fnv_lt (bodyL k)) (by omega) (by omega)) ?_
    rintro _ _ ⟨a6, c6, rfl, rfl⟩
    repeat' (first | ((with_reducible apply T.asn); apply rfl; apply rfl) | with_reducible refine Sr.nil ?_ | ((with_reducible apply T.retW); apply rfl) | (with_reducible apply T.ofRet) | fail)
    refine ⟨_, PSub.refl _, a6, c6, ?_, ?_⟩
    · rw [image_len]
    · rw [image_len]
      rfl
theorem mimage_spec {F : World} {M : List Nat} {H : List Res} {pm ac : Nat} {aa : Option Addr} {all : Ents} {k : Bk} [hB : InB H pm (mdV aa all.length ac k.has k.last) 81] [hR : Rd F M H aa (all.flatMap enV)] (hl : all.length ≤ 1000000) (hk : k.ok) (he : keptM k.last all = k.ends) :
    Meets Try.prog 20 [.pointer (some ⟨pm, 0, none⟩)] F M H (fun e H' => ∃ ad cp, e = .returned (.slice ad (imageL k).length cp) ∧ H' = .row ad cp 5 1 (imageL k).length ((imageL k).map bV) :: H) := by
  refine Meets.enter Try.func20 rfl rfl ?_
  refine S.seq ?_
  repeat' (first | ((with_reducible apply T.asn); apply rfl; apply rfl) | with_reducible refine Sr.nil ?_ | with_reducible refine S.reg ?_ | fail)
  refine S.seq ?_
  have n1 : ∀ {X : List Res} [InB X pm (mdV aa all.length ac k.has k.last) 81] [Rd F M X aa (all.flatMap enV)], Meets Try.prog 44 [.pointer (some ⟨pm, 0, none⟩)] F M X (fun e H' => ∃ oa oc, e = .returned (.slice oa k.ends.length oc) ∧ H' = .row oa oc 85 2 k.ends.length (k.ends.flatMap enV) :: X) := by
    intro X i1 i2
    have := kept_spec (F := F) (M := M) (H := X) (pm := pm) (ac := ac) (aa := aa) (all := all) (has := k.has) (clock := k.last) hl
    rw [he] at this
    exact this
  have n2 : ∀ {X : List Res} {b : Option Addr} {c : Nat} [Rd F M X b (k.ends.flatMap enV)], Meets Try.prog 43 [.bool k.has, .int .i64 k.last, .slice b k.ends.length c] F M X (fun e H' => ∃ ad cp, e = .returned (.slice ad (imageL k).length cp) ∧ H' = .row ad cp 5 1 (imageL k).length ((imageL k).map bV) :: X) := bytes_spec hk
  ((with_reducible apply S.draw); (case Hs => exact H); (case es => exact  [9, 10]); (case n => exact  12); (case hn => rfl))
  repeat' (first | (refine T.call rfl rfl (by with_reducible exact n1) ?_; rintro _ _ ⟨oa, oc, rfl, rfl⟩) | (refine T.call rfl rfl (by with_reducible exact n2) ?_; rintro _ _ ⟨wa, wc, rfl, rfl⟩) | ((with_reducible apply T.mv); apply rfl; apply rfl) | ((with_reducible apply T.asn); apply rfl; apply rfl) | ((with_reducible apply T.nilCheck); apply rfl; apply rfl) | ((with_reducible apply T.fieldAddrZ); apply rfl; apply rfl) | ((with_reducible apply T.load); apply rfl; apply rfl; infer_instance; apply rfl; apply rfl) | with_reducible refine Sr.nil ?_ | ((with_reducible apply T.retW); apply rfl) | (with_reducible apply T.ofRet) | ((with_reducible apply SA.qn); apply rfl; apply rfl; apply rfl; apply rfl; kernel_rfl) | ((with_reducible apply SA.qsn); apply rfl; apply rfl; apply rfl; kernel_rfl; (first | exact fun _ h => h | exact fun _ h => St.psub h (by ((repeat (first | dsimp only [List.set_cons_zero] | dsimp only [List.set_cons_succ])); repeat' first | exact PSub.refl _ | exact PSub.nil | ((with_reducible apply PSub.take); (repeat' first | (with_reducible exact pick_hd) | (with_reducible apply pick_tl))) | (with_reducible apply PSub.drop) | ((apply PSub.take); (repeat' first | exact pick_hd | (apply pick_tl))))))) | ((with_reducible apply SA.en); apply rfl; apply rfl; kernel_rfl) | ((with_reducible apply SA.done); apply rfl; kernel_rfl) | ((with_reducible apply SK.intro); (first | exact fun _ h => h | exact fun _ h => St.psub h (by ((repeat (first | dsimp only [List.set_cons_zero] | dsimp only [List.set_cons_succ])); repeat' first | exact PSub.refl _ | exact PSub.nil | ((with_reducible apply PSub.take); (repeat' first | (with_reducible exact pick_hd) | (with_reducible apply pick_tl))) | (with_reducible apply PSub.drop) | ((apply PSub.take); (repeat' first | exact pick_hd | (apply pick_tl))))))) | fail)
  all_goals exact ⟨.row wa wc 5 1 (imageL k).length ((imageL k).map bV) :: H, by ((repeat (first | dsimp only [List.set_cons_zero] | dsimp only [List.set_cons_succ])); repeat' first | exact PSub.refl _ | exact PSub.nil | ((with_reducible apply PSub.take); (repeat' first | (with_reducible exact pick_hd) | (with_reducible apply pick_tl))) | (with_reducible apply PSub.drop) | ((apply PSub.take); (repeat' first | exact pick_hd | (apply pick_tl)))), wa, wc, rfl, rfl⟩
theorem mlen_spec {F : World} {M : List Nat} {H : List Res} {pm ac : Nat} {aa : Option Addr} {all : Ents} {k : Bk} [hB : InB H pm (mdV aa all.length ac k.has k.last) 81] [hR : Rd F M H aa (all.flatMap enV)] (hl : all.length ≤ 1000000) (he : keptM k.last all = k.ends) :
    Meets Try.prog 42 [.pointer (some ⟨pm, 0, none⟩)] F M H (fun e H' => e = .returned (.int .i64 (k.ends.length : Nat)) ∧ H' = H) := by
  have hks := kept_spec (F := F) (M := M) (H := H) (pm := pm) (ac := ac) (aa := aa) (all := all) (has := k.has) (clock := k.last) hl
  rw [he] at hks
  refine Meets.enter Try.func42 rfl rfl ?_
  repeat' (first | ((with_reducible apply T.mv); apply rfl; apply rfl) | ((with_reducible apply T.asn); apply rfl; apply rfl) | with_reducible refine Sr.nil ?_ | with_reducible refine S.seq ?_ | with_reducible refine S.reg ?_ | fail)
  refine T.call rfl rfl hks ?_
  rintro _ _ ⟨oa, oc, rfl, rfl⟩
  repeat' (first | ((with_reducible apply T.mv); apply rfl; apply rfl) | ((with_reducible apply T.asn); apply rfl; apply rfl) | ((with_reducible apply T.len); apply rfl; apply rfl) | with_reducible refine Sr.nil ?_ | with_reducible refine S.seq ?_ | with_reducible refine S.reg ?_ | ((with_reducible apply T.retW); apply rfl) | (with_reducible apply T.ofRet) | fail)
  exact ⟨H, by ((repeat (first | dsimp only [List.set_cons_zero] | dsimp only [List.set_cons_succ])); repeat' first | exact PSub.refl _ | exact PSub.nil | ((with_reducible apply PSub.take); (repeat' first | (with_reducible exact pick_hd) | (with_reducible apply pick_tl))) | (with_reducible apply PSub.drop) | ((apply PSub.take); (repeat' first | exact pick_hd | (apply pick_tl)))), rfl, rfl⟩
theorem mlast_spec {F : World} {M : List Nat} {H : List Res} {pm ac n : Nat} {aa : Option Addr} {has : Bool} {clock : Int} [hB : InB H pm (mdV aa n ac has clock) 81] :
    Meets Try.prog 41 [.pointer (some ⟨pm, 0, none⟩)] F M H (fun e H' => e = .returned (.tuple ⟨[.int .i64 clock, .bool has]⟩) ∧ H' = H) := by
  refine Meets.enter Try.func41 rfl rfl ?_
  refine S.seq ?_
  repeat' (first | ((with_reducible apply T.asn); apply rfl; apply rfl) | with_reducible refine Sr.nil ?_ | with_reducible refine S.reg ?_ | fail)
  refine S.seq ?_
  ((with_reducible apply S.draw); (case Hs => exact H); (case es => exact  []); (case n => exact  10); (case hn => rfl))
  repeat' (first | ((with_reducible apply T.mv); apply rfl; apply rfl) | ((with_reducible apply T.asn); apply rfl; apply rfl) | ((with_reducible apply T.nilCheck); apply rfl; apply rfl) | ((with_reducible apply T.fieldAddrZ); apply rfl; apply rfl) | ((with_reducible apply T.load); apply rfl; apply rfl; infer_instance; apply rfl; apply rfl) | with_reducible refine Sr.nil ?_ | ((with_reducible apply T.retW); apply rfl) | ((with_reducible apply SA.qn); apply rfl; apply rfl; apply rfl; apply rfl; kernel_rfl) | ((with_reducible apply SA.done); apply rfl; kernel_rfl) | fail)
  exact ⟨_, PSub.refl _, rfl, rfl⟩
/-- The program's book and the document's. -/
theorem tells_spec {F : World} {M : List Nat} {H : List Res} {q mb pm ac : Nat} {aa : Option Addr} {all : Ents} {k : Bk} [hQ : InB H q (bkV mb k) 63] [hE : InE H mb (mapQ Try.prog 9 2 k.ends.length (mapD k.ends))] [hB : InB H pm (mdV aa all.length ac k.has k.last) 81] [hR : Rd F M H aa (all.flatMap enV)] (hl : all.length ≤ 1000000) (he : keptM k.last all = k.ends) :
    Meets Try.prog 19 [.pointer (some ⟨q, 0, none⟩), .pointer (some ⟨pm, 0, none⟩)] F M H (fun e H' => e = .returned (.bool true) ∧ H' = H) := by
  have hbh : (k.has == k.has) = true := by simp
  refine Meets.enter Try.func19 rfl rfl ?_
  repeat' (first | ((with_reducible apply T.mv); apply rfl; apply rfl) | ((with_reducible apply T.asn); apply rfl; apply rfl) | with_reducible refine Sr.nil ?_ | with_reducible refine S.seq ?_ | with_reducible refine S.reg ?_ | fail)
  refine T.call rfl rfl (last_in (k := k) (mb := mb)) ?_
  rintro _ _ ⟨rfl, rfl⟩
  repeat' (first | ((with_reducible apply T.mv); apply rfl; apply rfl) | ((with_reducible apply T.asn); apply rfl; apply rfl) | ((with_reducible apply T.extract); apply rfl; apply rfl; apply rfl) | with_reducible refine Sr.nil ?_ | with_reducible refine S.seq ?_ | with_reducible refine S.reg ?_ | (with_reducible apply T.ofRet) | fail)
  refine T.call rfl rfl (mlast_spec (has := k.has) (clock := k.last) (n := all.length) (ac := ac) (aa := aa)) ?_
  rintro _ _ ⟨rfl, rfl⟩
  repeat' (first | ((with_reducible apply T.mv); apply rfl; apply rfl) | ((with_reducible apply T.asn); apply rfl; apply rfl) | ((with_reducible apply T.extract); apply rfl; apply rfl; apply rfl) | with_reducible refine Sr.nil ?_ | with_reducible refine S.seq ?_ | with_reducible refine S.reg ?_ | (with_reducible apply T.ofRet) | fail)
  refine T.call rfl rfl (len_in (k := k) (mb := mb)) ?_
  rintro _ _ ⟨rfl, rfl⟩
  repeat' (first | ((with_reducible apply T.mv); apply rfl; apply rfl) | (with_reducible apply T.ofRet) | fail)
  refine T.call rfl rfl (mlen_spec (k := k) (all := all) hl he) ?_
  rintro _ _ ⟨rfl, rfl⟩
  repeat' (first | ((with_reducible apply T.eqlB); apply rfl; apply rfl; apply rfl; rw [hbh]) | ((with_reducible apply T.mv); apply rfl; apply rfl) | ((with_reducible apply T.asn); apply rfl; apply rfl) | ((with_reducible apply T.eql); apply rfl; apply rfl; apply rfl) | ((with_reducible apply T.pickT); apply rfl; apply rfl; apply rfl) | with_reducible refine Sr.nil ?_ | ((with_reducible apply T.ung); apply rfl) | ((with_reducible apply T.retW); apply rfl) | (with_reducible apply T.ofRet) | ((with_reducible apply T.gcase); apply rfl; apply rfl; all_goals (intro _; try (exfalso; omega))) | fail)
  exact ⟨_, PSub.refl _, rfl, rfl⟩
end Go.Proofs.Ytcojlgkfkifhmaa
