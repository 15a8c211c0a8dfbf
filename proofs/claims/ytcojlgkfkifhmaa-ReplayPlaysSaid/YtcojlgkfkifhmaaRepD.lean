/- The walk of the program's book: Image. -/
import Derived.Test.YtcojlgkfkifhmaaRepS
/- maps -/
namespace Go.Proofs.Ytcojlgkfkifhmaa
open Sg Go.IntWalk
set_option maxRecDepth 100000
set_option maxHeartbeats 1000000
/-- A number of 64 bits, without a sign. -/
def u64 (z : Int) : Nat := (z % 18446744073709551616).toNat
theorem u64_lt (z : Int) : u64 z < 18446744073709551616 := by unfold u64; omega
theorem u64_eq (z : Int) : z % 18446744073709551616 = ((u64 z : Nat) : Int) := by unfold u64; omega
/-- An entry's bytes. -/
def ent (p : List UInt8 × Int) : List UInt8 := beN 2 p.1.length ++ p.1 ++ beN 8 (u64 p.2)
def flagB (b : Bool) : UInt8 := if b then 1 else 0
def headL (k : Bk) : List UInt8 := [82, 1, flagB k.has] ++ beN 8 (u64 k.last) ++ beN 4 k.ends.length
def bodyL (k : Bk) : List UInt8 := headL k ++ k.ends.flatMap ent
/-- A book's bytes. -/
def imageL (k : Bk) : List UInt8 := bodyL k ++ beN 8 (fnv (bodyL k))
/-- A book that can be. -/
structure Bk.ok (k : Bk) : Prop where
  len : k.ends.length ≤ 4096
  name : ∀ p ∈ k.ends, p.1.length ≤ 1024
  rise : Rise k.ends
theorem ent_len (p : List UInt8 × Int) : (ent p).length = p.1.length + 10 := by simp only [ent, List.length_append, beN_len]; omega
theorem ents_len {m : Ents} (h : ∀ p ∈ m, p.1.length ≤ 1024) : (m.flatMap ent).length ≤ m.length * 1034 := by
  induction m with
  | nil => simp
  | cons p m ih =>
    rw [List.flatMap_cons, List.length_append, ent_len, List.length_cons]
    have h1 := h p (List.mem_cons_self ..)
    have h2 := ih fun q hq => h q (List.mem_cons_of_mem _ hq)
    omega
theorem headL_len (k : Bk) : (headL k).length = 15 := by simp [headL, beN_len]
/-- The bytes ahead of the entry i. -/
def accL (k : Bk) (i : Nat) : List UInt8 := headL k ++ (k.ends.take i).flatMap ent
theorem accL_zero (k : Bk) : accL k 0 = headL k := by simp [accL]
theorem accL_all (k : Bk) : accL k k.ends.length = bodyL k := by simp [accL, bodyL]
theorem accL_succ {k : Bk} {i : Nat} {q : List UInt8 × Int} (h : k.ends[i]? = some q) : accL k (i + 1) = accL k i ++ beN 2 q.1.length ++ q.1 ++ beN 8 (u64 q.2) := by
  rw [accL, accL, List.take_add_one, h]
  simp [ent]
theorem accL_le {k : Bk} (hk : k.ok) (i : Nat) : (accL k i).length ≤ 5000000 := by
  have h1 : (k.ends.take i).length ≤ 4096 := by
    rw [List.length_take]
    have := hk.len
    omega
  have h2 := ents_len (m := k.ends.take i) fun p hp => hk.name p (List.mem_of_mem_take hp)
  rw [accL, List.length_append, headL_len]
  omega
theorem image_len (k : Bk) : (imageL k).length = (bodyL k).length + 8 := by simp [imageL, beN_len]
theorem image_spec {F : World} {M : List Nat} {H : List Res} {p mb : Nat} {k : Bk} (hk : k.ok) :
    Meets Try.prog 13 [.pointer (some ⟨p, 0, none⟩)] F M (.blk p (bkV mb k) 63 :: bkM mb k :: H) (fun e H' => ∃ ad cp, e = .returned (.slice ad (imageL k).length cp) ∧ H' = .row ad cp 5 1 (imageL k).length ((imageL k).map bV) :: .blk p (bkV mb k) 63 :: bkM mb k :: H) := by
  have hl := hk.len
  have hn := hk.name
  have hrise := hk.rise
  have hacc := accL_le hk
  refine Meets.enter Try.func13 rfl rfl ?_
  refine S.seq ?_
  repeat' (first | ((with_reducible apply T.asn); apply rfl; apply rfl) | with_reducible refine Sr.nil ?_ | with_reducible refine S.reg ?_ | fail)
  refine S.seq ?_
  repeat' (first | ((with_reducible apply T.asn); apply rfl; apply rfl) | with_reducible refine Sr.nil ?_ | with_reducible refine S.reg ?_ | fail)
  refine S.seq ?_
  refine S.cut (fun H' e' => H' = .blk p (bkV mb k) 63 :: bkM mb k :: H ∧ e' = [(3, .int .u8 (flagB k.has).toNat), (0, .pointer (some ⟨p, 0, none⟩))]) ?_ ?_
  · intro k' hrest
    by_cases hb : k.has = true
    · unfold bkV at hrest ⊢
      rw [hb] at hrest ⊢
      repeat' (first | ((with_reducible apply T.mv); apply rfl; apply rfl) | ((with_reducible apply T.asn); apply rfl; apply rfl) | ((with_reducible apply T.nilCheck); apply rfl; apply rfl) | ((with_reducible apply T.fieldAddrZ); apply rfl; apply rfl) | ((with_reducible apply T.load); apply rfl; apply rfl; infer_instance; apply rfl; apply rfl) | with_reducible refine Sr.nil ?_ | with_reducible refine S.seq ?_ | with_reducible refine S.reg ?_ | ((with_reducible apply S.condT); apply rfl) | fail)
      exact hrest _ _ _ ⟨rfl, rfl⟩ (by repeat' first | exact trivial | refine And.intro rfl ?_)
    · rw [Bool.not_eq_true] at hb
      unfold bkV at hrest ⊢
      rw [hb] at hrest ⊢
      repeat' (first | ((with_reducible apply T.mv); apply rfl; apply rfl) | ((with_reducible apply T.nilCheck); apply rfl; apply rfl) | ((with_reducible apply T.fieldAddrZ); apply rfl; apply rfl) | ((with_reducible apply T.load); apply rfl; apply rfl; infer_instance; apply rfl; apply rfl) | with_reducible refine Sr.nil ?_ | with_reducible refine S.seq ?_ | with_reducible refine S.reg ?_ | with_reducible refine S.skip ?_ | ((with_reducible apply S.condF); apply rfl) | fail)
      all_goals exact hrest _ _ _ ⟨rfl, rfl⟩ (by repeat' first | exact trivial | refine And.intro rfl ?_)
  rintro _ _ ⟨rfl, rfl⟩
  repeat' (first | ((with_reducible apply T.mv); apply rfl; apply rfl) | ((with_reducible apply T.asn); apply rfl; apply rfl) | ((with_reducible apply T.nilCheck); apply rfl; apply rfl) | ((with_reducible apply T.fieldAddrZ); apply rfl; apply rfl) | ((with_reducible apply T.load); apply rfl; apply rfl; infer_instance; apply rfl; apply rfl) | ((with_reducible apply T.bs); apply rfl; apply rfl; apply rfl; apply rfl; apply rfl; apply rfl; intro nb) | with_reducible refine Sr.nil ?_ | with_reducible refine S.seq ?_ | with_reducible refine S.reg ?_ | fail)
  refine Sr.rowOf (n := 3) rfl (by decide) ?_
  have hl3 : [Value.int .u8 82, Value.int .u8 1, Value.int .u8 (flagB k.has).toNat] = ([82, 1, flagB k.has] : List UInt8).map bV := rfl
  rw [hl3]
  repeat' (first | ((with_reducible apply T.convMU64); apply rfl; apply rfl; rw [u64_eq]) | fail)
  refine T.call rfl rfl (number_spec (size := 8) (u64_lt k.last) (by omega)) ?_
  rintro _ _ ⟨b1, rfl, rfl⟩
  repeat' (first | ((with_reducible apply T.mapLen); apply rfl; infer_instance; apply rfl) | ((with_reducible apply T.appendBs); apply rfl; apply rfl; infer_instance; infer_instance; (first | rfl | assumption | exact beN_len _ _ | (simp; done) | (simp; omega)); omega; apply rfl; intro na nc) | ((with_reducible apply T.mv); apply rfl; apply rfl) | ((with_reducible apply T.asn); apply rfl; apply rfl) | ((with_reducible apply T.nilCheck); apply rfl; apply rfl) | ((with_reducible apply T.fieldAddrZ); apply rfl; apply rfl) | ((with_reducible apply T.load); apply rfl; apply rfl; infer_instance; apply rfl; apply rfl) | ((with_reducible apply T.convU64); apply rfl; omega; apply rfl) | with_reducible refine Sr.nil ?_ | with_reducible refine S.seq ?_ | with_reducible refine S.reg ?_ | (with_reducible apply T.ofRet) | fail)
  refine T.call rfl rfl (number_spec (n := k.ends.length) (size := 4) (by omega) (by omega)) ?_
  rintro _ _ ⟨b2, rfl, rfl⟩
  repeat' (first | ((with_reducible apply T.appendBs); apply rfl; apply rfl; infer_instance; infer_instance; (first | rfl | assumption | exact beN_len _ _ | (simp; done) | (simp; omega)); omega; apply rfl; intro na nc) | ((with_reducible apply T.mv); apply rfl; apply rfl) | ((with_reducible apply T.asn); apply rfl; apply rfl) | ((with_reducible apply T.nilCheck); apply rfl; apply rfl) | ((with_reducible apply T.fieldAddrZ); apply rfl; apply rfl) | ((with_reducible apply T.load); apply rfl; apply rfl; infer_instance; apply rfl; apply rfl) | with_reducible refine Sr.nil ?_ | with_reducible refine S.seq ?_ | with_reducible refine S.reg ?_ | (with_reducible apply T.ofRet) | fail)
  refine T.call rfl rfl keys_spec ?_
  rintro _ _ ⟨cb, rfl, rfl⟩
  repeat' (first | (with_reducible apply T.ofRet) | fail)
  refine T.call rfl rfl (sorted_spec inferInstance inferInstance hrise (by omega)) ?_
  rintro _ _ ⟨sa, sc, rfl, rfl⟩
  repeat' (first | ((with_reducible apply T.mv); apply rfl; apply rfl) | ((with_reducible apply T.len); apply rfl; apply rfl) | with_reducible refine Sr.nil ?_ | with_reducible refine S.block ?_ | (with_reducible apply T.ofRet) | fail)
  refine S.frontR na ?_
  have e15 : 3 + 8 + 4 = (accL k 0).length := by rw [accL_zero, headL_len]
  have e16 : [82, 1, flagB k.has] ++ beN 8 (u64 k.last) ++ beN 4 k.ends.length = accL k 0 := by rw [accL_zero]; rfl
  rw [e15, e16]
  refine S.loopE 1 [0, 35, 36] (fun R b' μ H' e => ∃ (i : Nat) (ad : Option Addr) (cp : Nat), H' = .row ad cp 5 1 (accL k i).length ((accL k i).map bV) :: R ∧ e = (4, .slice ad (accL k i).length cp) :: (37, .int .i64 i) :: b' ∧ i ≤ k.ends.length ∧ μ = k.ends.length - i) rfl rfl ?_ _ _ ⟨0, _, _, rfl, rfl, by omega, rfl⟩ (by repeat' first | exact trivial | refine And.intro rfl ?_)
  rintro _ _ _ ⟨i, ad, cp, rfl, rfl, hi, rfl⟩ ih
  have ha := hacc i
  by_cases h1 : i < k.ends.length
  · obtain ⟨q, hq⟩ : ∃ q, k.ends[i]? = some q := ⟨_, List.getElem?_eq_getElem h1⟩
    have hqm : q ∈ k.ends := List.mem_of_getElem? hq
    have hqn := hn q hqm
    have hqg : eget k.ends q.1 = some q.2 := once_get hrise.once hqm
    have hqs : (k.ends.map (·.1)).getD i [] = q.1 := by simp [List.getD, hq]
    have hq2 : (eget k.ends q.1).getD 0 = q.2 := by rw [hqg]; rfl
    repeat' (first | ((with_reducible apply T.loadS); apply rfl; infer_instance; (simp only [List.length_map]; omega); apply rfl; rw [hqs]) | ((with_reducible apply T.slen); apply rfl; apply rfl) | ((with_reducible apply T.mv); apply rfl; apply rfl) | ((with_reducible apply T.asn); apply rfl; apply rfl) | ((with_reducible apply T.lss); apply rfl; apply rfl; apply rfl) | ((with_reducible apply T.ixN); apply rfl; apply rfl; infer_instance; omega; (first | omega | (simp only [List.length_map]; omega) | (simp; omega)); apply rfl) | ((with_reducible apply T.convU64); apply rfl; omega; apply rfl) | with_reducible refine Sr.nil ?_ | with_reducible refine S.seq ?_ | with_reducible refine S.block ?_ | with_reducible refine S.reg ?_ | with_reducible refine S.skip ?_ | ((with_reducible apply S.condQ); apply rfl; all_goals (intro _; try (exfalso; omega))) | fail)
    refine T.call rfl rfl (number_spec (n := q.1.length) (size := 2) (by omega) (by omega)) ?_
    rintro _ _ ⟨b3, rfl, rfl⟩
    repeat' (first | ((with_reducible apply T.mapLook); apply rfl; apply rfl; infer_instance; (simp only [maxLen]; omega); apply rfl; rw [hq2]) | ((with_reducible apply T.appendBs); apply rfl; apply rfl; infer_instance; infer_instance; (first | rfl | assumption | exact beN_len _ _ | (simp; done) | (simp; omega)); omega; apply rfl; intro na nc) | ((with_reducible apply T.appendS); apply rfl; apply rfl; infer_instance; omega; apply rfl; intro na nc) | ((with_reducible apply T.mv); apply rfl; apply rfl) | ((with_reducible apply T.asn); apply rfl; apply rfl) | ((with_reducible apply T.nilCheck); apply rfl; apply rfl) | ((with_reducible apply T.fieldAddrZ); apply rfl; apply rfl) | ((with_reducible apply T.load); apply rfl; apply rfl; infer_instance; apply rfl; apply rfl) | with_reducible refine Sr.nil ?_ | with_reducible refine S.seq ?_ | with_reducible refine S.reg ?_ | (with_reducible apply T.ofRet) | fail)
    with_reducible apply T.convMU64
    apply rfl
    apply rfl
    rw [u64_eq]
    refine T.call rfl rfl (number_spec (size := 8) (u64_lt q.2) (by omega)) ?_
    rintro _ _ ⟨b4, rfl, rfl⟩
    have hs : accL k (i + 1) = accL k i ++ beN 2 q.1.length ++ q.1 ++ beN 8 (u64 q.2) := accL_succ hq
    have hsl : (accL k i).length + 2 + q.1.length + 8 = (accL k (i + 1)).length := by
      rw [hs]
      simp [beN_len]
      omega
    repeat' (first | ((with_reducible apply T.appendBs); apply rfl; apply rfl; infer_instance; infer_instance; (first | rfl | assumption | exact beN_len _ _ | (simp; done) | (simp; omega)); omega; apply rfl; intro na nc) | ((with_reducible apply T.mv); apply rfl; apply rfl) | ((with_reducible apply T.asn); apply rfl; apply rfl) | ((with_reducible apply T.addI); apply rfl; apply rfl; omega; apply rfl) | with_reducible refine Sr.nil ?_ | with_reducible refine S.reg ?_ | with_reducible refine S.inBlock ?_ | (with_reducible apply T.ofRet) | fail)
    rw [hsl, ← hs]
    refine S.sublist (ih _ _ _ _ ⟨i + 1, na, nc, rfl, rfl, by omega, rfl⟩ (by omega) (by repeat' first | exact trivial | refine And.intro rfl ?_)) (by ((repeat (first | dsimp only [List.set_cons_zero] | dsimp only [List.set_cons_succ])); repeat' first | exact PSub.refl _ | exact PSub.nil | ((with_reducible apply PSub.take); (repeat' first | (with_reducible exact pick_hd) | (with_reducible apply pick_tl))) | (with_reducible apply PSub.drop) | ((apply PSub.take); (repeat' first | exact pick_hd | (apply pick_tl)))))
  · obtain rfl : i = k.ends.length := by omega
    rw [accL_all] at ha ⊢
    repeat' (first | ((with_reducible apply T.mv); apply rfl; apply rfl) | ((with_reducible apply T.lss); apply rfl; apply rfl; apply rfl) | with_reducible refine Sr.nil ?_ | with_reducible refine S.seq ?_ | with_reducible refine S.reg ?_ | ((with_reducible apply S.exit); apply rfl) | ((with_reducible apply S.condQ); apply rfl; all_goals (intro _; try (exfalso; omega))) | fail)
    refine T.call rfl rfl (sum_spec (bs := bodyL k) (by omega)) ?_
    rintro _ _ ⟨rfl, rfl⟩
    repeat' (first | (with_reducible apply T.ofRet) | fail)
    refine T.call rfl rfl (number_spec (size := 8) (fnv_lt (bodyL k)) (by omega)) ?_
    rintro _ _ ⟨b5, rfl, rfl⟩
    repeat' (first | ((with_reducible apply T.appendBs); apply rfl; apply rfl; infer_instance; infer_instance; (first | rfl | assumption | exact beN_len _ _ | (simp; done) | (simp; omega)); omega; apply rfl; intro na nc) | ((with_reducible apply T.asn); apply rfl; apply rfl) | with_reducible refine Sr.nil ?_ | ((with_reducible apply T.retW); apply rfl) | (with_reducible apply T.ofRet) | fail)
    refine ⟨.row na nc 5 1 (imageL k).length ((imageL k).map bV) :: .blk p (bkV mb k) 63 :: bkM mb k :: H, ?_, na, nc, ?_, rfl⟩
    · rw [image_len, imageL]
      ((repeat (first | dsimp only [List.set_cons_zero] | dsimp only [List.set_cons_succ])); repeat' first | exact PSub.refl _ | exact PSub.nil | ((with_reducible apply PSub.take); (repeat' first | (with_reducible exact pick_hd) | (with_reducible apply pick_tl))) | (with_reducible apply PSub.drop) | ((apply PSub.take); (repeat' first | exact pick_hd | (apply pick_tl))))
    · rw [image_len]
end Go.Proofs.Ytcojlgkfkifhmaa
