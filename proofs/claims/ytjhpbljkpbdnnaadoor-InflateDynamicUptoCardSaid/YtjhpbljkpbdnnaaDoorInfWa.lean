/- The walks of the statements' writer. -/
import Derived.Test.YtjhpbljkpbdnnaaDoorInfLa
import Derived.Test.YtjhpbljkpbdnnaaDoorInfAl
import Derived.Test.YtjhpbljkpbdnnaaDoorMoreB
namespace Go.Proofs.YtjhpbljkpbdnnaaDoor
open Sg Go.IntWalk Infl
set_option maxRecDepth 100000
set_option maxHeartbeats 1000000
/-- The writer's block. -/
abbrev wr (oa : Option Addr) (oc : Nat) (st : List UInt8 × Nat) : List Value := [.slice oa st.1.length oc, .int .i64 st.2]
theorem bitW_spec {F : World} {M : List Nat} {H : List Res} {p oc b : Nat} {oa : Option Addr} {st : List UInt8 × Nat} (hb : b < 2) (hf : st.2 < 8) (hne : st.2 ≠ 0 → 0 < st.1.length) (hl : st.1.length ≤ 1000000000) :
    Meets Tryd.prog 42 [.pointer (some ⟨p, 0, none⟩), .int .i64 b] F M (.blk p (wr oa oc st) 37 :: rw_ oa oc st.1 :: H)
      (fun e H' => ∃ oa' oc', e = .returned (.tuple #[]) ∧ H' = .blk p (wr oa' oc' (wput st b)) 37 :: rw_ oa' oc' (wput st b).1 :: H) := by
  obtain ⟨out, fr⟩ := st
  simp only at hf hne hl
  dsimp only [wr]
  refine Meets.enter Tryd.func42 rfl rfl ?_
  have key : ∀ (out1 : List UInt8) (f1 : Nat), (fr = 0 → out1 = out ++ [0] ∧ f1 = 8) → (fr ≠ 0 → out1 = out ∧ f1 = fr) → 0 < out1.length ∧ 1 ≤ f1 ∧ f1 ≤ 8 ∧ out1.length ≤ 1000000001 ∧
      wput (out, fr) b = (out1.set (out1.length - 1) (UInt8.ofNat ((out1.getD (out1.length - 1) 0).toNat ||| b * 2 ^ (8 - f1))), f1 - 1) := by
    intro out1 f1 h1 h2
    unfold wput
    by_cases h0 : fr = 0
    · obtain ⟨rfl, rfl⟩ := h1 h0
      simp only [h0, if_true, List.length_append, List.length_cons, List.length_nil, Nat.add_sub_cancel]
      refine ⟨by omega, by omega, by omega, by omega, ?_⟩
      rw [getD_snoc_at, List.set_append_right _ _ (Nat.le_refl _), Nat.sub_self]
      rfl
    · obtain ⟨rfl, rfl⟩ := h2 h0
      simp only [if_neg h0]
      exact ⟨hne h0, by omega, by omega, by omega, trivial⟩
  refine S.seq ?_
  refine S.cut (fun H' e' => ∃ (out1 : List UInt8) (f1 : Nat) (oa1 : Option Addr) (oc1 : Nat), (fr = 0 → out1 = out ++ [0] ∧ f1 = 8) ∧ (fr ≠ 0 → out1 = out ∧ f1 = fr) ∧ H' = .blk p (wr oa1 oc1 (out1, f1)) 37 :: rw_ oa1 oc1 out1 :: H ∧ e' = [(0, .pointer (some ⟨p, 0, none⟩)), (1, .int .i64 b)]) ?_ ?_
  · intro k' hrest
    repeat' (first | ((with_reducible apply T.mv); apply rfl; apply rfl) | ((with_reducible apply T.nilCheck); apply rfl; apply rfl) | ((with_reducible apply T.fieldAddrZ); apply rfl; apply rfl) | ((with_reducible apply T.load); apply rfl; apply rfl; infer_instance; apply rfl; apply rfl) | ((with_reducible apply T.eql); apply rfl; apply rfl; apply rfl) | ((with_reducible apply T.store); apply rfl; apply rfl; infer_instance; (first | decide | (simp; omega) | simp); apply rfl) | ((with_reducible apply T.bs); apply rfl; apply rfl; apply rfl; apply rfl; apply rfl; apply rfl; intro nb) | ((with_reducible apply T.append); apply rfl; apply rfl; infer_instance; (first | rfl | (simp; done)); (first | rfl | (simp; done)); apply rfl; apply rfl; (constructor <;> omega); apply rfl; intro na nc) | with_reducible refine Sr.nil ?_ | with_reducible refine S.seq ?_ | with_reducible refine S.reg ?_ | with_reducible refine S.skip ?_ | ((with_reducible apply S.condQ); apply rfl; all_goals (intro _; try (exfalso; omega))) | fail)
    · have e1 : List.map bV out ++ [Value.int .u8 0] = (out ++ [0]).map bV := by rw [List.map_append]; rfl
      have e0 : out.length + 1 = (out ++ [0]).length := by simp
      rw [e1, e0]
      exact hrest _ _ _ ⟨out ++ [0], 8, na, nc, fun _ => ⟨rfl, rfl⟩, fun h => absurd (by omega) h, rfl, rfl⟩ (by repeat' first | exact trivial | refine And.intro rfl ?_)
    · exact hrest _ _ _ ⟨out, fr, oa, oc, fun h => absurd h (by omega), fun _ => ⟨rfl, rfl⟩, rfl, rfl⟩ (by repeat' first | exact trivial | refine And.intro rfl ?_)
  rintro _ _ ⟨out1, f1, oa1, oc1, g1, g2, rfl, rfl⟩
  obtain ⟨k1, k2, k3, k4, k5⟩ := key out1 f1 g1 g2
  rw [k5]
  clear k5 key g1 g2 hf hne hl
  dsimp only [wr]
  have e2 : (8 : Int) - (f1 : Int) = ((8 - f1 : Nat) : Int) := by omega
  have e3 : b * 2 ^ (8 - f1) < 256 := by
    have h1 : 2 ^ (8 - f1) ≤ 2 ^ 7 := Nat.pow_le_pow_right (by omega) (by omega)
    have h2 : b * 2 ^ (8 - f1) ≤ 1 * 2 ^ 7 := Nat.mul_le_mul (by omega) h1
    omega
  have e4 : ∀ (x : UInt8) (q : Nat), q < 256 → (x.toNat ||| q : Nat) = (UInt8.ofNat (x.toNat ||| q)).toNat := fun x q hq => by
    have h1 := x.toNat_lt
    have h2 : x.toNat ||| q < 2 ^ 8 := Nat.or_lt_two_pow (by omega) (by omega)
    rw [UInt8.toNat_ofNat', Nat.mod_eq_of_lt (by omega)]
  refine S.seq ?_
  ((with_reducible apply S.draw); (case Hs => exact .blk p [.slice oa1 out1.length oc1, .int .i64 f1] 37 :: H); (case es => exact  [33]); (case n => exact  34); (case hn => rfl))
  generalize hq : b * 2 ^ (8 - f1) = q at *
  repeat' (first | ((with_reducible apply T.subI (m := 8)); apply rfl; apply rfl; omega; apply rfl; rw [e2]) | ((with_reducible apply T.shlI64); apply rfl; apply rfl; (rw [hq]; omega); omega; apply rfl; rw [hq]) | ((with_reducible apply T.orU8); apply rfl; apply rfl; (exact UInt8.toNat_lt _); omega; apply rfl) | ((with_reducible apply T.mv); apply rfl; apply rfl) | ((with_reducible apply T.len); apply rfl; apply rfl) | ((with_reducible apply T.nilCheck); apply rfl; apply rfl) | ((with_reducible apply T.fieldAddrZ); apply rfl; apply rfl) | ((with_reducible apply T.load); apply rfl; apply rfl; infer_instance; apply rfl; apply rfl) | ((with_reducible apply T.subI); apply rfl; apply rfl; omega; apply rfl) | ((with_reducible apply T.ix1); apply rfl; apply rfl; infer_instance; omega; (first | omega | (simp only [List.length_map]; omega) | (simp; omega)); apply rfl) | ((with_reducible apply T.loadB); apply rfl; infer_instance; omega; apply rfl) | ((with_reducible apply T.convU8); apply rfl; omega; apply rfl) | ((with_reducible apply T.convU64); apply rfl; omega; apply rfl) | ((with_reducible apply T.store); apply rfl; apply rfl; infer_instance; (first | decide | (simp; omega) | simp); apply rfl) | ((with_reducible apply T.storeE); apply rfl; apply rfl; infer_instance; (first | omega | (simp only [List.length_map]; omega) | (simp; omega)); apply rfl) | with_reducible refine Sr.nil ?_ | with_reducible refine S.reg ?_ | ((with_reducible apply T.doneW); apply rfl) | ((with_reducible apply SA.qn); apply rfl; apply rfl; apply rfl; apply rfl; kernel_rfl) | ((with_reducible apply SA.en); apply rfl; apply rfl; kernel_rfl) | ((with_reducible apply SA.done); apply rfl; kernel_rfl) | ((with_reducible apply SK.intro); (first | exact fun _ h => h | exact fun _ h => St.psub h (by ((repeat (first | dsimp only [List.set_cons_zero] | dsimp only [List.set_cons_succ])); repeat' first | exact PSub.refl _ | exact PSub.nil | ((with_reducible apply PSub.take); (repeat' first | (with_reducible exact pick_hd) | (with_reducible apply pick_tl))) | (with_reducible apply PSub.drop) | ((apply PSub.take); (repeat' first | exact pick_hd | (apply pick_tl))))))) | fail)
  refine ⟨_, PSub.refl _, oa1, oc1, rfl, ?_⟩
  have e5 : ((out1.length : Int) - 1).toNat = out1.length - 1 := by omega
  have e6 : (f1 : Int) - 1 = ((f1 - 1 : Nat) : Int) := by omega
  rw [e5, e6, e4 _ _ e3]
  simp [List.map_set, bV]
end Go.Proofs.YtjhpbljkpbdnnaaDoor
