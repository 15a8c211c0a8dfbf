/- The walks of the statements' writer: numbers and words. -/
import Derived.Test.YtjhpbljkpbdnnaaDoorInfWa
namespace Infl
theorem Wr.ok {st : List UInt8 × Nat} {bits : List Nat} (h : Wr st bits) : st.2 < 8 ∧ (st.2 ≠ 0 → 0 < st.1.length) ∧ 8 * st.1.length ≤ bits.length + 7 := by
  have h1 := h.len
  have h2 := h.fr
  exact ⟨h2, fun _ => by omega, by omega⟩
theorem numB_succ (n k : Nat) : numB n (k + 1) = numB n k ++ [n / 2 ^ k % 2] := by simp [numB, List.range_succ]
def wordP (n l j : Nat) : List Nat := (List.range j).map fun i => n / 2 ^ (l - 1 - i) % 2
theorem wordP_succ (n l j : Nat) : wordP n l (j + 1) = wordP n l j ++ [n / 2 ^ (l - 1 - j) % 2] := by simp [wordP, List.range_succ]
theorem wordP_len (n l j : Nat) : (wordP n l j).length = j := by simp [wordP]
theorem wordP_two {n l j : Nat} : ∀ x ∈ wordP n l j, x < 2 := fun x hx => by
  simp only [wordP, List.mem_map] at hx
  obtain ⟨i, _, rfl⟩ := hx
  exact Nat.mod_lt _ (by omega)
theorem wputs_snoc (st : List UInt8 × Nat) (x : List Nat) (b : Nat) : wputs st (x ++ [b]) = wput (wputs st x) b := by rw [wputs_app]; rfl
end Infl
namespace Go.Proofs.YtjhpbljkpbdnnaaDoor
open Sg Go.IntWalk Infl
set_option maxRecDepth 100000
set_option maxHeartbeats 1000000
theorem numberW_spec {F : World} {M : List Nat} {H : List Res} {p oc n k : Nat} {oa : Option Addr} {st : List UInt8 × Nat} {bits : List Nat} (hw : Wr st bits) (hn : n < 4611686018427387904) (hk : k ≤ 64) (hl : bits.length ≤ 1000000000) :
    Meets Tryd.prog 18 [.pointer (some ⟨p, 0, none⟩), .int .i64 n, .int .i64 k] F M (.blk p (wr oa oc st) 37 :: rw_ oa oc st.1 :: H)
      (fun e H' => ∃ oa' oc', e = .returned (.tuple #[]) ∧ H' = .blk p (wr oa' oc' (wputs st (numB n k))) 37 :: rw_ oa' oc' (wputs st (numB n k)).1 :: H) := by
  refine Meets.enter Tryd.func18 rfl rfl ?_
  repeat' (first | ((with_reducible apply T.asn); apply rfl; apply rfl) | with_reducible refine Sr.nil ?_ | with_reducible refine S.seq ?_ | with_reducible refine S.block ?_ | with_reducible refine S.reg ?_ | fail)
  refine S.loopE 2 [0, 1, 2] (fun R b' μ H' e => ∃ (i : Nat) (oa : Option Addr) (oc : Nat), H' = .blk p (wr oa oc (wputs st (numB n i))) 37 :: rw_ oa oc (wputs st (numB n i)).1 :: R ∧ e = (6, .int .i64 i) :: b' ∧ i ≤ k ∧ μ = k - i) rfl rfl ?_ _ _ ⟨0, oa, oc, rfl, rfl, by omega, rfl⟩ (by repeat' first | exact trivial | refine And.intro rfl ?_)
  rintro _ _ _ ⟨i, oa, oc, rfl, rfl, hi, rfl⟩ ih
  have hwi := wr_puts hw (more := numB n i) numB_two
  have hok := hwi.ok
  rw [List.length_append, numB_len] at hok
  have hand : ∀ x : Nat, x &&& 1 = x % 2 := Nat.and_one_is_mod
  have hdl : n / 2 ^ i ≤ n := Nat.div_le_self _ _
  have hb : n / 2 ^ i % 2 < 2 := Nat.mod_lt _ (by omega)
  repeat' (first | ((with_reducible apply T.shrI64); apply rfl; apply rfl; omega; apply rfl) | ((with_reducible apply T.andI64 (n := 1)); apply rfl; apply rfl; omega; omega; apply rfl; rw [hand]) | ((with_reducible apply T.mv); apply rfl; apply rfl) | ((with_reducible apply T.lss); apply rfl; apply rfl; apply rfl) | ((with_reducible apply T.convU64); apply rfl; omega; apply rfl) | with_reducible refine Sr.nil ?_ | with_reducible refine S.seq ?_ | with_reducible refine S.block ?_ | with_reducible refine S.reg ?_ | with_reducible refine S.skip ?_ | ((with_reducible apply S.exit); apply rfl) | ((with_reducible apply T.doneW); apply rfl) | ((with_reducible apply S.condQ); apply rfl; all_goals (intro _; try (exfalso; omega))) | fail)
  · refine T.call rfl rfl (bitW_spec hb hok.1 hok.2.1 (by omega)) ?_
    rintro _ _ ⟨oa2, oc2, rfl, rfl⟩
    repeat' (first | ((with_reducible apply T.mv); apply rfl; apply rfl) | ((with_reducible apply T.asn); apply rfl; apply rfl) | ((with_reducible apply T.addI); apply rfl; apply rfl; omega; apply rfl) | with_reducible refine Sr.nil ?_ | with_reducible refine S.reg ?_ | with_reducible refine S.inBlock ?_ | (with_reducible apply T.ofRet) | fail)
    exact ih _ _ _ _ ⟨i + 1, oa2, oc2, by rw [numB_succ, wputs_snoc], rfl, by omega, rfl⟩ (by omega) (by repeat' first | exact trivial | refine And.intro rfl ?_)
  · have e : i = k := by omega
    subst e
    exact ⟨_, PSub.refl _, oa, oc, rfl, rfl⟩
theorem wordW_spec {F : World} {M : List Nat} {H : List Res} {p oc n l : Nat} {oa : Option Addr} {st : List UInt8 × Nat} {bits : List Nat} (hw : Wr st bits) (hn : n < 4611686018427387904) (hk : l ≤ 64) (hl : bits.length ≤ 1000000000) :
    Meets Tryd.prog 44 [.pointer (some ⟨p, 0, none⟩), .int .i64 n, .int .i64 l] F M (.blk p (wr oa oc st) 37 :: rw_ oa oc st.1 :: H)
      (fun e H' => ∃ oa' oc', e = .returned (.tuple #[]) ∧ H' = .blk p (wr oa' oc' (wputs st (wordB n l))) 37 :: rw_ oa' oc' (wputs st (wordB n l)).1 :: H) := by
  refine Meets.enter Tryd.func44 rfl rfl ?_
  repeat' (first | ((with_reducible apply T.mv); apply rfl; apply rfl) | ((with_reducible apply T.asn); apply rfl; apply rfl) | ((with_reducible apply T.subI); apply rfl; apply rfl; omega; apply rfl) | with_reducible refine Sr.nil ?_ | with_reducible refine S.seq ?_ | with_reducible refine S.block ?_ | with_reducible refine S.reg ?_ | fail)
  refine S.loopE 2 [0, 1, 2] (fun R b' μ H' e => ∃ (j : Nat) (v : Int) (oa : Option Addr) (oc : Nat), H' = .blk p (wr oa oc (wputs st (wordP n l j))) 37 :: rw_ oa oc (wputs st (wordP n l j)).1 :: R ∧ e = (6, .int .i64 v) :: b' ∧ (j ≤ l ∧ v + 1 + j = l) ∧ μ = l - j) rfl rfl ?_ _ _ ⟨0, (l : Int) - 1, oa, oc, rfl, rfl, ⟨by omega, by omega⟩, rfl⟩ (by repeat' first | exact trivial | refine And.intro rfl ?_)
  rintro _ _ _ ⟨j, v, oa, oc, rfl, rfl, ⟨hi, hv⟩, rfl⟩ ih
  have hwi := wr_puts hw (more := wordP n l j) wordP_two
  have hok := hwi.ok
  rw [List.length_append, wordP_len] at hok
  have hand : ∀ x : Nat, x &&& 1 = x % 2 := Nat.and_one_is_mod
  by_cases hjl : j < l
  · obtain rfl : v = ((l - 1 - j : Nat) : Int) := by omega
    have hdl : n / 2 ^ (l - 1 - j) ≤ n := Nat.div_le_self _ _
    have hb : n / 2 ^ (l - 1 - j) % 2 < 2 := Nat.mod_lt _ (by omega)
    repeat' (first | ((with_reducible apply T.shrI64); apply rfl; apply rfl; omega; apply rfl) | ((with_reducible apply T.andI64 (n := 1)); apply rfl; apply rfl; omega; omega; apply rfl; rw [hand]) | ((with_reducible apply T.mv); apply rfl; apply rfl) | ((with_reducible apply T.geq); apply rfl; apply rfl; apply rfl) | ((with_reducible apply T.convU64); apply rfl; omega; apply rfl) | with_reducible refine Sr.nil ?_ | with_reducible refine S.seq ?_ | with_reducible refine S.block ?_ | with_reducible refine S.reg ?_ | with_reducible refine S.skip ?_ | ((with_reducible apply S.condT); apply rfl) | fail)
    refine T.call rfl rfl (bitW_spec hb hok.1 hok.2.1 (by omega)) ?_
    rintro _ _ ⟨oa2, oc2, rfl, rfl⟩
    repeat' (first | ((with_reducible apply T.mv); apply rfl; apply rfl) | ((with_reducible apply T.asn); apply rfl; apply rfl) | ((with_reducible apply T.subI); apply rfl; apply rfl; omega; apply rfl) | with_reducible refine Sr.nil ?_ | with_reducible refine S.reg ?_ | with_reducible refine S.inBlock ?_ | (with_reducible apply T.ofRet) | fail)
    exact ih _ _ _ _ ⟨j + 1, ((l - 1 - j : Nat) : Int) - 1, oa2, oc2, by rw [wordP_succ, wputs_snoc], rfl, ⟨by omega, by omega⟩, rfl⟩ (by omega) (by repeat' first | exact trivial | refine And.intro rfl ?_)
  · have e : j = l := by omega
    subst e
    repeat' (first | ((with_reducible apply T.mv); apply rfl; apply rfl) | ((with_reducible apply T.geq); apply rfl; apply rfl; apply rfl) | with_reducible refine Sr.nil ?_ | with_reducible refine S.seq ?_ | with_reducible refine S.reg ?_ | ((with_reducible apply S.exit); apply rfl) | ((with_reducible apply T.doneW); apply rfl) | ((with_reducible apply S.condQ); apply rfl; all_goals (intro _; try (exfalso; omega))) | fail)
    exact ⟨_, PSub.refl _, oa, oc, rfl, rfl⟩
end Go.Proofs.YtjhpbljkpbdnnaaDoor
