/- The walks of the program's book: its sum, and Take. -/
import Derived.Test.YtcojlgkfkifhmaaRepA
namespace Go.Proofs.Ytcojlgkfkifhmaa
open Sg Go.IntWalk
set_option maxRecDepth 100000
set_option maxHeartbeats 1000000
def fnv (l : List UInt8) : Nat := l.foldl (fun h c => (h ^^^ c.toNat) * 1099511628211 % 18446744073709551616) 14695981039346656037
theorem fnv_snoc (l : List UInt8) (c : UInt8) : fnv (l ++ [c]) = (fnv l ^^^ c.toNat) * 1099511628211 % 18446744073709551616 := by rw [fnv, List.foldl_append, List.foldl_cons, List.foldl_nil, ← fnv]
theorem fnv_lt (l : List UInt8) : fnv l < 18446744073709551616 := by
  rcases List.eq_nil_or_concat l with rfl | ⟨l, c, rfl⟩
  · decide
  · rw [List.concat_eq_append, fnv_snoc]
    exact Nat.mod_lt _ (by decide)
theorem take_snocB {α : Type} {d : α} {xs : List α} {i : Nat} (h : i < xs.length) : xs.take (i + 1) = xs.take i ++ [xs.getD i d] := by
  rw [List.take_succ_eq_append_getElem h]
  simp [List.getD, h]
theorem sum_spec {F : World} {M : List Nat} {H : List Res} {c : Nat} {b : Option Addr} {bs : List UInt8} [hR : Rd F M H b (bs.map bV)] (hb : bs.length ≤ 1000000000000000) : Meets Try.prog 33 [.slice b bs.length c] F M H (fun e H' => e = .returned (.int .u64 (fnv bs : Nat)) ∧ H' = H) := by
  refine Meets.enter Try.func33 rfl rfl ?_
  repeat' (first | ((with_reducible apply T.mv); apply rfl; apply rfl) | ((with_reducible apply T.asn); apply rfl; apply rfl) | ((with_reducible apply T.len); apply rfl; apply rfl) | with_reducible refine Sr.nil ?_ | with_reducible refine S.seq ?_ | with_reducible refine S.block ?_ | with_reducible refine S.reg ?_ | fail)
  refine S.loopE 0 [6, 7] (fun R b' μ H' e => ∃ i : Nat, H' = R ∧ e = (3, .int .u64 (fnv (bs.take i) : Nat)) :: (8, .int .i64 i) :: b' ∧ i ≤ bs.length ∧ μ = bs.length - i) rfl rfl ?_ _ _ ⟨0, rfl, rfl, by omega, rfl⟩ (by repeat' first | exact trivial | refine And.intro rfl ?_)
  rintro _ _ _ ⟨i, rfl, rfl, hi, rfl⟩ ih
  have hf := fnv_lt (bs.take i)
  by_cases h1 : i < bs.length
  · have hc : (bs.getD i 0).toNat < 256 := (bs.getD i 0).toNat_lt
    have e1 : (((fnv (bs.take i) ^^^ (bs.getD i 0).toNat : Nat) : Int) * 1099511628211) % 18446744073709551616 = ((fnv (bs.take (i + 1)) : Nat) : Int) := by
      rw [take_snocB (d := 0) h1, fnv_snoc]
      omega
    repeat' (first | ((with_reducible apply T.xorU64); apply rfl; apply rfl; omega; omega; apply rfl) | ((with_reducible apply T.mulU64 (n := 1099511628211)); apply rfl; apply rfl; apply rfl; rw [e1]) | ((with_reducible apply T.mv); apply rfl; apply rfl) | ((with_reducible apply T.asn); apply rfl; apply rfl) | ((with_reducible apply T.lss); apply rfl; apply rfl; apply rfl) | ((with_reducible apply T.addI); apply rfl; apply rfl; omega; apply rfl) | ((with_reducible apply T.ixN); apply rfl; apply rfl; infer_instance; omega; (first | omega | (simp only [List.length_map]; omega) | (simp; omega)); apply rfl) | ((with_reducible apply T.loadB); apply rfl; infer_instance; omega; apply rfl) | ((with_reducible apply T.convU64); apply rfl; omega; apply rfl) | with_reducible refine Sr.nil ?_ | with_reducible refine S.seq ?_ | with_reducible refine S.block ?_ | with_reducible refine S.reg ?_ | with_reducible refine S.skip ?_ | with_reducible refine S.inBlock ?_ | ((with_reducible apply S.condQ); apply rfl; all_goals (intro _; try (exfalso; omega))) | fail)
    exact ih _ _ _ _ ⟨i + 1, rfl, rfl, by omega, rfl⟩ (by omega) (by repeat' first | exact trivial | refine And.intro rfl ?_)
  · obtain rfl : i = bs.length := by omega
    rw [List.take_length]
    repeat' (first | ((with_reducible apply T.mv); apply rfl; apply rfl) | ((with_reducible apply T.asn); apply rfl; apply rfl) | ((with_reducible apply T.lss); apply rfl; apply rfl; apply rfl) | with_reducible refine Sr.nil ?_ | with_reducible refine S.seq ?_ | with_reducible refine S.reg ?_ | ((with_reducible apply S.exit); apply rfl) | ((with_reducible apply T.retW); apply rfl) | ((with_reducible apply S.condQ); apply rfl; all_goals (intro _; try (exfalso; omega))) | fail)
    exact ⟨_, PSub.refl _, rfl, rfl⟩
end Go.Proofs.Ytcojlgkfkifhmaa
