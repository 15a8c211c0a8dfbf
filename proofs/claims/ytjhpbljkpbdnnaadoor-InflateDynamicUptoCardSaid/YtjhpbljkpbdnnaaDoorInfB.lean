/- The walks of the program's reader. -/
import Derived.Test.YtjhpbljkpbdnnaaDoorFacts
namespace Go.Proofs.YtjhpbljkpbdnnaaDoor
open Sg Go.IntWalk
set_option maxRecDepth 100000

/-- What the reader gives up with. -/
abbrev gave (code : Int) : Ending := .panicked [⟨.iface 55 (.agg #[.int .i64 code]), false, false⟩]
theorem give_spec {F : World} {M : List Nat} {H : List Res} (code : Int) : Meets Tryd.prog 54 [.int .i64 code] F M H (fun e H' => e = gave code ∧ H' = H) := by
  refine Meets.enter Tryd.func54 rfl rfl ?_
  repeat' (first | ((with_reducible apply T.mv); apply rfl; apply rfl) | ((with_reducible apply T.buildL); apply rfl; apply rfl; apply rfl) | ((with_reducible apply T.makeI); apply rfl; apply rfl; apply rfl) | with_reducible refine S.reg ?_ | fail)
  refine T.panic rfl ?_
  repeat' (first | (with_reducible apply T.diesW) | fail)
  exact ⟨_, .refl _, rfl, rfl⟩

theorem put_spec {F : World} {M : List Nat} {H : List Res} {p c oc : Nat} {b oa : Option Addr} {n : Nat} {pos bits m most : Int} {out : List UInt8} (ch : UInt8) (hl : out.length ≤ 1048576):
    Meets Tryd.prog 63 [.pointer (some ⟨p, 0, none⟩), .int .u8 ch.toNat] F M (.blk p [.slice b n c, .int .i64 pos, .int .u32 bits, .int .i64 m, .int .i64 most, .slice oa out.length oc] 59 :: .row oa oc 5 1 out.length (out.map bV) :: H)
     (fun e H' => if (out.length : Int) = most then e = gave 10 ∧ H' = (.blk p [.slice b n c, .int .i64 pos, .int .u32 bits, .int .i64 m, .int .i64 most, .slice oa out.length oc] 59 :: .row oa oc 5 1 out.length (out.map bV) :: H) else
       ∃ oa oc, e = .returned (.tuple #[]) ∧ H' = (.blk p [.slice b n c, .int .i64 pos, .int .u32 bits, .int .i64 m, .int .i64 most, .slice oa (out ++ [ch]).length oc] 59 :: .row oa oc 5 1 (out ++ [ch]).length ((out ++ [ch]).map bV) :: H)) := by
  refine Meets.enter Tryd.func63 rfl rfl ?_
  repeat' (first | ((with_reducible apply T.mv); apply rfl; apply rfl) | ((with_reducible apply T.len); apply rfl; apply rfl) | ((with_reducible apply T.nilCheck); apply rfl; apply rfl) | ((with_reducible apply T.fieldAddrZ); apply rfl; apply rfl) | ((with_reducible apply T.load); apply rfl; apply rfl; infer_instance; apply rfl; apply rfl) | ((with_reducible apply T.eql); apply rfl; apply rfl; apply rfl) | ((with_reducible apply T.store); apply rfl; apply rfl; infer_instance; (first | decide | (simp; omega) | simp); apply rfl) | ((with_reducible apply T.bs); apply rfl; apply rfl; apply rfl; apply rfl; apply rfl; apply rfl; intro nb) | ((with_reducible apply T.appendB); apply rfl; apply rfl; infer_instance; apply rfl; (constructor <;> omega); apply rfl; intro na nc) | with_reducible refine Sr.nil ?_ | with_reducible refine S.seq ?_ | with_reducible refine S.reg ?_ | with_reducible refine S.skip ?_ | ((with_reducible apply S.quiet); apply rfl; kernel_rfl) | ((with_reducible apply T.doneW); apply rfl) | ((with_reducible apply S.condQ); apply rfl; all_goals (intro _; try (exfalso; omega))) | fail)
  · refine T.call rfl rfl (give_spec 10) ?_
    rintro _ _ ⟨rfl, rfl⟩
    repeat' (first | (with_reducible apply T.diesW) | (with_reducible apply T.ofPan) | fail)
    refine ⟨_, .refl _, ?_⟩
    simp [*, gave]
  · refine ⟨_, .refl _, ?_⟩
    dsimp only
    rw [if_neg (by assumption)]
    exact ⟨na, nc, rfl, by simp⟩
end Go.Proofs.YtjhpbljkpbdnnaaDoor
