/- Slices of the statements' tokens, and of numbers, handed in. -/
import Derived.Test.YtjhpbljkpbdnnaaDoorInfWe
import Derived.Test.YtjhpbljkpbdnnaaDoorLawR
import Derived.Test.YtjhpbljkpbdnnaaDoorInfX1
namespace Go.Proofs.YtjhpbljkpbdnnaaDoor
open Sg Go Go.ChangeShapes Go.WideShapes Go.RowKit Infl
theorem c67 : Tryd.prog.cellsOf 67 = 3 := by kernel_rfl
theorem tok_elem {H : Type} {enc : TypeId × Value → H} {W : World} {n : Nat} {cs : List Value} {x : DataW H × List MemPlace} (h : DataW.trod enc Tryd.prog W 0 (fun _ => true) true n 67 cs = some x) : ∃ a : Rk, cs = rkV a := by
  obtain ⟨xs, m, rfl, rfl, hl, hx, hf⟩ := DataW.trod_struct Tryd.underlying67 h
  rw [c67] at hl
  have f0 : DataW.trod enc Tryd.prog W 0 (fun _ => true) true m 5 ((cs.drop 0).take (Tryd.prog.cellsOf 5)) = xs[0]? := hf 0 _ rfl
  have f1 : DataW.trod enc Tryd.prog W 0 (fun _ => true) true m 3 ((cs.drop 1).take (Tryd.prog.cellsOf 3)) = xs[1]? := hf 1 _ rfl
  have f2 : DataW.trod enc Tryd.prog W 0 (fun _ => true) true m 3 ((cs.drop 2).take (Tryd.prog.cellsOf 3)) = xs[2]? := hf 2 _ rfl
  rw [c5] at f0
  rw [c3] at f1 f2
  have hx' : xs.length = 3 := hx
  rw [List.getElem?_eq_getElem (by omega)] at f0 f1 f2
  obtain ⟨z0, e0, _, w0⟩ := DataW.trod_int Tryd.underlying5 f0
  obtain ⟨z1, e1, _, _⟩ := DataW.trod_int Tryd.underlying3 f1
  obtain ⟨z2, e2, _, _⟩ := DataW.trod_int Tryd.underlying3 f2
  match cs, hl with
  | [a, b, c], _ =>
    simp only [List.drop_succ_cons, List.drop_zero, List.take_succ_cons, List.take_zero, List.cons.injEq, and_true] at e0 e1 e2
    subst e0 e1 e2
    refine ⟨(UInt8.ofNat z0.toNat, z1, z2), ?_⟩
    have := u8_of_wf w0
    simp
    omega
theorem open_toks {H : Type} {enc : TypeId × Value → H} {W : World} {b0 : Nat} {v : Value} {d : DataW H} {ps : List MemPlace} (hval : Value.okWide Tryd.prog W .any b0 31 v) (hd : DataW.Trod enc Tryd.prog W 0 (fun _ => true) true 31 v d ps) :
    ∃ (ad : Option Addr) (cp : Nat) (xs : List Rk), v = .slice ad xs.length cp ∧ xs.length ≤ cp ∧ (cp = 0 ∨ ∃ el sp, d = .slice el sp ∧ el.length + sp.length = cp) ∧ ∀ H', Rd W [] H' ad (xs.flatMap rkV) :=
  open_slice_recs (g := rkV) (sz := 3) (fun _ => rfl) (by omega) tok_elem Tryd.underlying31 c67 hval hd
end Go.Proofs.YtjhpbljkpbdnnaaDoor
