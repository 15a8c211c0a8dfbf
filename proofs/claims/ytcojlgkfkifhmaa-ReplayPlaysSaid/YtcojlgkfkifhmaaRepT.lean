/- Scripts handed in. -/
import Derived.Test.YtcojlgkfkifhmaaRepF
import Derived.Test.YtcojlgkfkifhmaaLawR
import Derived.Test.YtcojlgkfkifhmaaLawP
namespace Go.Proofs.Ytcojlgkfkifhmaa
open Sg Go Go.ChangeShapes Go.WideShapes Go.RowKit
set_option maxRecDepth 100000
theorem own : ownKnob Try.prog.godebug = none := by kernel_rfl
theorem laidOut : laidOutB Try.prog = true := by kernel_rfl
theorem c2 : Try.prog.cellsOf 2 = 1 := by kernel_rfl
theorem c3 : Try.prog.cellsOf 3 = 1 := by kernel_rfl
theorem c5 : Try.prog.cellsOf 5 = 1 := by kernel_rfl
theorem c9 : Try.prog.cellsOf 9 = 1 := by kernel_rfl
theorem c27 : Try.prog.cellsOf 27 = 4 := by kernel_rfl
theorem by5 : Try.prog.bytesOf 5 = 1 := by kernel_rfl
theorem by27 : Try.prog.bytesOf 27 = 40 := by kernel_rfl
/-- A call that can be. -/
def OpOk (o : OpR) : Prop := o.jti.length ≤ maxLen ∧ (Lit.int .i64 o.til).wf = true ∧ (Lit.int .i64 o.now).wf = true
abbrev OpS := { o : OpR // OpOk o }
instance : Inhabited OpS := ⟨⟨⟨0, [], 0, 0⟩, Nat.zero_le _, rfl, rfl⟩⟩
theorem op_elem {H : Type} {enc : TypeId × Value → H} {W : World} {n : Nat} {cs : List Value} {x : DataW H × List MemPlace} (h : DataW.trod enc Try.prog W 0 (fun _ => true) true n 27 cs = some x) : ∃ a : OpS, cs = opV a.1 := by
  obtain ⟨xs, m, rfl, rfl, hl, hx, hf⟩ := DataW.trod_struct Try.underlying27 h
  rw [c27] at hl
  have f0 : DataW.trod enc Try.prog W 0 (fun _ => true) true m 3 ((cs.drop 0).take (Try.prog.cellsOf 3)) = xs[0]? := hf 0 _ rfl
  have f1 : DataW.trod enc Try.prog W 0 (fun _ => true) true m 9 ((cs.drop 1).take (Try.prog.cellsOf 9)) = xs[1]? := hf 1 _ rfl
  have f2 : DataW.trod enc Try.prog W 0 (fun _ => true) true m 2 ((cs.drop 2).take (Try.prog.cellsOf 2)) = xs[2]? := hf 2 _ rfl
  have f3 : DataW.trod enc Try.prog W 0 (fun _ => true) true m 2 ((cs.drop 3).take (Try.prog.cellsOf 2)) = xs[3]? := hf 3 _ rfl
  rw [c3] at f0
  rw [c9] at f1
  rw [c2] at f2 f3
  have hx' : xs.length = 4 := hx
  rw [List.getElem?_eq_getElem (by omega)] at f0 f1 f2 f3
  obtain ⟨z0, e0, _, _⟩ := DataW.trod_int Try.underlying3 f0
  obtain ⟨s1, e1, _, w1⟩ := DataW.trod_string Try.underlying9 f1
  obtain ⟨z2, e2, _, w2⟩ := DataW.trod_int Try.underlying2 f2
  obtain ⟨z3, e3, _, w3⟩ := DataW.trod_int Try.underlying2 f3
  match cs, hl with
  | [a, b, c, d], _ =>
    simp only [List.drop_succ_cons, List.drop_zero, List.take_succ_cons, List.take_zero, List.cons.injEq, and_true] at e0 e1 e2 e3
    subst e0 e1 e2 e3
    refine ⟨⟨⟨z0, s1.data.toList, z2, z3⟩, w1, w2, w3⟩, ?_⟩
    rw [sV_of]
theorem open_ops {H : Type} {enc : TypeId × Value → H} {W : World} {b0 : Nat} {v : Value} {d : DataW H} {ps : List MemPlace} (hval : Value.okWide Try.prog W .any b0 22 v) (hd : DataW.Trod enc Try.prog W 0 (fun _ => true) true 22 v d ps) :
    ∃ (ad : Option Addr) (cp : Nat) (xs : List OpR), v = .slice ad xs.length cp ∧ xs.length ≤ cp ∧ (cp = 0 ∨ ∃ el sp, d = .slice el sp ∧ el.length + sp.length = cp) ∧ Ops xs ∧ ∀ H', Rd W [] H' ad (xs.flatMap opV) := by
  obtain ⟨ad, cp, xs, rfl, h1, h2, h3⟩ := open_slice_recs (g := fun o : OpS => opV o.1) (sz := 4) (fun _ => rfl) (by omega) op_elem Try.underlying22 c27 hval hd
  refine ⟨ad, cp, xs.map (·.1), by rw [List.length_map], by rw [List.length_map]; exact h1, h2, fun o ho => ?_, fun H' => ?_⟩
  · obtain ⟨s, _, rfl⟩ := List.mem_map.1 ho
    exact s.2
  · rw [List.flatMap_map]
    exact h3 H'
end Go.Proofs.Ytcojlgkfkifhmaa
