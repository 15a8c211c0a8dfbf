/- What the seat's listed variable holds; bytes handed in. -/
import Derived.Test.YtjhpbljkpbdnnaaDoorFacts
import Derived.Test.YtjhpbljkpbdnnaaDoorLaw
import Derived.Test.YtjhpbljkpbdnnaaDoorInfQ
namespace Go.Proofs.YtjhpbljkpbdnnaaDoor
open Sg Go Go.ChangeShapes Go.WideShapes Go.RowKit Infl
theorem own : ownKnob Tryd.prog.godebug = none := by kernel_rfl
theorem laidOut : laidOutB Tryd.prog = true := by kernel_rfl
theorem gOrder : Tryd.prog.globalNamed "signet/inflate.order" = some 0 := by kernel_rfl
theorem tOrder : (Tryd.prog.globals[0]?).map (·.type) = some 72 := by kernel_rfl
theorem c3 : Tryd.prog.cellsOf 3 = 1 := by kernel_rfl
theorem c5 : Tryd.prog.cellsOf 5 = 1 := by kernel_rfl
theorem by5 : Tryd.prog.bytesOf 5 = 1 := by kernel_rfl
abbrev laid1 : List (String × DataW Unit) := [("signet/inflate.order", Rows.laid_signet_inflate_order)]
theorem door_met (os : Os) (args : Array Value) : laidMetH Tryd.prog laid1 ((World.doorLaid Tryd.prog 400 os).forCall (fun _ _ => 0) ⟨#[], args, []⟩).memory :=
  laidMetH_of_parts3 (fuel := 8) (laidMet_of_run' 8 (by kernel_rfl) (by kernel_rfl)) (by kernel_rfl) (by kernel_rfl)
theorem of_laid {W : World} (h : laidMetH Tryd.prog laid1 W) : ∀ H, Rd W [] H (some ⟨0, 0, none⟩) (ordL.map nV) := by
  rw [MakeChecks.laidMetH_plain _ _ _ (by kernel_rfl)] at h
  obtain ⟨ps, ⟨g0, t0, cs0, f0, p0, q0, hg0, ht0, hv0, hd0, _, _⟩, _, _⟩ := h
  obtain rfl := Option.some.inj (gOrder.symm.trans hg0)
  obtain rfl := Option.some.inj (tOrder.symm.trans ht0)
  have hc := laid_ints (k := .i64) (ns := ordL.map (fun n : Nat => (n : Int))) gOrder Tryd.underlying72 Tryd.underlying3 c3 hv0 hd0
  intro H
  refine .ofF fun j u hu => ⟨_, rfl, ?_⟩
  rw [addr_add, Nat.zero_add]
  rw [List.getElem?_map] at hu
  cases hn : ordL[j]? with
  | none => rw [hn] at hu; cases hu
  | some n =>
    rw [hn] at hu
    simp only [Option.map_some, Option.some.injEq] at hu
    subst hu
    exact hc j n (by rw [List.getElem?_map, hn]; rfl)
end Go.Proofs.YtjhpbljkpbdnnaaDoor
