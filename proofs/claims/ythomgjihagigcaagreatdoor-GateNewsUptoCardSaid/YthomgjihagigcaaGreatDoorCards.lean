/-
  DERIVED. GIVEN WITH THE SEED: THE CARDS: each row of YthomgjihagigcaaGreatDoorRows.lean that lists a variable, with what it lists TIED to the program's text (the seventh form; the later family's looks); each row that meets fmt, with fmt's text TOLD by the authors' own Lean function (tested against real Go, not proved from fmt's source: count such statements apart). THE CARD IS WHAT COUNTS. Prove the row's statement (the work); the ties are given (YthomgjihagigcaaGreatDoorTie.lean); close each card by the builder's one call (the guide's Derived/Test/ToyasCard.lean, 'card_holds'). Laid BY PROGRAM, IN A SANDBOX (cutbox-door.mjs). By AI agents, Wed Nov 11 2026. No macro, syntax, notation, axiom, sorry.
-/
import Derived.Test.YthomgjihagigcaaGreatDoorRows
import GoSem.ClaimSeven
namespace Go.Proofs.YthomgjihagigcaaGreatDoor
namespace Rows

/-- THE TIED CARD OF 'signetlaw26.GateNews'. -/
def gateNewsCard : Claim7 := { stood := { row := gateNewsRow, standIns := [], harness := (true, "dcdf5c164d0cb976b62200352f4cc703478df1b42ff9d8d158a778fe16751b64"), looks := true }, kinds := [], alts := [], laidByText := true, laidKinds := [.data, .widerDeep, .data, .pinned], laidTests := true, laidLooks := .later }
def GateNewsCardSaid : Prop := Claim7.holds Tryz.pinned (.plain (OpenSpec.ofChange gateNewsSpec)) gateNewsCard

/-- THE SECOND FORM's CARD OF 'signetlaw26.GateNews'. -/
def gateNewsUptoCard : Claim7 := { stood := { row := gateNewsUptoRow, standIns := [], harness := (true, "dcdf5c164d0cb976b62200352f4cc703478df1b42ff9d8d158a778fe16751b64"), looks := true }, kinds := [], alts := [], laidByText := true, laidKinds := [.data, .widerDeep, .data, .pinned], laidTests := true, laidLooks := .later }
def GateNewsUptoCardSaid : Prop := Claim7.holds Tryz.pinned (.plain (OpenSpec.upto gateNewsSpec)) gateNewsUptoCard
end Rows
end Go.Proofs.YthomgjihagigcaaGreatDoor
