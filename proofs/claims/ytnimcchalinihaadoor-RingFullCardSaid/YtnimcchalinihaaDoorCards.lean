/-
  DERIVED. GIVEN WITH THE SEED: THE CARDS: each row of YtnimcchalinihaaDoorRows.lean that lists a variable, with what it lists TIED to the program's text (the seventh form; the later family's looks); each row that meets fmt, with fmt's text TOLD by the authors' own Lean function (tested against real Go, not proved from fmt's source: count such statements apart). THE CARD IS WHAT COUNTS. Prove the row's statement (the work); the ties are given (YtnimcchalinihaaDoorTie.lean); close each card by the builder's one call (the guide's Derived/Test/ToyasCard.lean, 'card_holds'). Laid BY PROGRAM, IN A SANDBOX (cutbox-door.mjs). By AI agents, Wed Nov 11 2026. No macro, syntax, notation, axiom, sorry.
-/
import Derived.Test.YtnimcchalinihaaDoorRows
import GoSem.ClaimSeven
namespace Go.Proofs.YtnimcchalinihaaDoor
namespace Rows

/-- THE TIED CARD OF 'signetlaw21.SerialWrites'. -/
def serialWritesCard : Claim7 := { stood := { row := serialWritesRow, standIns := [], harness := (true, "7ce464983b1ce357a936992c59e4d55db52f804f08aa351af49802f3aabcfaeb"), looks := false }, kinds := [], alts := [], laidByText := true, laidKinds := [.data, .pinned], laidTests := true, laidLooks := .later }
def SerialWritesCardSaid : Prop := Claim7.holds Tryd.pinned (.plain (OpenSpec.ofChange serialWritesSpec)) serialWritesCard

/-- THE TIED CARD OF 'signetlaw24.RingFull'. -/
def ringFullCard : Claim7 := { stood := { row := ringFullRow, standIns := [], harness := (true, "7ce464983b1ce357a936992c59e4d55db52f804f08aa351af49802f3aabcfaeb"), looks := false }, kinds := [], alts := [], laidByText := true, laidKinds := [.data, .pinned], laidTests := true, laidLooks := .later }
def RingFullCardSaid : Prop := Claim7.holds Tryd.pinned (.plain (OpenSpec.ofChange ringFullSpec)) ringFullCard

/-- THE SECOND FORM's CARD OF 'signetlaw21.SerialWrites'. -/
def serialWritesUptoCard : Claim7 := { stood := { row := serialWritesUptoRow, standIns := [], harness := (true, "7ce464983b1ce357a936992c59e4d55db52f804f08aa351af49802f3aabcfaeb"), looks := false }, kinds := [], alts := [], laidByText := true, laidKinds := [.data, .pinned], laidTests := true, laidLooks := .later }
def SerialWritesUptoCardSaid : Prop := Claim7.holds Tryd.pinned (.plain (OpenSpec.upto serialWritesSpec)) serialWritesUptoCard

/-- THE SECOND FORM's CARD OF 'signetlaw24.RingFull'. -/
def ringFullUptoCard : Claim7 := { stood := { row := ringFullUptoRow, standIns := [], harness := (true, "7ce464983b1ce357a936992c59e4d55db52f804f08aa351af49802f3aabcfaeb"), looks := false }, kinds := [], alts := [], laidByText := true, laidKinds := [.data, .pinned], laidTests := true, laidLooks := .later }
def RingFullUptoCardSaid : Prop := Claim7.holds Tryd.pinned (.plain (OpenSpec.upto ringFullSpec)) ringFullUptoCard
end Rows
end Go.Proofs.YtnimcchalinihaaDoor
