/-
  DERIVED. GIVEN WITH THE SEED: THE CARDS: each row of YtophlopiigpbgaaGreatDoorRows.lean that lists a variable, with what it lists TIED to the program's text (the seventh form; the later family's looks); each row that meets fmt, with fmt's text TOLD by the authors' own Lean function (tested against real Go, not proved from fmt's source: count such statements apart). THE CARD IS WHAT COUNTS. Prove the row's statement (the work); the ties are given (YtophlopiigpbgaaGreatDoorTie.lean); close each card by the builder's one call (the guide's Derived/Test/ToyasCard.lean, 'card_holds'). Laid BY PROGRAM, IN A SANDBOX (cutbox-door.mjs). By AI agents, Wed Nov 11 2026. No macro, syntax, notation, axiom, sorry.
-/
import Derived.Test.YtophlopiigpbgaaGreatDoorRows
import GoSem.ClaimSeven
namespace Go.Proofs.YtophlopiigpbgaaGreatDoor
namespace Rows

/-- THE TIED CARD OF 'signetlaw28.SdReveals'. -/
def sdRevealsCard : Claim7 := { stood := { row := sdRevealsRow, standIns := [], harness := (true, "a49f42a70c8369c7b1670c978eafdee144a0ba6db5044f6a2472236454b9b90f"), looks := true }, kinds := [], alts := [], laidByText := true, laidKinds := [.data, .data, .data, .data, .data, .data, .data, .data, .data, .data, .data, .pinned], laidTests := true, laidLooks := .later }
def SdRevealsCardSaid : Prop := Claim7.holds Tryz.pinned (.plain (OpenSpec.ofChange sdRevealsSpec)) sdRevealsCard

/-- THE TIED CARD OF 'signetlaw28.SdBack'. -/
def sdBackCard : Claim7 := { stood := { row := sdBackRow, standIns := [], harness := (true, "a49f42a70c8369c7b1670c978eafdee144a0ba6db5044f6a2472236454b9b90f"), looks := true }, kinds := [], alts := [], laidByText := true, laidKinds := [.data, .data, .data, .data, .data, .data, .data, .data, .data, .pinned], laidTests := true, laidLooks := .later }
def SdBackCardSaid : Prop := Claim7.holds Tryz.pinned (.plain (OpenSpec.ofChange sdBackSpec)) sdBackCard

/-- THE SECOND FORM's CARD OF 'signetlaw28.SdReveals'. -/
def sdRevealsUptoCard : Claim7 := { stood := { row := sdRevealsUptoRow, standIns := [], harness := (true, "a49f42a70c8369c7b1670c978eafdee144a0ba6db5044f6a2472236454b9b90f"), looks := true }, kinds := [], alts := [], laidByText := true, laidKinds := [.data, .data, .data, .data, .data, .data, .data, .data, .data, .data, .data, .pinned], laidTests := true, laidLooks := .later }
def SdRevealsUptoCardSaid : Prop := Claim7.holds Tryz.pinned (.plain (OpenSpec.upto sdRevealsSpec)) sdRevealsUptoCard

/-- THE SECOND FORM's CARD OF 'signetlaw28.SdBack'. -/
def sdBackUptoCard : Claim7 := { stood := { row := sdBackUptoRow, standIns := [], harness := (true, "a49f42a70c8369c7b1670c978eafdee144a0ba6db5044f6a2472236454b9b90f"), looks := true }, kinds := [], alts := [], laidByText := true, laidKinds := [.data, .data, .data, .data, .data, .data, .data, .data, .data, .pinned], laidTests := true, laidLooks := .later }
def SdBackUptoCardSaid : Prop := Claim7.holds Tryz.pinned (.plain (OpenSpec.upto sdBackSpec)) sdBackUptoCard
end Rows
end Go.Proofs.YtophlopiigpbgaaGreatDoor
