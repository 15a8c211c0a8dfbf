/-
  DERIVED. GIVEN WITH THE SEED: THE CARDS: each row of YtjajcmedipjfhaaGreatDoorRows.lean that lists a variable, with what it lists TIED to the program's text (the seventh form; the later family's looks); each row that meets fmt, with fmt's text TOLD by the authors' own Lean function (tested against real Go, not proved from fmt's source: count such statements apart). THE CARD IS WHAT COUNTS. Prove the row's statement (the work); the ties are given (YtjajcmedipjfhaaGreatDoorTie.lean); close each card by the builder's one call (the guide's Derived/Test/ToyasCard.lean, 'card_holds'). Laid BY PROGRAM, IN A SANDBOX (cutbox-door.mjs). By AI agents, Wed Nov 11 2026. No macro, syntax, notation, axiom, sorry.
-/
import Derived.Test.YtjajcmedipjfhaaGreatDoorRows
import GoSem.ClaimSeven
namespace Go.Proofs.YtjajcmedipjfhaaGreatDoor
namespace Rows

/-- THE TIED CARD OF 'signetlaw28.SdReveals'. -/
def sdRevealsCard : Claim7 := { stood := { row := sdRevealsRow, standIns := [], harness := (true, "54b2a3a159c0c20cd4fa73cde0e23f708d36cb738ba8b015cea260e63ce7ebae"), looks := true }, kinds := [], alts := [], laidByText := true, laidKinds := [.data, .data, .data, .data, .data, .data, .data, .data, .data, .data, .data, .pinned], laidTests := true, laidLooks := .later }
def SdRevealsCardSaid : Prop := Claim7.holds Tryz.pinned (.plain (OpenSpec.ofChange sdRevealsSpec)) sdRevealsCard

/-- THE TIED CARD OF 'signetlaw28.SdAsked'. -/
def sdAskedCard : Claim7 := { stood := { row := sdAskedRow, standIns := [], harness := (true, "54b2a3a159c0c20cd4fa73cde0e23f708d36cb738ba8b015cea260e63ce7ebae"), looks := true }, kinds := [], alts := [], laidByText := true, laidKinds := [.data, .data, .data, .data, .data, .data, .pinned], laidTests := true, laidLooks := .later }
def SdAskedCardSaid : Prop := Claim7.holds Tryz.pinned (.plain (OpenSpec.ofChange sdAskedSpec)) sdAskedCard

/-- THE TIED CARD OF 'signetlaw28.SdPlain'. -/
def sdPlainCard : Claim7 := { stood := { row := sdPlainRow, standIns := [], harness := (true, "54b2a3a159c0c20cd4fa73cde0e23f708d36cb738ba8b015cea260e63ce7ebae"), looks := true }, kinds := [], alts := [], laidByText := true, laidKinds := [.data, .data, .data, .data, .data, .data, .pinned], laidTests := true, laidLooks := .later }
def SdPlainCardSaid : Prop := Claim7.holds Tryz.pinned (.plain (OpenSpec.ofChange sdPlainSpec)) sdPlainCard

/-- THE TIED CARD OF 'signetlaw28.SdFresh'. -/
def sdFreshCard : Claim7 := { stood := { row := sdFreshRow, standIns := [], harness := (true, "54b2a3a159c0c20cd4fa73cde0e23f708d36cb738ba8b015cea260e63ce7ebae"), looks := true }, kinds := [], alts := [], laidByText := true, laidKinds := [.data, .data, .data, .data, .data, .data, .pinned], laidTests := true, laidLooks := .later }
def SdFreshCardSaid : Prop := Claim7.holds Tryz.pinned (.plain (OpenSpec.ofChange sdFreshSpec)) sdFreshCard

/-- THE TIED CARD OF 'signetlaw28.SdBack'. -/
def sdBackCard : Claim7 := { stood := { row := sdBackRow, standIns := [], harness := (true, "54b2a3a159c0c20cd4fa73cde0e23f708d36cb738ba8b015cea260e63ce7ebae"), looks := true }, kinds := [], alts := [], laidByText := true, laidKinds := [.data, .data, .data, .data, .data, .data, .data, .data, .data, .pinned], laidTests := true, laidLooks := .later }
def SdBackCardSaid : Prop := Claim7.holds Tryz.pinned (.plain (OpenSpec.ofChange sdBackSpec)) sdBackCard

/-- THE SECOND FORM's CARD OF 'signetlaw28.SdReveals'. -/
def sdRevealsUptoCard : Claim7 := { stood := { row := sdRevealsUptoRow, standIns := [], harness := (true, "54b2a3a159c0c20cd4fa73cde0e23f708d36cb738ba8b015cea260e63ce7ebae"), looks := true }, kinds := [], alts := [], laidByText := true, laidKinds := [.data, .data, .data, .data, .data, .data, .data, .data, .data, .data, .data, .pinned], laidTests := true, laidLooks := .later }
def SdRevealsUptoCardSaid : Prop := Claim7.holds Tryz.pinned (.plain (OpenSpec.upto sdRevealsSpec)) sdRevealsUptoCard

/-- THE SECOND FORM's CARD OF 'signetlaw28.SdAsked'. -/
def sdAskedUptoCard : Claim7 := { stood := { row := sdAskedUptoRow, standIns := [], harness := (true, "54b2a3a159c0c20cd4fa73cde0e23f708d36cb738ba8b015cea260e63ce7ebae"), looks := true }, kinds := [], alts := [], laidByText := true, laidKinds := [.data, .data, .data, .data, .data, .data, .pinned], laidTests := true, laidLooks := .later }
def SdAskedUptoCardSaid : Prop := Claim7.holds Tryz.pinned (.plain (OpenSpec.upto sdAskedSpec)) sdAskedUptoCard

/-- THE SECOND FORM's CARD OF 'signetlaw28.SdPlain'. -/
def sdPlainUptoCard : Claim7 := { stood := { row := sdPlainUptoRow, standIns := [], harness := (true, "54b2a3a159c0c20cd4fa73cde0e23f708d36cb738ba8b015cea260e63ce7ebae"), looks := true }, kinds := [], alts := [], laidByText := true, laidKinds := [.data, .data, .data, .data, .data, .data, .pinned], laidTests := true, laidLooks := .later }
def SdPlainUptoCardSaid : Prop := Claim7.holds Tryz.pinned (.plain (OpenSpec.upto sdPlainSpec)) sdPlainUptoCard

/-- THE SECOND FORM's CARD OF 'signetlaw28.SdFresh'. -/
def sdFreshUptoCard : Claim7 := { stood := { row := sdFreshUptoRow, standIns := [], harness := (true, "54b2a3a159c0c20cd4fa73cde0e23f708d36cb738ba8b015cea260e63ce7ebae"), looks := true }, kinds := [], alts := [], laidByText := true, laidKinds := [.data, .data, .data, .data, .data, .data, .pinned], laidTests := true, laidLooks := .later }
def SdFreshUptoCardSaid : Prop := Claim7.holds Tryz.pinned (.plain (OpenSpec.upto sdFreshSpec)) sdFreshUptoCard

/-- THE SECOND FORM's CARD OF 'signetlaw28.SdBack'. -/
def sdBackUptoCard : Claim7 := { stood := { row := sdBackUptoRow, standIns := [], harness := (true, "54b2a3a159c0c20cd4fa73cde0e23f708d36cb738ba8b015cea260e63ce7ebae"), looks := true }, kinds := [], alts := [], laidByText := true, laidKinds := [.data, .data, .data, .data, .data, .data, .data, .data, .data, .pinned], laidTests := true, laidLooks := .later }
def SdBackUptoCardSaid : Prop := Claim7.holds Tryz.pinned (.plain (OpenSpec.upto sdBackSpec)) sdBackUptoCard
end Rows
end Go.Proofs.YtjajcmedipjfhaaGreatDoor
