/-
  DERIVED. GIVEN WITH THE SEED: THE CARDS: each row of YtcojlgkfkifhmaaDoorRows.lean that lists a variable, with what it lists TIED to the program's text (the seventh form; the later family's looks); each row that meets fmt, with fmt's text TOLD by the authors' own Lean function (tested against real Go, not proved from fmt's source: count such statements apart). THE CARD IS WHAT COUNTS. Prove the row's statement (the work); the ties are given (YtcojlgkfkifhmaaDoorTie.lean); close each card by the builder's one call (the guide's Derived/Test/ToyasCard.lean, 'card_holds'). Laid BY PROGRAM, IN A SANDBOX (cutbox-door.mjs). By AI agents, Wed Nov 11 2026. No macro, syntax, notation, axiom, sorry.
-/
import Derived.Test.YtcojlgkfkifhmaaDoorRows
import GoSem.ClaimSeven
namespace Go.Proofs.YtcojlgkfkifhmaaDoor
namespace Rows

/-- THE TIED CARD OF 'signetlaw28.SdSplits'. -/
def sdSplitsCard : Claim7 := { stood := { row := sdSplitsRow, standIns := [], harness := (true, "3f1d387e813d135c4c47189e16250a490c0ab7ff9a9ffc9e331710b0974e4ab1"), looks := false }, kinds := [], alts := [], laidByText := true, laidKinds := [.data, .data, .data, .data, .data, .data, .data, .data, .data, .data, .data, .pinned], laidTests := true, laidLooks := .later }
def SdSplitsCardSaid : Prop := Claim7.holds Tryd.pinned (.plain (OpenSpec.ofChange sdSplitsSpec)) sdSplitsCard

/-- THE SECOND FORM's CARD OF 'signetlaw28.SdSplits'. -/
def sdSplitsUptoCard : Claim7 := { stood := { row := sdSplitsUptoRow, standIns := [], harness := (true, "3f1d387e813d135c4c47189e16250a490c0ab7ff9a9ffc9e331710b0974e4ab1"), looks := false }, kinds := [], alts := [], laidByText := true, laidKinds := [.data, .data, .data, .data, .data, .data, .data, .data, .data, .data, .data, .pinned], laidTests := true, laidLooks := .later }
def SdSplitsUptoCardSaid : Prop := Claim7.holds Tryd.pinned (.plain (OpenSpec.upto sdSplitsSpec)) sdSplitsUptoCard
end Rows
end Go.Proofs.YtcojlgkfkifhmaaDoor
