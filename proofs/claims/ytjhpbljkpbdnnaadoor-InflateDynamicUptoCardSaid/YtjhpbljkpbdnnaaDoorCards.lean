/-
  DERIVED. GIVEN WITH THE SEED: THE CARDS: each row of YtjhpbljkpbdnnaaDoorRows.lean that lists a variable, with what it lists TIED to the program's text (the seventh form; the later family's looks); each row that meets fmt, with fmt's text TOLD by the authors' own Lean function (tested against real Go, not proved from fmt's source: count such statements apart). THE CARD IS WHAT COUNTS. Prove the row's statement (the work); the ties are given (YtjhpbljkpbdnnaaDoorTie.lean); close each card by the builder's one call (the guide's Derived/Test/ToyasCard.lean, 'card_holds'). Laid BY PROGRAM, IN A SANDBOX (cutbox-door.mjs). By AI agents, Wed Nov 11 2026. No macro, syntax, notation, axiom, sorry.
-/
import Derived.Test.YtjhpbljkpbdnnaaDoorRows
import GoSem.ClaimSeven
namespace Go.Proofs.YtjhpbljkpbdnnaaDoor
namespace Rows

/-- THE TIED CARD OF 'signetlaw34.InflateReads'. -/
def inflateReadsCard : Claim7 := { stood := { row := inflateReadsRow, standIns := [], harness := (true, "09a29e5df1fa1ecc26127dbb287ed38c2eed0de171c89193b42420fd63885dcf"), looks := true }, kinds := [], alts := [], laidByText := true, laidKinds := [.widerDeep], laidTests := true, laidLooks := .later }
def InflateReadsCardSaid : Prop := Claim7.holds Tryd.pinned (.plain (OpenSpec.ofChange inflateReadsSpec)) inflateReadsCard

/-- THE TIED CARD OF 'signetlaw34.InflateFixed'. -/
def inflateFixedCard : Claim7 := { stood := { row := inflateFixedRow, standIns := [], harness := (true, "09a29e5df1fa1ecc26127dbb287ed38c2eed0de171c89193b42420fd63885dcf"), looks := true }, kinds := [], alts := [], laidByText := true, laidKinds := [.widerDeep], laidTests := true, laidLooks := .later }
def InflateFixedCardSaid : Prop := Claim7.holds Tryd.pinned (.plain (OpenSpec.ofChange inflateFixedSpec)) inflateFixedCard

/-- THE TIED CARD OF 'signetlaw34.InflateDynamic'. -/
def inflateDynamicCard : Claim7 := { stood := { row := inflateDynamicRow, standIns := [], harness := (true, "09a29e5df1fa1ecc26127dbb287ed38c2eed0de171c89193b42420fd63885dcf"), looks := true }, kinds := [], alts := [], laidByText := true, laidKinds := [.widerDeep], laidTests := true, laidLooks := .later }
def InflateDynamicCardSaid : Prop := Claim7.holds Tryd.pinned (.plain (OpenSpec.ofChange inflateDynamicSpec)) inflateDynamicCard

/-- THE TIED CARD OF 'signetlaw34.InflateStored'. -/
def inflateStoredCard : Claim7 := { stood := { row := inflateStoredRow, standIns := [], harness := (true, "09a29e5df1fa1ecc26127dbb287ed38c2eed0de171c89193b42420fd63885dcf"), looks := true }, kinds := [], alts := [], laidByText := true, laidKinds := [.widerDeep], laidTests := true, laidLooks := .later }
def InflateStoredCardSaid : Prop := Claim7.holds Tryd.pinned (.plain (OpenSpec.ofChange inflateStoredSpec)) inflateStoredCard

/-- THE TIED CARD OF 'signetlaw34.InflateMost'. -/
def inflateMostCard : Claim7 := { stood := { row := inflateMostRow, standIns := [], harness := (true, "09a29e5df1fa1ecc26127dbb287ed38c2eed0de171c89193b42420fd63885dcf"), looks := true }, kinds := [], alts := [], laidByText := true, laidKinds := [.widerDeep], laidTests := true, laidLooks := .later }
def InflateMostCardSaid : Prop := Claim7.holds Tryd.pinned (.plain (OpenSpec.ofChange inflateMostSpec)) inflateMostCard

/-- THE TIED CARD OF 'signetlaw34.InflateZlibs'. -/
def inflateZlibsCard : Claim7 := { stood := { row := inflateZlibsRow, standIns := [], harness := (true, "09a29e5df1fa1ecc26127dbb287ed38c2eed0de171c89193b42420fd63885dcf"), looks := true }, kinds := [], alts := [], laidByText := true, laidKinds := [.widerDeep], laidTests := true, laidLooks := .later }
def InflateZlibsCardSaid : Prop := Claim7.holds Tryd.pinned (.plain (OpenSpec.ofChange inflateZlibsSpec)) inflateZlibsCard

/-- THE TIED CARD OF 'signetlaw34.InflateSums'. -/
def inflateSumsCard : Claim7 := { stood := { row := inflateSumsRow, standIns := [], harness := (true, "09a29e5df1fa1ecc26127dbb287ed38c2eed0de171c89193b42420fd63885dcf"), looks := true }, kinds := [], alts := [], laidByText := true, laidKinds := [.widerDeep], laidTests := true, laidLooks := .later }
def InflateSumsCardSaid : Prop := Claim7.holds Tryd.pinned (.plain (OpenSpec.ofChange inflateSumsSpec)) inflateSumsCard

/-- THE SECOND FORM's CARD OF 'signetlaw34.InflateReads'. -/
def inflateReadsUptoCard : Claim7 := { stood := { row := inflateReadsUptoRow, standIns := [], harness := (true, "09a29e5df1fa1ecc26127dbb287ed38c2eed0de171c89193b42420fd63885dcf"), looks := true }, kinds := [], alts := [], laidByText := true, laidKinds := [.widerDeep], laidTests := true, laidLooks := .later }
def InflateReadsUptoCardSaid : Prop := Claim7.holds Tryd.pinned (.plain (OpenSpec.upto inflateReadsSpec)) inflateReadsUptoCard

/-- THE SECOND FORM's CARD OF 'signetlaw34.InflateFixed'. -/
def inflateFixedUptoCard : Claim7 := { stood := { row := inflateFixedUptoRow, standIns := [], harness := (true, "09a29e5df1fa1ecc26127dbb287ed38c2eed0de171c89193b42420fd63885dcf"), looks := true }, kinds := [], alts := [], laidByText := true, laidKinds := [.widerDeep], laidTests := true, laidLooks := .later }
def InflateFixedUptoCardSaid : Prop := Claim7.holds Tryd.pinned (.plain (OpenSpec.upto inflateFixedSpec)) inflateFixedUptoCard

/-- THE SECOND FORM's CARD OF 'signetlaw34.InflateDynamic'. -/
def inflateDynamicUptoCard : Claim7 := { stood := { row := inflateDynamicUptoRow, standIns := [], harness := (true, "09a29e5df1fa1ecc26127dbb287ed38c2eed0de171c89193b42420fd63885dcf"), looks := true }, kinds := [], alts := [], laidByText := true, laidKinds := [.widerDeep], laidTests := true, laidLooks := .later }
def InflateDynamicUptoCardSaid : Prop := Claim7.holds Tryd.pinned (.plain (OpenSpec.upto inflateDynamicSpec)) inflateDynamicUptoCard

/-- THE SECOND FORM's CARD OF 'signetlaw34.InflateStored'. -/
def inflateStoredUptoCard : Claim7 := { stood := { row := inflateStoredUptoRow, standIns := [], harness := (true, "09a29e5df1fa1ecc26127dbb287ed38c2eed0de171c89193b42420fd63885dcf"), looks := true }, kinds := [], alts := [], laidByText := true, laidKinds := [.widerDeep], laidTests := true, laidLooks := .later }
def InflateStoredUptoCardSaid : Prop := Claim7.holds Tryd.pinned (.plain (OpenSpec.upto inflateStoredSpec)) inflateStoredUptoCard

/-- THE SECOND FORM's CARD OF 'signetlaw34.InflateMost'. -/
def inflateMostUptoCard : Claim7 := { stood := { row := inflateMostUptoRow, standIns := [], harness := (true, "09a29e5df1fa1ecc26127dbb287ed38c2eed0de171c89193b42420fd63885dcf"), looks := true }, kinds := [], alts := [], laidByText := true, laidKinds := [.widerDeep], laidTests := true, laidLooks := .later }
def InflateMostUptoCardSaid : Prop := Claim7.holds Tryd.pinned (.plain (OpenSpec.upto inflateMostSpec)) inflateMostUptoCard

/-- THE SECOND FORM's CARD OF 'signetlaw34.InflateZlibs'. -/
def inflateZlibsUptoCard : Claim7 := { stood := { row := inflateZlibsUptoRow, standIns := [], harness := (true, "09a29e5df1fa1ecc26127dbb287ed38c2eed0de171c89193b42420fd63885dcf"), looks := true }, kinds := [], alts := [], laidByText := true, laidKinds := [.widerDeep], laidTests := true, laidLooks := .later }
def InflateZlibsUptoCardSaid : Prop := Claim7.holds Tryd.pinned (.plain (OpenSpec.upto inflateZlibsSpec)) inflateZlibsUptoCard

/-- THE SECOND FORM's CARD OF 'signetlaw34.InflateSums'. -/
def inflateSumsUptoCard : Claim7 := { stood := { row := inflateSumsUptoRow, standIns := [], harness := (true, "09a29e5df1fa1ecc26127dbb287ed38c2eed0de171c89193b42420fd63885dcf"), looks := true }, kinds := [], alts := [], laidByText := true, laidKinds := [.widerDeep], laidTests := true, laidLooks := .later }
def InflateSumsUptoCardSaid : Prop := Claim7.holds Tryd.pinned (.plain (OpenSpec.upto inflateSumsSpec)) inflateSumsUptoCard
end Rows
end Go.Proofs.YtjhpbljkpbdnnaaDoor
