/-
  No cell of these rows narrows 'for every input' (looked for: loops, veiled, ifaces, maps, wideKeys, modest, calm, conditions, laid).
  DERIVED. THE GIVEN ROWS OF THIS SEAT. 7 by the template 'for every input the law returns true; each argument reads behind the call as it read before'; 0 by the template 'total and deterministic' (their statements: YtcojlgkfkifhmaaTotals.lean).
  GIVEN WITH THE SEED: the statements are not yours to turn. If you find one false, say at which input.
  Laid BY PROGRAM, IN A SANDBOX (cutbox-rows.mjs): the forced cells as the released guide's own fill.sh prints them over the translation bdfc36dfdd62e0fb… (all of the seat's roots in one cut). By AI agents, Wed Nov 11 2026. No macro, syntax, notation, axiom, sorry.
-/
import Derived.Test.YtcojlgkfkifhmaaChecked
import GoSem.Claim
import GoSem.ClaimJoined
import GoSem.ClaimMapViews
import Derived.JoinedTies
import Derived.KernelRfl
namespace Go.Proofs.Ytcojlgkfkifhmaa
/- THE CELL 'sum', in the pinned program and in every row, IS THE sha256 OF THE DUMP (.gsa) THAT YtcojlgkfkifhmaaProg.lean LOADS. Nothing in Lean hashes anything: it is a label: what it is worth is what the hold of that sum in a sandbox is worth. -/
noncomputable def Try.pinned : Pinned := { name := "ytcojlgkfkifhmaa", sum := "bdfc36dfdd62e0fb223bcbbca2ce6ad7ff6db372b173d91bb84991d97e0f915a", checked := Try.checked }
namespace Rows
def none {H : Type} : Left H := { results := [], args := [] }

/-- 'signetlaw23.ReplayOwn': WHATEVER THE INPUT: true; the input reads as it did. -/
def replayOwnSpec : ChangeSpec := { name := "replayOwn", fn := fun _ => fun
  | [d1, d2] => { results := [.lit (.bool true)], args := [d1, d2] }
  | _ => none }
def replayOwnRow : OpenClaim := { program := "ytcojlgkfkifhmaa", sum := "bdfc36dfdd62e0fb223bcbbca2ce6ad7ff6db372b173d91bb84991d97e0f915a", func := "signet/signetlaw23.ReplayOwn", spec := "replayOwn", unfollowed := true, recurses := true, apart := false }
def ReplayOwnSaid : Prop := replayOwnRow.holds Try.pinned (OpenSpec.ofChange replayOwnSpec)

/-- ITS FALSE NEIGHBOUR: 'it returns false'. Refute it at one input. -/
def replayOwnWrong : ChangeSpec := { name := "replayOwn", fn := fun _ => fun
  | [d1, d2] => { results := [.lit (.bool false)], args := [d1, d2] }
  | _ => none }
def ReplayOwnWrongFalsely : Prop := replayOwnRow.holds Try.pinned (OpenSpec.ofChange replayOwnWrong)

/-- 'signetlaw23.ReplayOpens': WHATEVER THE INPUT: true; the input reads as it did. -/
def replayOpensSpec : ChangeSpec := { name := "replayOpens", fn := fun _ => fun
  | [d] => { results := [.lit (.bool true)], args := [d] }
  | _ => none }
def replayOpensRow : OpenClaim := { program := "ytcojlgkfkifhmaa", sum := "bdfc36dfdd62e0fb223bcbbca2ce6ad7ff6db372b173d91bb84991d97e0f915a", func := "signet/signetlaw23.ReplayOpens", spec := "replayOpens", unfollowed := true, recurses := true, apart := false }
def ReplayOpensSaid : Prop := replayOpensRow.holds Try.pinned (OpenSpec.ofChange replayOpensSpec)

/-- ITS FALSE NEIGHBOUR: 'it returns false'. Refute it at one input. -/
def replayOpensWrong : ChangeSpec := { name := "replayOpens", fn := fun _ => fun
  | [d] => { results := [.lit (.bool false)], args := [d] }
  | _ => none }
def ReplayOpensWrongFalsely : Prop := replayOpensRow.holds Try.pinned (OpenSpec.ofChange replayOpensWrong)

/-- 'signetlaw23.ReplayPlays': WHATEVER THE INPUT: true; the input reads as it did. -/
def replayPlaysSpec : ChangeSpec := { name := "replayPlays", fn := fun _ => fun
  | [d1, d2] => { results := [.lit (.bool true)], args := [d1, d2] }
  | _ => none }
def replayPlaysRow : OpenClaim := { program := "ytcojlgkfkifhmaa", sum := "bdfc36dfdd62e0fb223bcbbca2ce6ad7ff6db372b173d91bb84991d97e0f915a", func := "signet/signetlaw23.ReplayPlays", spec := "replayPlays", unfollowed := true, recurses := true, apart := false }
def ReplayPlaysSaid : Prop := replayPlaysRow.holds Try.pinned (OpenSpec.ofChange replayPlaysSpec)

/-- ITS FALSE NEIGHBOUR: 'it returns false'. Refute it at one input. -/
def replayPlaysWrong : ChangeSpec := { name := "replayPlays", fn := fun _ => fun
  | [d1, d2] => { results := [.lit (.bool false)], args := [d1, d2] }
  | _ => none }
def ReplayPlaysWrongFalsely : Prop := replayPlaysRow.holds Try.pinned (OpenSpec.ofChange replayPlaysWrong)

/-- 'signetlaw23.ReplayOnce': WHATEVER THE INPUT: true; the input reads as it did. -/
def replayOnceSpec : ChangeSpec := { name := "replayOnce", fn := fun _ => fun
  | [d] => { results := [.lit (.bool true)], args := [d] }
  | _ => none }
def replayOnceRow : OpenClaim := { program := "ytcojlgkfkifhmaa", sum := "bdfc36dfdd62e0fb223bcbbca2ce6ad7ff6db372b173d91bb84991d97e0f915a", func := "signet/signetlaw23.ReplayOnce", spec := "replayOnce", unfollowed := true, recurses := true, apart := false }
def ReplayOnceSaid : Prop := replayOnceRow.holds Try.pinned (OpenSpec.ofChange replayOnceSpec)

/-- ITS FALSE NEIGHBOUR: 'it returns false'. Refute it at one input. -/
def replayOnceWrong : ChangeSpec := { name := "replayOnce", fn := fun _ => fun
  | [d] => { results := [.lit (.bool false)], args := [d] }
  | _ => none }
def ReplayOnceWrongFalsely : Prop := replayOnceRow.holds Try.pinned (OpenSpec.ofChange replayOnceWrong)

/-- 'signetlaw23.ReplayRefuses': WHATEVER THE INPUT: true; the input reads as it did. -/
def replayRefusesSpec : ChangeSpec := { name := "replayRefuses", fn := fun _ => fun
  | [d1, d2, d3, d4, d5] => { results := [.lit (.bool true)], args := [d1, d2, d3, d4, d5] }
  | _ => none }
def replayRefusesRow : OpenClaim := { program := "ytcojlgkfkifhmaa", sum := "bdfc36dfdd62e0fb223bcbbca2ce6ad7ff6db372b173d91bb84991d97e0f915a", func := "signet/signetlaw23.ReplayRefuses", spec := "replayRefuses", unfollowed := true, recurses := true, apart := false }
def ReplayRefusesSaid : Prop := replayRefusesRow.holds Try.pinned (OpenSpec.ofChange replayRefusesSpec)

/-- ITS FALSE NEIGHBOUR: 'it returns false'. Refute it at one input. -/
def replayRefusesWrong : ChangeSpec := { name := "replayRefuses", fn := fun _ => fun
  | [d1, d2, d3, d4, d5] => { results := [.lit (.bool false)], args := [d1, d2, d3, d4, d5] }
  | _ => none }
def ReplayRefusesWrongFalsely : Prop := replayRefusesRow.holds Try.pinned (OpenSpec.ofChange replayRefusesWrong)

/-- 'signetlaw23.ReplayBack': WHATEVER THE INPUT: true; the input reads as it did. -/
def replayBackSpec : ChangeSpec := { name := "replayBack", fn := fun _ => fun
  | [d1, d2, d3] => { results := [.lit (.bool true)], args := [d1, d2, d3] }
  | _ => none }
def replayBackRow : OpenClaim := { program := "ytcojlgkfkifhmaa", sum := "bdfc36dfdd62e0fb223bcbbca2ce6ad7ff6db372b173d91bb84991d97e0f915a", func := "signet/signetlaw23.ReplayBack", spec := "replayBack", unfollowed := true, recurses := true, apart := false }
def ReplayBackSaid : Prop := replayBackRow.holds Try.pinned (OpenSpec.ofChange replayBackSpec)

/-- ITS FALSE NEIGHBOUR: 'it returns false'. Refute it at one input. -/
def replayBackWrong : ChangeSpec := { name := "replayBack", fn := fun _ => fun
  | [d1, d2, d3] => { results := [.lit (.bool false)], args := [d1, d2, d3] }
  | _ => none }
def ReplayBackWrongFalsely : Prop := replayBackRow.holds Try.pinned (OpenSpec.ofChange replayBackWrong)

/-- 'signetlaw23.ReplayWhole': WHATEVER THE INPUT: true; the input reads as it did. -/
def replayWholeSpec : ChangeSpec := { name := "replayWhole", fn := fun _ => fun
  | [d1, d2, d3, d4, d5, d6] => { results := [.lit (.bool true)], args := [d1, d2, d3, d4, d5, d6] }
  | _ => none }
def replayWholeRow : OpenClaim := { program := "ytcojlgkfkifhmaa", sum := "bdfc36dfdd62e0fb223bcbbca2ce6ad7ff6db372b173d91bb84991d97e0f915a", func := "signet/signetlaw23.ReplayWhole", spec := "replayWhole", unfollowed := true, recurses := true, apart := false }
def ReplayWholeSaid : Prop := replayWholeRow.holds Try.pinned (OpenSpec.ofChange replayWholeSpec)

/-- ITS FALSE NEIGHBOUR: 'it returns false'. Refute it at one input. -/
def replayWholeWrong : ChangeSpec := { name := "replayWhole", fn := fun _ => fun
  | [d1, d2, d3, d4, d5, d6] => { results := [.lit (.bool false)], args := [d1, d2, d3, d4, d5, d6] }
  | _ => none }
def ReplayWholeWrongFalsely : Prop := replayWholeRow.holds Try.pinned (OpenSpec.ofChange replayWholeWrong)

/- THE SECOND FORM. 'bulk': how many values and letters a reading holds, each counted each time it is reached (what is shared counts as often as it is met; a slice's spare places count too). A statement '..UptoSaid' is the law's where the arguments, and the package variables that the reading takes, are together of bulk at most 1048576: NARROWER than '..Said'. Prove '..Said' where nothing that the law and all that it calls make is longer than what came in: it says more and counts as full. Else prove '..UptoSaid'. A law counts once. -/
mutual
def uptoBulk {H : Type} : DataW H → Nat
  | .lit (.string bytes) => bytes.length + 1
  | .lit _ => 1
  | .nil => 1
  | .ptr d => uptoBulk d + 1
  | .slice elems spare => uptoBulkAll elems + uptoBulkAll spare + 1
  | .agg parts => uptoBulkAll parts + 1
  | .iface _ d => uptoBulk d + 1
  | .map entries => uptoBulkEntries entries + 1
  | .held _ => 1
def uptoBulkAll {H : Type} : List (DataW H) → Nat
  | [] => 0
  | d :: r => uptoBulk d + uptoBulkAll r
def uptoBulkEntries {H : Type} : List (Lit × DataW H) → Nat
  | [] => 0
  | x :: r => uptoBulkEntry x + uptoBulkEntries r
def uptoBulkEntry {H : Type} : Lit × DataW H → Nat
  | (.string bytes, d) => bytes.length + uptoBulk d + 1
  | (_, d) => uptoBulk d + 1
 end
def uptoSmall : (H : Type) → List (DataW H) → Bool := fun _ ds => decide (uptoBulkAll ds ≤ 1048576)
def OpenSpec.upto (s : _root_.Go.ChangeSpec) : _root_.Go.OpenSpec := { _root_.Go.OpenSpec.ofChange s with cond := some uptoSmall }

/-- 'signetlaw23.ReplayOwn', WHERE WHAT IT READS IS OF BULK AT MOST 1048576: true; the input reads as it did. -/
def replayOwnUptoRow : OpenClaim := { program := "ytcojlgkfkifhmaa", sum := "bdfc36dfdd62e0fb223bcbbca2ce6ad7ff6db372b173d91bb84991d97e0f915a", func := "signet/signetlaw23.ReplayOwn", spec := "replayOwn", unfollowed := true, recurses := true, apart := false, narrowed := true }
def ReplayOwnUptoSaid : Prop := replayOwnUptoRow.holds Try.pinned (OpenSpec.upto replayOwnSpec)

/-- 'signetlaw23.ReplayOpens', WHERE WHAT IT READS IS OF BULK AT MOST 1048576: true; the input reads as it did. -/
def replayOpensUptoRow : OpenClaim := { program := "ytcojlgkfkifhmaa", sum := "bdfc36dfdd62e0fb223bcbbca2ce6ad7ff6db372b173d91bb84991d97e0f915a", func := "signet/signetlaw23.ReplayOpens", spec := "replayOpens", unfollowed := true, recurses := true, apart := false, narrowed := true }
def ReplayOpensUptoSaid : Prop := replayOpensUptoRow.holds Try.pinned (OpenSpec.upto replayOpensSpec)

/-- 'signetlaw23.ReplayPlays', WHERE WHAT IT READS IS OF BULK AT MOST 1048576: true; the input reads as it did. -/
def replayPlaysUptoRow : OpenClaim := { program := "ytcojlgkfkifhmaa", sum := "bdfc36dfdd62e0fb223bcbbca2ce6ad7ff6db372b173d91bb84991d97e0f915a", func := "signet/signetlaw23.ReplayPlays", spec := "replayPlays", unfollowed := true, recurses := true, apart := false, narrowed := true }
def ReplayPlaysUptoSaid : Prop := replayPlaysUptoRow.holds Try.pinned (OpenSpec.upto replayPlaysSpec)

/-- 'signetlaw23.ReplayOnce', WHERE WHAT IT READS IS OF BULK AT MOST 1048576: true; the input reads as it did. -/
def replayOnceUptoRow : OpenClaim := { program := "ytcojlgkfkifhmaa", sum := "bdfc36dfdd62e0fb223bcbbca2ce6ad7ff6db372b173d91bb84991d97e0f915a", func := "signet/signetlaw23.ReplayOnce", spec := "replayOnce", unfollowed := true, recurses := true, apart := false, narrowed := true }
def ReplayOnceUptoSaid : Prop := replayOnceUptoRow.holds Try.pinned (OpenSpec.upto replayOnceSpec)

/-- 'signetlaw23.ReplayRefuses', WHERE WHAT IT READS IS OF BULK AT MOST 1048576: true; the input reads as it did. -/
def replayRefusesUptoRow : OpenClaim := { program := "ytcojlgkfkifhmaa", sum := "bdfc36dfdd62e0fb223bcbbca2ce6ad7ff6db372b173d91bb84991d97e0f915a", func := "signet/signetlaw23.ReplayRefuses", spec := "replayRefuses", unfollowed := true, recurses := true, apart := false, narrowed := true }
def ReplayRefusesUptoSaid : Prop := replayRefusesUptoRow.holds Try.pinned (OpenSpec.upto replayRefusesSpec)

/-- 'signetlaw23.ReplayBack', WHERE WHAT IT READS IS OF BULK AT MOST 1048576: true; the input reads as it did. -/
def replayBackUptoRow : OpenClaim := { program := "ytcojlgkfkifhmaa", sum := "bdfc36dfdd62e0fb223bcbbca2ce6ad7ff6db372b173d91bb84991d97e0f915a", func := "signet/signetlaw23.ReplayBack", spec := "replayBack", unfollowed := true, recurses := true, apart := false, narrowed := true }
def ReplayBackUptoSaid : Prop := replayBackUptoRow.holds Try.pinned (OpenSpec.upto replayBackSpec)

/-- 'signetlaw23.ReplayWhole', WHERE WHAT IT READS IS OF BULK AT MOST 1048576: true; the input reads as it did. -/
def replayWholeUptoRow : OpenClaim := { program := "ytcojlgkfkifhmaa", sum := "bdfc36dfdd62e0fb223bcbbca2ce6ad7ff6db372b173d91bb84991d97e0f915a", func := "signet/signetlaw23.ReplayWhole", spec := "replayWhole", unfollowed := true, recurses := true, apart := false, narrowed := true }
def ReplayWholeUptoSaid : Prop := replayWholeUptoRow.holds Try.pinned (OpenSpec.upto replayWholeSpec)

end Rows
end Go.Proofs.Ytcojlgkfkifhmaa
