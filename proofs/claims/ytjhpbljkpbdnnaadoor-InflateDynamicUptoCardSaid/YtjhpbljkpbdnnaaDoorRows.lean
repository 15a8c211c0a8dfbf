/-
  NARROWER THAN 'FOR EVERY INPUT', by the rows' own cells (each row's printed sentence says how): InflateReads: laid · InflateFixed: laid · InflateDynamic: laid · InflateStored: laid · InflateMost: laid · InflateZlibs: laid · InflateSums: laid.
  DERIVED. THE GIVEN ROWS OF THIS SEAT. 7 by the template 'for every input the law returns true; each argument reads behind the call as it read before'; 0 by the template 'total and deterministic' (their statements: YtjhpbljkpbdnnaaDoorTotals.lean).
  GIVEN WITH THE SEED: the statements are not yours to turn. If you find one false, say at which input.
  Laid BY PROGRAM, IN A SANDBOX (cutbox-rows.mjs): the forced cells as the released guide's own fill.sh prints them over the translation 648de697a11a5a91… (all of the seat's roots in one cut). By AI agents, Wed Nov 11 2026. No macro, syntax, notation, axiom, sorry.
-/
import Derived.Test.YtjhpbljkpbdnnaaDoorChecked
import GoSem.Claim
import GoSem.ClaimJoined
import GoSem.ClaimMapViews
import Derived.JoinedTies
import Derived.KernelRfl
namespace Go.Proofs.YtjhpbljkpbdnnaaDoor
/- THE CELL 'sum', in the pinned program and in every row, IS THE sha256 OF THE DUMP (.gsa) THAT YtjhpbljkpbdnnaaDoorProg.lean LOADS. Nothing in Lean hashes anything: it is a label: what it is worth is what the hold of that sum in a sandbox is worth. -/
noncomputable def Tryd.pinned : Pinned := { name := "ytjhpbljkpbdnnaadoor", sum := "648de697a11a5a918504c9e05484e171772359b8097f410e8ff418400b5874a6", checked := Tryd.checked }
namespace Rows
def none {H : Type} : Left H := { results := [], args := [] }

/- WHAT THE LISTED PACKAGE-LEVEL VARIABLES READ AS WHEN THE CALL BEGINS. Each datum BY PROGRAM (the guide's laid-datum.mjs) off the statement by which the dump's own 'gosem.cut.vars' lays the variable. In a bare row this is a premise. The card (YtjhpbljkpbdnnaaDoorCards.lean) ties it to the program's text. -/
def laid_signet_inflate_order {H : Type} : DataW H := .agg [.lit (.int .i64 16), .lit (.int .i64 17), .lit (.int .i64 18), .lit (.int .i64 0), .lit (.int .i64 8), .lit (.int .i64 7), .lit (.int .i64 9), .lit (.int .i64 6), .lit (.int .i64 10), .lit (.int .i64 5), .lit (.int .i64 11), .lit (.int .i64 4), .lit (.int .i64 12), .lit (.int .i64 3), .lit (.int .i64 13), .lit (.int .i64 2), .lit (.int .i64 14), .lit (.int .i64 1), .lit (.int .i64 15)]

/-- 'signetlaw34.InflateReads': WHATEVER THE INPUT: true; the input reads as it did. -/
def inflateReadsSpec : ChangeSpec := { name := "inflateReads", fn := fun _ => fun
  | [d1, d2] => { results := [.lit (.bool true)], args := [d1, d2] }
  | _ => none }
def inflateReadsRow : OpenClaim := { program := "ytjhpbljkpbdnnaadoor", sum := "648de697a11a5a918504c9e05484e171772359b8097f410e8ff418400b5874a6", func := "signet/signetlaw34.InflateReads", spec := "inflateReads", unfollowed := true, recurses := true, named := ["signet/inflate.order"], apart := false, laid := [("signet/inflate.order", laid_signet_inflate_order)] }
def InflateReadsSaid : Prop := inflateReadsRow.holds Tryd.pinned (OpenSpec.ofChange inflateReadsSpec)

/-- ITS FALSE NEIGHBOUR: 'it returns false'. Refute it at one input. -/
def inflateReadsWrong : ChangeSpec := { name := "inflateReads", fn := fun _ => fun
  | [d1, d2] => { results := [.lit (.bool false)], args := [d1, d2] }
  | _ => none }
def InflateReadsWrongFalsely : Prop := inflateReadsRow.holds Tryd.pinned (OpenSpec.ofChange inflateReadsWrong)

/-- 'signetlaw34.InflateFixed': WHATEVER THE INPUT: true; the input reads as it did. -/
def inflateFixedSpec : ChangeSpec := { name := "inflateFixed", fn := fun _ => fun
  | [d1, d2] => { results := [.lit (.bool true)], args := [d1, d2] }
  | _ => none }
def inflateFixedRow : OpenClaim := { program := "ytjhpbljkpbdnnaadoor", sum := "648de697a11a5a918504c9e05484e171772359b8097f410e8ff418400b5874a6", func := "signet/signetlaw34.InflateFixed", spec := "inflateFixed", unfollowed := true, recurses := true, named := ["signet/inflate.order"], apart := false, laid := [("signet/inflate.order", laid_signet_inflate_order)] }
def InflateFixedSaid : Prop := inflateFixedRow.holds Tryd.pinned (OpenSpec.ofChange inflateFixedSpec)

/-- ITS FALSE NEIGHBOUR: 'it returns false'. Refute it at one input. -/
def inflateFixedWrong : ChangeSpec := { name := "inflateFixed", fn := fun _ => fun
  | [d1, d2] => { results := [.lit (.bool false)], args := [d1, d2] }
  | _ => none }
def InflateFixedWrongFalsely : Prop := inflateFixedRow.holds Tryd.pinned (OpenSpec.ofChange inflateFixedWrong)

/-- 'signetlaw34.InflateDynamic': WHATEVER THE INPUT: true; the input reads as it did. -/
def inflateDynamicSpec : ChangeSpec := { name := "inflateDynamic", fn := fun _ => fun
  | [d1, d2, d3] => { results := [.lit (.bool true)], args := [d1, d2, d3] }
  | _ => none }
def inflateDynamicRow : OpenClaim := { program := "ytjhpbljkpbdnnaadoor", sum := "648de697a11a5a918504c9e05484e171772359b8097f410e8ff418400b5874a6", func := "signet/signetlaw34.InflateDynamic", spec := "inflateDynamic", unfollowed := true, recurses := true, named := ["signet/inflate.order"], apart := false, laid := [("signet/inflate.order", laid_signet_inflate_order)] }
def InflateDynamicSaid : Prop := inflateDynamicRow.holds Tryd.pinned (OpenSpec.ofChange inflateDynamicSpec)

/-- ITS FALSE NEIGHBOUR: 'it returns false'. Refute it at one input. -/
def inflateDynamicWrong : ChangeSpec := { name := "inflateDynamic", fn := fun _ => fun
  | [d1, d2, d3] => { results := [.lit (.bool false)], args := [d1, d2, d3] }
  | _ => none }
def InflateDynamicWrongFalsely : Prop := inflateDynamicRow.holds Tryd.pinned (OpenSpec.ofChange inflateDynamicWrong)

/-- 'signetlaw34.InflateStored': WHATEVER THE INPUT: true; the input reads as it did. -/
def inflateStoredSpec : ChangeSpec := { name := "inflateStored", fn := fun _ => fun
  | [d1, d2, d3, d4, d5] => { results := [.lit (.bool true)], args := [d1, d2, d3, d4, d5] }
  | _ => none }
def inflateStoredRow : OpenClaim := { program := "ytjhpbljkpbdnnaadoor", sum := "648de697a11a5a918504c9e05484e171772359b8097f410e8ff418400b5874a6", func := "signet/signetlaw34.InflateStored", spec := "inflateStored", unfollowed := true, recurses := true, named := ["signet/inflate.order"], apart := false, laid := [("signet/inflate.order", laid_signet_inflate_order)] }
def InflateStoredSaid : Prop := inflateStoredRow.holds Tryd.pinned (OpenSpec.ofChange inflateStoredSpec)

/-- ITS FALSE NEIGHBOUR: 'it returns false'. Refute it at one input. -/
def inflateStoredWrong : ChangeSpec := { name := "inflateStored", fn := fun _ => fun
  | [d1, d2, d3, d4, d5] => { results := [.lit (.bool false)], args := [d1, d2, d3, d4, d5] }
  | _ => none }
def InflateStoredWrongFalsely : Prop := inflateStoredRow.holds Tryd.pinned (OpenSpec.ofChange inflateStoredWrong)

/-- 'signetlaw34.InflateMost': WHATEVER THE INPUT: true; the input reads as it did. -/
def inflateMostSpec : ChangeSpec := { name := "inflateMost", fn := fun _ => fun
  | [d1, d2, d3, d4] => { results := [.lit (.bool true)], args := [d1, d2, d3, d4] }
  | _ => none }
def inflateMostRow : OpenClaim := { program := "ytjhpbljkpbdnnaadoor", sum := "648de697a11a5a918504c9e05484e171772359b8097f410e8ff418400b5874a6", func := "signet/signetlaw34.InflateMost", spec := "inflateMost", unfollowed := true, recurses := true, named := ["signet/inflate.order"], apart := false, laid := [("signet/inflate.order", laid_signet_inflate_order)] }
def InflateMostSaid : Prop := inflateMostRow.holds Tryd.pinned (OpenSpec.ofChange inflateMostSpec)

/-- ITS FALSE NEIGHBOUR: 'it returns false'. Refute it at one input. -/
def inflateMostWrong : ChangeSpec := { name := "inflateMost", fn := fun _ => fun
  | [d1, d2, d3, d4] => { results := [.lit (.bool false)], args := [d1, d2, d3, d4] }
  | _ => none }
def InflateMostWrongFalsely : Prop := inflateMostRow.holds Tryd.pinned (OpenSpec.ofChange inflateMostWrong)

/-- 'signetlaw34.InflateZlibs': WHATEVER THE INPUT: true; the input reads as it did. -/
def inflateZlibsSpec : ChangeSpec := { name := "inflateZlibs", fn := fun _ => fun
  | [d1, d2] => { results := [.lit (.bool true)], args := [d1, d2] }
  | _ => none }
def inflateZlibsRow : OpenClaim := { program := "ytjhpbljkpbdnnaadoor", sum := "648de697a11a5a918504c9e05484e171772359b8097f410e8ff418400b5874a6", func := "signet/signetlaw34.InflateZlibs", spec := "inflateZlibs", unfollowed := true, recurses := true, named := ["signet/inflate.order"], apart := false, laid := [("signet/inflate.order", laid_signet_inflate_order)] }
def InflateZlibsSaid : Prop := inflateZlibsRow.holds Tryd.pinned (OpenSpec.ofChange inflateZlibsSpec)

/-- ITS FALSE NEIGHBOUR: 'it returns false'. Refute it at one input. -/
def inflateZlibsWrong : ChangeSpec := { name := "inflateZlibs", fn := fun _ => fun
  | [d1, d2] => { results := [.lit (.bool false)], args := [d1, d2] }
  | _ => none }
def InflateZlibsWrongFalsely : Prop := inflateZlibsRow.holds Tryd.pinned (OpenSpec.ofChange inflateZlibsWrong)

/-- 'signetlaw34.InflateSums': WHATEVER THE INPUT: true; the input reads as it did. -/
def inflateSumsSpec : ChangeSpec := { name := "inflateSums", fn := fun _ => fun
  | [d1, d2, d3] => { results := [.lit (.bool true)], args := [d1, d2, d3] }
  | _ => none }
def inflateSumsRow : OpenClaim := { program := "ytjhpbljkpbdnnaadoor", sum := "648de697a11a5a918504c9e05484e171772359b8097f410e8ff418400b5874a6", func := "signet/signetlaw34.InflateSums", spec := "inflateSums", unfollowed := true, recurses := true, named := ["signet/inflate.order"], apart := false, laid := [("signet/inflate.order", laid_signet_inflate_order)] }
def InflateSumsSaid : Prop := inflateSumsRow.holds Tryd.pinned (OpenSpec.ofChange inflateSumsSpec)

/-- ITS FALSE NEIGHBOUR: 'it returns false'. Refute it at one input. -/
def inflateSumsWrong : ChangeSpec := { name := "inflateSums", fn := fun _ => fun
  | [d1, d2, d3] => { results := [.lit (.bool false)], args := [d1, d2, d3] }
  | _ => none }
def InflateSumsWrongFalsely : Prop := inflateSumsRow.holds Tryd.pinned (OpenSpec.ofChange inflateSumsWrong)

/- THE SECOND FORM. 'bulk': how many values and letters a reading holds, each counted each time it is reached (what is shared counts as often as it is met; a slice's spare places count too). A statement '..UptoSaid' is the law's where the arguments, and the package variables that the reading takes, are together of bulk at most 1048576: NARROWER than '..Said'. Prove '..Said' where nothing that the law and all that it calls make is longer than what came in: it says more and counts as full. Else prove '..UptoSaid'. A law counts once. -/
mutual
def uptoBulk {H : Type} : DataW H → Nat
  | .lit (.string bytes) => bytes.length + 1
  | .lit _ => 1
  | .nil => 1
  | .ptr d => uptoBulk d + 1
  | .slice elems spare => uptoBulkAll elems + uptoBulkAll spare + 1
  | .agg parts => uptoBulkAll parts + 1
  | .iface _ d => uptoBulk d + 1
  | .map entries => uptoBulkEntries entries + 1
  | .held _ => 1
def uptoBulkAll {H : Type} : List (DataW H) → Nat
  | [] => 0
  | d :: r => uptoBulk d + uptoBulkAll r
def uptoBulkEntries {H : Type} : List (Lit × DataW H) → Nat
  | [] => 0
  | x :: r => uptoBulkEntry x + uptoBulkEntries r
def uptoBulkEntry {H : Type} : Lit × DataW H → Nat
  | (.string bytes, d) => bytes.length + uptoBulk d + 1
  | (_, d) => uptoBulk d + 1
 end
def uptoSmall : (H : Type) → List (DataW H) → Bool := fun _ ds => decide (uptoBulkAll ds ≤ 1048576)
def OpenSpec.upto (s : _root_.Go.ChangeSpec) : _root_.Go.OpenSpec := { _root_.Go.OpenSpec.ofChange s with cond := some uptoSmall }

/-- 'signetlaw34.InflateReads', WHERE WHAT IT READS IS OF BULK AT MOST 1048576: true; the input reads as it did. -/
def inflateReadsUptoRow : OpenClaim := { program := "ytjhpbljkpbdnnaadoor", sum := "648de697a11a5a918504c9e05484e171772359b8097f410e8ff418400b5874a6", func := "signet/signetlaw34.InflateReads", spec := "inflateReads", unfollowed := true, recurses := true, named := ["signet/inflate.order"], apart := false, laid := [("signet/inflate.order", laid_signet_inflate_order)], narrowed := true }
def InflateReadsUptoSaid : Prop := inflateReadsUptoRow.holds Tryd.pinned (OpenSpec.upto inflateReadsSpec)

/-- 'signetlaw34.InflateFixed', WHERE WHAT IT READS IS OF BULK AT MOST 1048576: true; the input reads as it did. -/
def inflateFixedUptoRow : OpenClaim := { program := "ytjhpbljkpbdnnaadoor", sum := "648de697a11a5a918504c9e05484e171772359b8097f410e8ff418400b5874a6", func := "signet/signetlaw34.InflateFixed", spec := "inflateFixed", unfollowed := true, recurses := true, named := ["signet/inflate.order"], apart := false, laid := [("signet/inflate.order", laid_signet_inflate_order)], narrowed := true }
def InflateFixedUptoSaid : Prop := inflateFixedUptoRow.holds Tryd.pinned (OpenSpec.upto inflateFixedSpec)

/-- 'signetlaw34.InflateDynamic', WHERE WHAT IT READS IS OF BULK AT MOST 1048576: true; the input reads as it did. -/
def inflateDynamicUptoRow : OpenClaim := { program := "ytjhpbljkpbdnnaadoor", sum := "648de697a11a5a918504c9e05484e171772359b8097f410e8ff418400b5874a6", func := "signet/signetlaw34.InflateDynamic", spec := "inflateDynamic", unfollowed := true, recurses := true, named := ["signet/inflate.order"], apart := false, laid := [("signet/inflate.order", laid_signet_inflate_order)], narrowed := true }
def InflateDynamicUptoSaid : Prop := inflateDynamicUptoRow.holds Tryd.pinned (OpenSpec.upto inflateDynamicSpec)

/-- 'signetlaw34.InflateStored', WHERE WHAT IT READS IS OF BULK AT MOST 1048576: true; the input reads as it did. -/
def inflateStoredUptoRow : OpenClaim := { program := "ytjhpbljkpbdnnaadoor", sum := "648de697a11a5a918504c9e05484e171772359b8097f410e8ff418400b5874a6", func := "signet/signetlaw34.InflateStored", spec := "inflateStored", unfollowed := true, recurses := true, named := ["signet/inflate.order"], apart := false, laid := [("signet/inflate.order", laid_signet_inflate_order)], narrowed := true }
def InflateStoredUptoSaid : Prop := inflateStoredUptoRow.holds Tryd.pinned (OpenSpec.upto inflateStoredSpec)

/-- 'signetlaw34.InflateMost', WHERE WHAT IT READS IS OF BULK AT MOST 1048576: true; the input reads as it did. -/
def inflateMostUptoRow : OpenClaim := { program := "ytjhpbljkpbdnnaadoor", sum := "648de697a11a5a918504c9e05484e171772359b8097f410e8ff418400b5874a6", func := "signet/signetlaw34.InflateMost", spec := "inflateMost", unfollowed := true, recurses := true, named := ["signet/inflate.order"], apart := false, laid := [("signet/inflate.order", laid_signet_inflate_order)], narrowed := true }
def InflateMostUptoSaid : Prop := inflateMostUptoRow.holds Tryd.pinned (OpenSpec.upto inflateMostSpec)

/-- 'signetlaw34.InflateZlibs', WHERE WHAT IT READS IS OF BULK AT MOST 1048576: true; the input reads as it did. -/
def inflateZlibsUptoRow : OpenClaim := { program := "ytjhpbljkpbdnnaadoor", sum := "648de697a11a5a918504c9e05484e171772359b8097f410e8ff418400b5874a6", func := "signet/signetlaw34.InflateZlibs", spec := "inflateZlibs", unfollowed := true, recurses := true, named := ["signet/inflate.order"], apart := false, laid := [("signet/inflate.order", laid_signet_inflate_order)], narrowed := true }
def InflateZlibsUptoSaid : Prop := inflateZlibsUptoRow.holds Tryd.pinned (OpenSpec.upto inflateZlibsSpec)

/-- 'signetlaw34.InflateSums', WHERE WHAT IT READS IS OF BULK AT MOST 1048576: true; the input reads as it did. -/
def inflateSumsUptoRow : OpenClaim := { program := "ytjhpbljkpbdnnaadoor", sum := "648de697a11a5a918504c9e05484e171772359b8097f410e8ff418400b5874a6", func := "signet/signetlaw34.InflateSums", spec := "inflateSums", unfollowed := true, recurses := true, named := ["signet/inflate.order"], apart := false, laid := [("signet/inflate.order", laid_signet_inflate_order)], narrowed := true }
def InflateSumsUptoSaid : Prop := inflateSumsUptoRow.holds Tryd.pinned (OpenSpec.upto inflateSumsSpec)

end Rows
end Go.Proofs.YtjhpbljkpbdnnaaDoor
