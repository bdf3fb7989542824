/-
  No cell of these rows narrows 'for every input' (looked for: loops, veiled, ifaces, maps, wideKeys, modest, calm, conditions, laid).
  DERIVED. THE GIVEN ROWS OF THIS SEAT. 10 by the template 'for every input the law returns true; each argument reads behind the call as it read before'; 0 by the template 'total and deterministic' (their statements: YtllcekmbcmhckaaTotals.lean).
  GIVEN WITH THE SEED: the statements are not yours to turn. If you find one false, say at which input.
  Laid BY PROGRAM, IN A SANDBOX (cutbox-rows.mjs): the forced cells as the released guide's own fill.sh prints them over the translation b5de1489eefbccbb… (all of the seat's roots in one cut). By AI agents, Wed Nov 11 2026. No macro, syntax, notation, axiom, sorry.
-/
import Derived.Test.YtllcekmbcmhckaaChecked
import GoSem.Claim
import GoSem.ClaimJoined
import GoSem.ClaimMapViews
import Derived.JoinedTies
import Derived.KernelRfl
namespace Go.Proofs.Ytllcekmbcmhckaa
/- THE CELL 'sum', in the pinned program and in every row, IS THE sha256 OF THE DUMP (.gsa) THAT YtllcekmbcmhckaaProg.lean LOADS. Nothing in Lean hashes anything: it is a label: what it is worth is what the hold of that sum in a sandbox is worth. -/
noncomputable def Try.pinned : Pinned := { name := "ytllcekmbcmhckaa", sum := "b5de1489eefbccbb8466e11d7d56da7999ec43794d4f054225f3fddb3c5b151d", checked := Try.checked }
namespace Rows
def none {H : Type} : Left H := { results := [], args := [] }

/-- 'triforiumlaw03.SpanTells': WHATEVER THE INPUT: true; the input reads as it did. -/
def spanTellsSpec : ChangeSpec := { name := "spanTells", fn := fun _ => fun
  | [d1, d2, d3] => { results := [.lit (.bool true)], args := [d1, d2, d3] }
  | _ => none }
def spanTellsRow : OpenClaim := { program := "ytllcekmbcmhckaa", sum := "b5de1489eefbccbb8466e11d7d56da7999ec43794d4f054225f3fddb3c5b151d", func := "triforium/triforiumlaw03.SpanTells", spec := "spanTells", unfollowed := true, recurses := true, apart := false }
def SpanTellsSaid : Prop := spanTellsRow.holds Try.pinned (OpenSpec.ofChange spanTellsSpec)

/-- ITS FALSE NEIGHBOUR: 'it returns false'. Refute it at one input. -/
def spanTellsWrong : ChangeSpec := { name := "spanTells", fn := fun _ => fun
  | [d1, d2, d3] => { results := [.lit (.bool false)], args := [d1, d2, d3] }
  | _ => none }
def SpanTellsWrongFalsely : Prop := spanTellsRow.holds Try.pinned (OpenSpec.ofChange spanTellsWrong)

/-- 'triforiumlaw03.SpanLists': WHATEVER THE INPUT: true; the input reads as it did. -/
def spanListsSpec : ChangeSpec := { name := "spanLists", fn := fun _ => fun
  | [d] => { results := [.lit (.bool true)], args := [d] }
  | _ => none }
def spanListsRow : OpenClaim := { program := "ytllcekmbcmhckaa", sum := "b5de1489eefbccbb8466e11d7d56da7999ec43794d4f054225f3fddb3c5b151d", func := "triforium/triforiumlaw03.SpanLists", spec := "spanLists", unfollowed := true, recurses := true, apart := false }
def SpanListsSaid : Prop := spanListsRow.holds Try.pinned (OpenSpec.ofChange spanListsSpec)

/-- ITS FALSE NEIGHBOUR: 'it returns false'. Refute it at one input. -/
def spanListsWrong : ChangeSpec := { name := "spanLists", fn := fun _ => fun
  | [d] => { results := [.lit (.bool false)], args := [d] }
  | _ => none }
def SpanListsWrongFalsely : Prop := spanListsRow.holds Try.pinned (OpenSpec.ofChange spanListsWrong)

/-- 'triforiumlaw03.SpanGaps': WHATEVER THE INPUT: true; the input reads as it did. -/
def spanGapsSpec : ChangeSpec := { name := "spanGaps", fn := fun _ => fun
  | [d1, d2] => { results := [.lit (.bool true)], args := [d1, d2] }
  | _ => none }
def spanGapsRow : OpenClaim := { program := "ytllcekmbcmhckaa", sum := "b5de1489eefbccbb8466e11d7d56da7999ec43794d4f054225f3fddb3c5b151d", func := "triforium/triforiumlaw03.SpanGaps", spec := "spanGaps", unfollowed := true, recurses := true, apart := false }
def SpanGapsSaid : Prop := spanGapsRow.holds Try.pinned (OpenSpec.ofChange spanGapsSpec)

/-- ITS FALSE NEIGHBOUR: 'it returns false'. Refute it at one input. -/
def spanGapsWrong : ChangeSpec := { name := "spanGaps", fn := fun _ => fun
  | [d1, d2] => { results := [.lit (.bool false)], args := [d1, d2] }
  | _ => none }
def SpanGapsWrongFalsely : Prop := spanGapsRow.holds Try.pinned (OpenSpec.ofChange spanGapsWrong)

/-- 'triforiumlaw03.SpanParts': WHATEVER THE INPUT: true; the input reads as it did. -/
def spanPartsSpec : ChangeSpec := { name := "spanParts", fn := fun _ => fun
  | [d1, d2, d3] => { results := [.lit (.bool true)], args := [d1, d2, d3] }
  | _ => none }
def spanPartsRow : OpenClaim := { program := "ytllcekmbcmhckaa", sum := "b5de1489eefbccbb8466e11d7d56da7999ec43794d4f054225f3fddb3c5b151d", func := "triforium/triforiumlaw03.SpanParts", spec := "spanParts", unfollowed := true, recurses := true, apart := false }
def SpanPartsSaid : Prop := spanPartsRow.holds Try.pinned (OpenSpec.ofChange spanPartsSpec)

/-- ITS FALSE NEIGHBOUR: 'it returns false'. Refute it at one input. -/
def spanPartsWrong : ChangeSpec := { name := "spanParts", fn := fun _ => fun
  | [d1, d2, d3] => { results := [.lit (.bool false)], args := [d1, d2, d3] }
  | _ => none }
def SpanPartsWrongFalsely : Prop := spanPartsRow.holds Try.pinned (OpenSpec.ofChange spanPartsWrong)

/-- 'triforiumlaw04.LayoutParts': WHATEVER THE INPUT: true; the input reads as it did. -/
def layoutPartsSpec : ChangeSpec := { name := "layoutParts", fn := fun _ => fun
  | [d1, d2, d3] => { results := [.lit (.bool true)], args := [d1, d2, d3] }
  | _ => none }
def layoutPartsRow : OpenClaim := { program := "ytllcekmbcmhckaa", sum := "b5de1489eefbccbb8466e11d7d56da7999ec43794d4f054225f3fddb3c5b151d", func := "triforium/triforiumlaw04.LayoutParts", spec := "layoutParts", unfollowed := true, recurses := true, apart := false }
def LayoutPartsSaid : Prop := layoutPartsRow.holds Try.pinned (OpenSpec.ofChange layoutPartsSpec)

/-- ITS FALSE NEIGHBOUR: 'it returns false'. Refute it at one input. -/
def layoutPartsWrong : ChangeSpec := { name := "layoutParts", fn := fun _ => fun
  | [d1, d2, d3] => { results := [.lit (.bool false)], args := [d1, d2, d3] }
  | _ => none }
def LayoutPartsWrongFalsely : Prop := layoutPartsRow.holds Try.pinned (OpenSpec.ofChange layoutPartsWrong)

/-- 'triforiumlaw10.ExtentTells': WHATEVER THE INPUT: true; the input reads as it did. -/
def extentTellsSpec : ChangeSpec := { name := "extentTells", fn := fun _ => fun
  | [d1, d2] => { results := [.lit (.bool true)], args := [d1, d2] }
  | _ => none }
def extentTellsRow : OpenClaim := { program := "ytllcekmbcmhckaa", sum := "b5de1489eefbccbb8466e11d7d56da7999ec43794d4f054225f3fddb3c5b151d", func := "triforium/triforiumlaw10.ExtentTells", spec := "extentTells", unfollowed := true, recurses := true, apart := false }
def ExtentTellsSaid : Prop := extentTellsRow.holds Try.pinned (OpenSpec.ofChange extentTellsSpec)

/-- ITS FALSE NEIGHBOUR: 'it returns false'. Refute it at one input. -/
def extentTellsWrong : ChangeSpec := { name := "extentTells", fn := fun _ => fun
  | [d1, d2] => { results := [.lit (.bool false)], args := [d1, d2] }
  | _ => none }
def ExtentTellsWrongFalsely : Prop := extentTellsRow.holds Try.pinned (OpenSpec.ofChange extentTellsWrong)

/-- 'triforiumlaw10.ExtentBack': WHATEVER THE INPUT: true; the input reads as it did. -/
def extentBackSpec : ChangeSpec := { name := "extentBack", fn := fun _ => fun
  | [d1, d2, d3, d4] => { results := [.lit (.bool true)], args := [d1, d2, d3, d4] }
  | _ => none }
def extentBackRow : OpenClaim := { program := "ytllcekmbcmhckaa", sum := "b5de1489eefbccbb8466e11d7d56da7999ec43794d4f054225f3fddb3c5b151d", func := "triforium/triforiumlaw10.ExtentBack", spec := "extentBack", unfollowed := true, recurses := true, apart := false }
def ExtentBackSaid : Prop := extentBackRow.holds Try.pinned (OpenSpec.ofChange extentBackSpec)

/-- ITS FALSE NEIGHBOUR: 'it returns false'. Refute it at one input. -/
def extentBackWrong : ChangeSpec := { name := "extentBack", fn := fun _ => fun
  | [d1, d2, d3, d4] => { results := [.lit (.bool false)], args := [d1, d2, d3, d4] }
  | _ => none }
def ExtentBackWrongFalsely : Prop := extentBackRow.holds Try.pinned (OpenSpec.ofChange extentBackWrong)

/-- 'triforiumlaw11.LedgerMoves': WHATEVER THE INPUT: true; the input reads as it did. -/
def ledgerMovesSpec : ChangeSpec := { name := "ledgerMoves", fn := fun _ => fun
  | [d1, d2, d3] => { results := [.lit (.bool true)], args := [d1, d2, d3] }
  | _ => none }
def ledgerMovesRow : OpenClaim := { program := "ytllcekmbcmhckaa", sum := "b5de1489eefbccbb8466e11d7d56da7999ec43794d4f054225f3fddb3c5b151d", func := "triforium/triforiumlaw11.LedgerMoves", spec := "ledgerMoves", inPlace := ["slices.overlaps[triforium/api.Span]"], unfollowed := true, recurses := true, apart := false }
def LedgerMovesSaid : Prop := ledgerMovesRow.holds Try.pinned (OpenSpec.ofChange ledgerMovesSpec)

/-- ITS FALSE NEIGHBOUR: 'it returns false'. Refute it at one input. -/
def ledgerMovesWrong : ChangeSpec := { name := "ledgerMoves", fn := fun _ => fun
  | [d1, d2, d3] => { results := [.lit (.bool false)], args := [d1, d2, d3] }
  | _ => none }
def LedgerMovesWrongFalsely : Prop := ledgerMovesRow.holds Try.pinned (OpenSpec.ofChange ledgerMovesWrong)

/-- 'triforiumlaw11.LedgerTells': WHATEVER THE INPUT: true; the input reads as it did. -/
def ledgerTellsSpec : ChangeSpec := { name := "ledgerTells", fn := fun _ => fun
  | [d1, d2, d3] => { results := [.lit (.bool true)], args := [d1, d2, d3] }
  | _ => none }
def ledgerTellsRow : OpenClaim := { program := "ytllcekmbcmhckaa", sum := "b5de1489eefbccbb8466e11d7d56da7999ec43794d4f054225f3fddb3c5b151d", func := "triforium/triforiumlaw11.LedgerTells", spec := "ledgerTells", inPlace := ["slices.overlaps[triforium/api.Span]"], unfollowed := true, recurses := true, apart := false }
def LedgerTellsSaid : Prop := ledgerTellsRow.holds Try.pinned (OpenSpec.ofChange ledgerTellsSpec)

/-- ITS FALSE NEIGHBOUR: 'it returns false'. Refute it at one input. -/
def ledgerTellsWrong : ChangeSpec := { name := "ledgerTells", fn := fun _ => fun
  | [d1, d2, d3] => { results := [.lit (.bool false)], args := [d1, d2, d3] }
  | _ => none }
def LedgerTellsWrongFalsely : Prop := ledgerTellsRow.holds Try.pinned (OpenSpec.ofChange ledgerTellsWrong)

/-- 'triforiumlaw11.LedgerStays': WHATEVER THE INPUT: true; the input reads as it did. -/
def ledgerStaysSpec : ChangeSpec := { name := "ledgerStays", fn := fun _ => fun
  | [d1, d2, d3, d4, d5] => { results := [.lit (.bool true)], args := [d1, d2, d3, d4, d5] }
  | _ => none }
def ledgerStaysRow : OpenClaim := { program := "ytllcekmbcmhckaa", sum := "b5de1489eefbccbb8466e11d7d56da7999ec43794d4f054225f3fddb3c5b151d", func := "triforium/triforiumlaw11.LedgerStays", spec := "ledgerStays", inPlace := ["slices.overlaps[triforium/api.Span]"], unfollowed := true, recurses := true, apart := false }
def LedgerStaysSaid : Prop := ledgerStaysRow.holds Try.pinned (OpenSpec.ofChange ledgerStaysSpec)

/-- ITS FALSE NEIGHBOUR: 'it returns false'. Refute it at one input. -/
def ledgerStaysWrong : ChangeSpec := { name := "ledgerStays", fn := fun _ => fun
  | [d1, d2, d3, d4, d5] => { results := [.lit (.bool false)], args := [d1, d2, d3, d4, d5] }
  | _ => none }
def LedgerStaysWrongFalsely : Prop := ledgerStaysRow.holds Try.pinned (OpenSpec.ofChange ledgerStaysWrong)

/- THE SECOND FORM. 'bulk': how many values and letters a reading holds, each counted each time it is reached (what is shared counts as often as it is met; a slice's spare places count too). A statement '..UptoSaid' is the law's where the arguments, and the package variables that the reading takes, are together of bulk at most 1048576: NARROWER than '..Said'. Prove '..Said' where nothing that the law and all that it calls make is longer than what came in: it says more and counts as full. Else prove '..UptoSaid'. A law counts once. -/
mutual
def uptoBulk {H : Type} : DataW H → Nat
  | .lit (.string bytes) => bytes.length + 1
  | .lit _ => 1
  | .nil => 1
  | .ptr d => uptoBulk d + 1
  | .slice elems spare => uptoBulkAll elems + uptoBulkAll spare + 1
  | .agg parts => uptoBulkAll parts + 1
  | .iface _ d => uptoBulk d + 1
  | .map entries => uptoBulkEntries entries + 1
  | .held _ => 1
def uptoBulkAll {H : Type} : List (DataW H) → Nat
  | [] => 0
  | d :: r => uptoBulk d + uptoBulkAll r
def uptoBulkEntries {H : Type} : List (Lit × DataW H) → Nat
  | [] => 0
  | x :: r => uptoBulkEntry x + uptoBulkEntries r
def uptoBulkEntry {H : Type} : Lit × DataW H → Nat
  | (.string bytes, d) => bytes.length + uptoBulk d + 1
  | (_, d) => uptoBulk d + 1
 end
def uptoSmall : (H : Type) → List (DataW H) → Bool := fun _ ds => decide (uptoBulkAll ds ≤ 1048576)
def OpenSpec.upto (s : _root_.Go.ChangeSpec) : _root_.Go.OpenSpec := { _root_.Go.OpenSpec.ofChange s with cond := some uptoSmall }

/-- 'triforiumlaw03.SpanTells', WHERE WHAT IT READS IS OF BULK AT MOST 1048576: true; the input reads as it did. -/
def spanTellsUptoRow : OpenClaim := { program := "ytllcekmbcmhckaa", sum := "b5de1489eefbccbb8466e11d7d56da7999ec43794d4f054225f3fddb3c5b151d", func := "triforium/triforiumlaw03.SpanTells", spec := "spanTells", unfollowed := true, recurses := true, apart := false, narrowed := true }
def SpanTellsUptoSaid : Prop := spanTellsUptoRow.holds Try.pinned (OpenSpec.upto spanTellsSpec)

/-- 'triforiumlaw03.SpanLists', WHERE WHAT IT READS IS OF BULK AT MOST 1048576: true; the input reads as it did. -/
def spanListsUptoRow : OpenClaim := { program := "ytllcekmbcmhckaa", sum := "b5de1489eefbccbb8466e11d7d56da7999ec43794d4f054225f3fddb3c5b151d", func := "triforium/triforiumlaw03.SpanLists", spec := "spanLists", unfollowed := true, recurses := true, apart := false, narrowed := true }
def SpanListsUptoSaid : Prop := spanListsUptoRow.holds Try.pinned (OpenSpec.upto spanListsSpec)

/-- 'triforiumlaw03.SpanGaps', WHERE WHAT IT READS IS OF BULK AT MOST 1048576: true; the input reads as it did. -/
def spanGapsUptoRow : OpenClaim := { program := "ytllcekmbcmhckaa", sum := "b5de1489eefbccbb8466e11d7d56da7999ec43794d4f054225f3fddb3c5b151d", func := "triforium/triforiumlaw03.SpanGaps", spec := "spanGaps", unfollowed := true, recurses := true, apart := false, narrowed := true }
def SpanGapsUptoSaid : Prop := spanGapsUptoRow.holds Try.pinned (OpenSpec.upto spanGapsSpec)

/-- 'triforiumlaw03.SpanParts', WHERE WHAT IT READS IS OF BULK AT MOST 1048576: true; the input reads as it did. -/
def spanPartsUptoRow : OpenClaim := { program := "ytllcekmbcmhckaa", sum := "b5de1489eefbccbb8466e11d7d56da7999ec43794d4f054225f3fddb3c5b151d", func := "triforium/triforiumlaw03.SpanParts", spec := "spanParts", unfollowed := true, recurses := true, apart := false, narrowed := true }
def SpanPartsUptoSaid : Prop := spanPartsUptoRow.holds Try.pinned (OpenSpec.upto spanPartsSpec)

/-- 'triforiumlaw04.LayoutParts', WHERE WHAT IT READS IS OF BULK AT MOST 1048576: true; the input reads as it did. -/
def layoutPartsUptoRow : OpenClaim := { program := "ytllcekmbcmhckaa", sum := "b5de1489eefbccbb8466e11d7d56da7999ec43794d4f054225f3fddb3c5b151d", func := "triforium/triforiumlaw04.LayoutParts", spec := "layoutParts", unfollowed := true, recurses := true, apart := false, narrowed := true }
def LayoutPartsUptoSaid : Prop := layoutPartsUptoRow.holds Try.pinned (OpenSpec.upto layoutPartsSpec)

/-- 'triforiumlaw10.ExtentTells', WHERE WHAT IT READS IS OF BULK AT MOST 1048576: true; the input reads as it did. -/
def extentTellsUptoRow : OpenClaim := { program := "ytllcekmbcmhckaa", sum := "b5de1489eefbccbb8466e11d7d56da7999ec43794d4f054225f3fddb3c5b151d", func := "triforium/triforiumlaw10.ExtentTells", spec := "extentTells", unfollowed := true, recurses := true, apart := false, narrowed := true }
def ExtentTellsUptoSaid : Prop := extentTellsUptoRow.holds Try.pinned (OpenSpec.upto extentTellsSpec)

/-- 'triforiumlaw10.ExtentBack', WHERE WHAT IT READS IS OF BULK AT MOST 1048576: true; the input reads as it did. -/
def extentBackUptoRow : OpenClaim := { program := "ytllcekmbcmhckaa", sum := "b5de1489eefbccbb8466e11d7d56da7999ec43794d4f054225f3fddb3c5b151d", func := "triforium/triforiumlaw10.ExtentBack", spec := "extentBack", unfollowed := true, recurses := true, apart := false, narrowed := true }
def ExtentBackUptoSaid : Prop := extentBackUptoRow.holds Try.pinned (OpenSpec.upto extentBackSpec)

/-- 'triforiumlaw11.LedgerMoves', WHERE WHAT IT READS IS OF BULK AT MOST 1048576: true; the input reads as it did. -/
def ledgerMovesUptoRow : OpenClaim := { program := "ytllcekmbcmhckaa", sum := "b5de1489eefbccbb8466e11d7d56da7999ec43794d4f054225f3fddb3c5b151d", func := "triforium/triforiumlaw11.LedgerMoves", spec := "ledgerMoves", inPlace := ["slices.overlaps[triforium/api.Span]"], unfollowed := true, recurses := true, apart := false, narrowed := true }
def LedgerMovesUptoSaid : Prop := ledgerMovesUptoRow.holds Try.pinned (OpenSpec.upto ledgerMovesSpec)

/-- 'triforiumlaw11.LedgerTells', WHERE WHAT IT READS IS OF BULK AT MOST 1048576: true; the input reads as it did. -/
def ledgerTellsUptoRow : OpenClaim := { program := "ytllcekmbcmhckaa", sum := "b5de1489eefbccbb8466e11d7d56da7999ec43794d4f054225f3fddb3c5b151d", func := "triforium/triforiumlaw11.LedgerTells", spec := "ledgerTells", inPlace := ["slices.overlaps[triforium/api.Span]"], unfollowed := true, recurses := true, apart := false, narrowed := true }
def LedgerTellsUptoSaid : Prop := ledgerTellsUptoRow.holds Try.pinned (OpenSpec.upto ledgerTellsSpec)

/-- 'triforiumlaw11.LedgerStays', WHERE WHAT IT READS IS OF BULK AT MOST 1048576: true; the input reads as it did. -/
def ledgerStaysUptoRow : OpenClaim := { program := "ytllcekmbcmhckaa", sum := "b5de1489eefbccbb8466e11d7d56da7999ec43794d4f054225f3fddb3c5b151d", func := "triforium/triforiumlaw11.LedgerStays", spec := "ledgerStays", inPlace := ["slices.overlaps[triforium/api.Span]"], unfollowed := true, recurses := true, apart := false, narrowed := true }
def LedgerStaysUptoSaid : Prop := ledgerStaysUptoRow.holds Try.pinned (OpenSpec.upto ledgerStaysSpec)

end Rows
end Go.Proofs.Ytllcekmbcmhckaa
