/-
  No cell of these rows narrows 'for every input' (looked for: loops, veiled, ifaces, maps, wideKeys, modest, calm, conditions, laid).
  DERIVED. THE GIVEN ROWS OF THIS SEAT. 6 by the template 'for every input the law returns true; each argument reads behind the call as it read before'; 0 by the template 'total and deterministic' (their statements: YtphpppjfogpohaaTotals.lean).
  GIVEN WITH THE SEED: the statements are not yours to turn. If you find one false, say at which input.
  Laid BY PROGRAM, IN A SANDBOX (cutbox-rows.mjs): the forced cells as the released guide's own fill.sh prints them over the translation 66ffd6608e87c013… (all of the seat's roots in one cut). By AI agents, Wed Nov 11 2026. No macro, syntax, notation, axiom, sorry.
-/
import Derived.Test.YtphpppjfogpohaaChecked
import GoSem.Claim
import GoSem.ClaimJoined
import GoSem.ClaimMapViews
import Derived.JoinedTies
import Derived.KernelRfl
namespace Go.Proofs.Ytphpppjfogpohaa
/- THE CELL 'sum', in the pinned program and in every row, IS THE sha256 OF THE DUMP (.gsa) THAT YtphpppjfogpohaaProg.lean LOADS. Nothing in Lean hashes anything: it is a label: what it is worth is what the hold of that sum in a sandbox is worth. -/
noncomputable def Try.pinned : Pinned := { name := "ytphpppjfogpohaa", sum := "66ffd6608e87c0137220010293408e33f7df21c3750632cf4969a991f7424c7f", checked := Try.checked }
namespace Rows
def none {H : Type} : Left H := { results := [], args := [] }

/-- 'triforiumlaw18.CanonMatches': WHATEVER THE INPUT: true; the input reads as it did. -/
def canonMatchesSpec : ChangeSpec := { name := "canonMatches", fn := fun _ => fun
  | [d1, d2] => { results := [.lit (.bool true)], args := [d1, d2] }
  | _ => none }
def canonMatchesRow : OpenClaim := { program := "ytphpppjfogpohaa", sum := "66ffd6608e87c0137220010293408e33f7df21c3750632cf4969a991f7424c7f", func := "triforium/triforiumlaw18.CanonMatches", spec := "canonMatches", unfollowed := true, recurses := true, apart := false }
def CanonMatchesSaid : Prop := canonMatchesRow.holds Try.pinned (OpenSpec.ofChange canonMatchesSpec)

/-- ITS FALSE NEIGHBOUR: 'it returns false'. Refute it at one input. -/
def canonMatchesWrong : ChangeSpec := { name := "canonMatches", fn := fun _ => fun
  | [d1, d2] => { results := [.lit (.bool false)], args := [d1, d2] }
  | _ => none }
def CanonMatchesWrongFalsely : Prop := canonMatchesRow.holds Try.pinned (OpenSpec.ofChange canonMatchesWrong)

/-- 'triforiumlaw18.CanonTurns': WHATEVER THE INPUT: true; the input reads as it did. -/
def canonTurnsSpec : ChangeSpec := { name := "canonTurns", fn := fun _ => fun
  | [d1, d2] => { results := [.lit (.bool true)], args := [d1, d2] }
  | _ => none }
def canonTurnsRow : OpenClaim := { program := "ytphpppjfogpohaa", sum := "66ffd6608e87c0137220010293408e33f7df21c3750632cf4969a991f7424c7f", func := "triforium/triforiumlaw18.CanonTurns", spec := "canonTurns", unfollowed := true, recurses := true, apart := false }
def CanonTurnsSaid : Prop := canonTurnsRow.holds Try.pinned (OpenSpec.ofChange canonTurnsSpec)

/-- ITS FALSE NEIGHBOUR: 'it returns false'. Refute it at one input. -/
def canonTurnsWrong : ChangeSpec := { name := "canonTurns", fn := fun _ => fun
  | [d1, d2] => { results := [.lit (.bool false)], args := [d1, d2] }
  | _ => none }
def CanonTurnsWrongFalsely : Prop := canonTurnsRow.holds Try.pinned (OpenSpec.ofChange canonTurnsWrong)

/-- 'triforiumlaw18.CanonLike': WHATEVER THE INPUT: true; the input reads as it did. -/
def canonLikeSpec : ChangeSpec := { name := "canonLike", fn := fun _ => fun
  | [d1, d2, d3] => { results := [.lit (.bool true)], args := [d1, d2, d3] }
  | _ => none }
def canonLikeRow : OpenClaim := { program := "ytphpppjfogpohaa", sum := "66ffd6608e87c0137220010293408e33f7df21c3750632cf4969a991f7424c7f", func := "triforium/triforiumlaw18.CanonLike", spec := "canonLike", unfollowed := true, recurses := true, apart := false }
def CanonLikeSaid : Prop := canonLikeRow.holds Try.pinned (OpenSpec.ofChange canonLikeSpec)

/-- ITS FALSE NEIGHBOUR: 'it returns false'. Refute it at one input. -/
def canonLikeWrong : ChangeSpec := { name := "canonLike", fn := fun _ => fun
  | [d1, d2, d3] => { results := [.lit (.bool false)], args := [d1, d2, d3] }
  | _ => none }
def CanonLikeWrongFalsely : Prop := canonLikeRow.holds Try.pinned (OpenSpec.ofChange canonLikeWrong)

/-- 'triforiumlaw17.ReachPlans': WHATEVER THE INPUT: true; the input reads as it did. -/
def reachPlansSpec : ChangeSpec := { name := "reachPlans", fn := fun _ => fun
  | [d1, d2, d3, d4] => { results := [.lit (.bool true)], args := [d1, d2, d3, d4] }
  | _ => none }
def reachPlansRow : OpenClaim := { program := "ytphpppjfogpohaa", sum := "66ffd6608e87c0137220010293408e33f7df21c3750632cf4969a991f7424c7f", func := "triforium/triforiumlaw17.ReachPlans", spec := "reachPlans", unfollowed := true, recurses := true, apart := false }
def ReachPlansSaid : Prop := reachPlansRow.holds Try.pinned (OpenSpec.ofChange reachPlansSpec)

/-- ITS FALSE NEIGHBOUR: 'it returns false'. Refute it at one input. -/
def reachPlansWrong : ChangeSpec := { name := "reachPlans", fn := fun _ => fun
  | [d1, d2, d3, d4] => { results := [.lit (.bool false)], args := [d1, d2, d3, d4] }
  | _ => none }
def ReachPlansWrongFalsely : Prop := reachPlansRow.holds Try.pinned (OpenSpec.ofChange reachPlansWrong)

/-- 'triforiumlaw17.ReachOrders': WHATEVER THE INPUT: true; the input reads as it did. -/
def reachOrdersSpec : ChangeSpec := { name := "reachOrders", fn := fun _ => fun
  | [d1, d2] => { results := [.lit (.bool true)], args := [d1, d2] }
  | _ => none }
def reachOrdersRow : OpenClaim := { program := "ytphpppjfogpohaa", sum := "66ffd6608e87c0137220010293408e33f7df21c3750632cf4969a991f7424c7f", func := "triforium/triforiumlaw17.ReachOrders", spec := "reachOrders", unfollowed := true, recurses := true, apart := false }
def ReachOrdersSaid : Prop := reachOrdersRow.holds Try.pinned (OpenSpec.ofChange reachOrdersSpec)

/-- ITS FALSE NEIGHBOUR: 'it returns false'. Refute it at one input. -/
def reachOrdersWrong : ChangeSpec := { name := "reachOrders", fn := fun _ => fun
  | [d1, d2] => { results := [.lit (.bool false)], args := [d1, d2] }
  | _ => none }
def ReachOrdersWrongFalsely : Prop := reachOrdersRow.holds Try.pinned (OpenSpec.ofChange reachOrdersWrong)

/-- 'triforiumlaw17.ReachSame': WHATEVER THE INPUT: true; the input reads as it did. -/
def reachSameSpec : ChangeSpec := { name := "reachSame", fn := fun _ => fun
  | [d1, d2, d3, d4] => { results := [.lit (.bool true)], args := [d1, d2, d3, d4] }
  | _ => none }
def reachSameRow : OpenClaim := { program := "ytphpppjfogpohaa", sum := "66ffd6608e87c0137220010293408e33f7df21c3750632cf4969a991f7424c7f", func := "triforium/triforiumlaw17.ReachSame", spec := "reachSame", unfollowed := true, recurses := true, apart := false }
def ReachSameSaid : Prop := reachSameRow.holds Try.pinned (OpenSpec.ofChange reachSameSpec)

/-- ITS FALSE NEIGHBOUR: 'it returns false'. Refute it at one input. -/
def reachSameWrong : ChangeSpec := { name := "reachSame", fn := fun _ => fun
  | [d1, d2, d3, d4] => { results := [.lit (.bool false)], args := [d1, d2, d3, d4] }
  | _ => none }
def ReachSameWrongFalsely : Prop := reachSameRow.holds Try.pinned (OpenSpec.ofChange reachSameWrong)

/- THE SECOND FORM. 'bulk': how many values and letters a reading holds, each counted each time it is reached (what is shared counts as often as it is met; a slice's spare places count too). A statement '..UptoSaid' is the law's where the arguments, and the package variables that the reading takes, are together of bulk at most 1048576: NARROWER than '..Said'. Prove '..Said' where nothing that the law and all that it calls make is longer than what came in: it says more and counts as full. Else prove '..UptoSaid'. A law counts once. -/
mutual
def uptoBulk {H : Type} : DataW H → Nat
  | .lit (.string bytes) => bytes.length + 1
  | .lit _ => 1
  | .nil => 1
  | .ptr d => uptoBulk d + 1
  | .slice elems spare => uptoBulkAll elems + uptoBulkAll spare + 1
  | .agg parts => uptoBulkAll parts + 1
  | .iface _ d => uptoBulk d + 1
  | .map entries => uptoBulkEntries entries + 1
  | .held _ => 1
def uptoBulkAll {H : Type} : List (DataW H) → Nat
  | [] => 0
  | d :: r => uptoBulk d + uptoBulkAll r
def uptoBulkEntries {H : Type} : List (Lit × DataW H) → Nat
  | [] => 0
  | x :: r => uptoBulkEntry x + uptoBulkEntries r
def uptoBulkEntry {H : Type} : Lit × DataW H → Nat
  | (.string bytes, d) => bytes.length + uptoBulk d + 1
  | (_, d) => uptoBulk d + 1
 end
def uptoSmall : (H : Type) → List (DataW H) → Bool := fun _ ds => decide (uptoBulkAll ds ≤ 1048576)
def OpenSpec.upto (s : _root_.Go.ChangeSpec) : _root_.Go.OpenSpec := { _root_.Go.OpenSpec.ofChange s with cond := some uptoSmall }

/-- 'triforiumlaw18.CanonMatches', WHERE WHAT IT READS IS OF BULK AT MOST 1048576: true; the input reads as it did. -/
def canonMatchesUptoRow : OpenClaim := { program := "ytphpppjfogpohaa", sum := "66ffd6608e87c0137220010293408e33f7df21c3750632cf4969a991f7424c7f", func := "triforium/triforiumlaw18.CanonMatches", spec := "canonMatches", unfollowed := true, recurses := true, apart := false, narrowed := true }
def CanonMatchesUptoSaid : Prop := canonMatchesUptoRow.holds Try.pinned (OpenSpec.upto canonMatchesSpec)

/-- 'triforiumlaw18.CanonTurns', WHERE WHAT IT READS IS OF BULK AT MOST 1048576: true; the input reads as it did. -/
def canonTurnsUptoRow : OpenClaim := { program := "ytphpppjfogpohaa", sum := "66ffd6608e87c0137220010293408e33f7df21c3750632cf4969a991f7424c7f", func := "triforium/triforiumlaw18.CanonTurns", spec := "canonTurns", unfollowed := true, recurses := true, apart := false, narrowed := true }
def CanonTurnsUptoSaid : Prop := canonTurnsUptoRow.holds Try.pinned (OpenSpec.upto canonTurnsSpec)

/-- 'triforiumlaw18.CanonLike', WHERE WHAT IT READS IS OF BULK AT MOST 1048576: true; the input reads as it did. -/
def canonLikeUptoRow : OpenClaim := { program := "ytphpppjfogpohaa", sum := "66ffd6608e87c0137220010293408e33f7df21c3750632cf4969a991f7424c7f", func := "triforium/triforiumlaw18.CanonLike", spec := "canonLike", unfollowed := true, recurses := true, apart := false, narrowed := true }
def CanonLikeUptoSaid : Prop := canonLikeUptoRow.holds Try.pinned (OpenSpec.upto canonLikeSpec)

/-- 'triforiumlaw17.ReachPlans', WHERE WHAT IT READS IS OF BULK AT MOST 1048576: true; the input reads as it did. -/
def reachPlansUptoRow : OpenClaim := { program := "ytphpppjfogpohaa", sum := "66ffd6608e87c0137220010293408e33f7df21c3750632cf4969a991f7424c7f", func := "triforium/triforiumlaw17.ReachPlans", spec := "reachPlans", unfollowed := true, recurses := true, apart := false, narrowed := true }
def ReachPlansUptoSaid : Prop := reachPlansUptoRow.holds Try.pinned (OpenSpec.upto reachPlansSpec)

/-- 'triforiumlaw17.ReachOrders', WHERE WHAT IT READS IS OF BULK AT MOST 1048576: true; the input reads as it did. -/
def reachOrdersUptoRow : OpenClaim := { program := "ytphpppjfogpohaa", sum := "66ffd6608e87c0137220010293408e33f7df21c3750632cf4969a991f7424c7f", func := "triforium/triforiumlaw17.ReachOrders", spec := "reachOrders", unfollowed := true, recurses := true, apart := false, narrowed := true }
def ReachOrdersUptoSaid : Prop := reachOrdersUptoRow.holds Try.pinned (OpenSpec.upto reachOrdersSpec)

/-- 'triforiumlaw17.ReachSame', WHERE WHAT IT READS IS OF BULK AT MOST 1048576: true; the input reads as it did. -/
def reachSameUptoRow : OpenClaim := { program := "ytphpppjfogpohaa", sum := "66ffd6608e87c0137220010293408e33f7df21c3750632cf4969a991f7424c7f", func := "triforium/triforiumlaw17.ReachSame", spec := "reachSame", unfollowed := true, recurses := true, apart := false, narrowed := true }
def ReachSameUptoSaid : Prop := reachSameUptoRow.holds Try.pinned (OpenSpec.upto reachSameSpec)

end Rows
end Go.Proofs.Ytphpppjfogpohaa
