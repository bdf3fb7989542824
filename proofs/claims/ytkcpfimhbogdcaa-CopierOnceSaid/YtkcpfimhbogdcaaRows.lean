/-
  No cell of these rows narrows 'for every input' (looked for: loops, veiled, ifaces, maps, wideKeys, modest, calm, conditions, laid).
  DERIVED. THE GIVEN ROWS OF THIS SEAT. 10 by the template 'for every input the law returns true; each argument reads behind the call as it read before'; 0 by the template 'total and deterministic' (their statements: YtkcpfimhbogdcaaTotals.lean).
  GIVEN WITH THE SEED: the statements are not yours to turn. If you find one false, say at which input.
  Laid BY PROGRAM, IN A SANDBOX (cutbox-rows.mjs): the forced cells as the released guide's own fill.sh prints them over the translation bc7e01a9e1370396… (all of the seat's roots in one cut). By AI agents, Wed Nov 11 2026. No macro, syntax, notation, axiom, sorry.
-/
import Derived.Test.YtkcpfimhbogdcaaChecked
import GoSem.Claim
import GoSem.ClaimJoined
import GoSem.ClaimMapViews
import Derived.JoinedTies
import Derived.KernelRfl
namespace Go.Proofs.Ytkcpfimhbogdcaa
/- THE CELL 'sum', in the pinned program and in every row, IS THE sha256 OF THE DUMP (.gsa) THAT YtkcpfimhbogdcaaProg.lean LOADS. Nothing in Lean hashes anything: it is a label: what it is worth is what the hold of that sum in a sandbox is worth. -/
noncomputable def Try.pinned : Pinned := { name := "ytkcpfimhbogdcaa", sum := "bc7e01a9e137039664d1595a23c370ddbeccf1f0b05537b59540d5b3b6d7b6e8", checked := Try.checked }
namespace Rows
def none {H : Type} : Left H := { results := [], args := [] }

/-- 'triforiumlaw09.WalkNobody': WHATEVER THE INPUT: true; the input reads as it did. -/
def walkNobodySpec : ChangeSpec := { name := "walkNobody", fn := fun _ => fun
  | [d1, d2] => { results := [.lit (.bool true)], args := [d1, d2] }
  | _ => none }
def walkNobodyRow : OpenClaim := { program := "ytkcpfimhbogdcaa", sum := "bc7e01a9e137039664d1595a23c370ddbeccf1f0b05537b59540d5b3b6d7b6e8", func := "triforium/triforiumlaw09.WalkNobody", spec := "walkNobody", unfollowed := true, recurses := true, apart := false }
def WalkNobodySaid : Prop := walkNobodyRow.holds Try.pinned (OpenSpec.ofChange walkNobodySpec)

/-- ITS FALSE NEIGHBOUR: 'it returns false'. Refute it at one input. -/
def walkNobodyWrong : ChangeSpec := { name := "walkNobody", fn := fun _ => fun
  | [d1, d2] => { results := [.lit (.bool false)], args := [d1, d2] }
  | _ => none }
def WalkNobodyWrongFalsely : Prop := walkNobodyRow.holds Try.pinned (OpenSpec.ofChange walkNobodyWrong)

/-- 'triforiumlaw09.WalkLists': WHATEVER THE INPUT: true; the input reads as it did. -/
def walkListsSpec : ChangeSpec := { name := "walkLists", fn := fun _ => fun
  | [d1, d2, d3, d4, d5] => { results := [.lit (.bool true)], args := [d1, d2, d3, d4, d5] }
  | _ => none }
def walkListsRow : OpenClaim := { program := "ytkcpfimhbogdcaa", sum := "bc7e01a9e137039664d1595a23c370ddbeccf1f0b05537b59540d5b3b6d7b6e8", func := "triforium/triforiumlaw09.WalkLists", spec := "walkLists", unfollowed := true, recurses := true, apart := false }
def WalkListsSaid : Prop := walkListsRow.holds Try.pinned (OpenSpec.ofChange walkListsSpec)

/-- ITS FALSE NEIGHBOUR: 'it returns false'. Refute it at one input. -/
def walkListsWrong : ChangeSpec := { name := "walkLists", fn := fun _ => fun
  | [d1, d2, d3, d4, d5] => { results := [.lit (.bool false)], args := [d1, d2, d3, d4, d5] }
  | _ => none }
def WalkListsWrongFalsely : Prop := walkListsRow.holds Try.pinned (OpenSpec.ofChange walkListsWrong)

/-- 'triforiumlaw09.WalkParts': WHATEVER THE INPUT: true; the input reads as it did. -/
def walkPartsSpec : ChangeSpec := { name := "walkParts", fn := fun _ => fun
  | [d1, d2, d3, d4] => { results := [.lit (.bool true)], args := [d1, d2, d3, d4] }
  | _ => none }
def walkPartsRow : OpenClaim := { program := "ytkcpfimhbogdcaa", sum := "bc7e01a9e137039664d1595a23c370ddbeccf1f0b05537b59540d5b3b6d7b6e8", func := "triforium/triforiumlaw09.WalkParts", spec := "walkParts", unfollowed := true, recurses := true, apart := false }
def WalkPartsSaid : Prop := walkPartsRow.holds Try.pinned (OpenSpec.ofChange walkPartsSpec)

/-- ITS FALSE NEIGHBOUR: 'it returns false'. Refute it at one input. -/
def walkPartsWrong : ChangeSpec := { name := "walkParts", fn := fun _ => fun
  | [d1, d2, d3, d4] => { results := [.lit (.bool false)], args := [d1, d2, d3, d4] }
  | _ => none }
def WalkPartsWrongFalsely : Prop := walkPartsRow.holds Try.pinned (OpenSpec.ofChange walkPartsWrong)

/-- 'triforiumlaw15.StateNews': WHATEVER THE INPUT: true; the input reads as it did. -/
def stateNewsSpec : ChangeSpec := { name := "stateNews", fn := fun _ => fun
  | [d] => { results := [.lit (.bool true)], args := [d] }
  | _ => none }
def stateNewsRow : OpenClaim := { program := "ytkcpfimhbogdcaa", sum := "bc7e01a9e137039664d1595a23c370ddbeccf1f0b05537b59540d5b3b6d7b6e8", func := "triforium/triforiumlaw15.StateNews", spec := "stateNews", unfollowed := true, recurses := true, apart := false }
def StateNewsSaid : Prop := stateNewsRow.holds Try.pinned (OpenSpec.ofChange stateNewsSpec)

/-- ITS FALSE NEIGHBOUR: 'it returns false'. Refute it at one input. -/
def stateNewsWrong : ChangeSpec := { name := "stateNews", fn := fun _ => fun
  | [d] => { results := [.lit (.bool false)], args := [d] }
  | _ => none }
def StateNewsWrongFalsely : Prop := stateNewsRow.holds Try.pinned (OpenSpec.ofChange stateNewsWrong)

/-- 'triforiumlaw15.StateCopies': WHATEVER THE INPUT: true; the input reads as it did. -/
def stateCopiesSpec : ChangeSpec := { name := "stateCopies", fn := fun _ => fun
  | [d1, d2] => { results := [.lit (.bool true)], args := [d1, d2] }
  | _ => none }
def stateCopiesRow : OpenClaim := { program := "ytkcpfimhbogdcaa", sum := "bc7e01a9e137039664d1595a23c370ddbeccf1f0b05537b59540d5b3b6d7b6e8", func := "triforium/triforiumlaw15.StateCopies", spec := "stateCopies", unfollowed := true, recurses := true, apart := false }
def StateCopiesSaid : Prop := stateCopiesRow.holds Try.pinned (OpenSpec.ofChange stateCopiesSpec)

/-- ITS FALSE NEIGHBOUR: 'it returns false'. Refute it at one input. -/
def stateCopiesWrong : ChangeSpec := { name := "stateCopies", fn := fun _ => fun
  | [d1, d2] => { results := [.lit (.bool false)], args := [d1, d2] }
  | _ => none }
def StateCopiesWrongFalsely : Prop := stateCopiesRow.holds Try.pinned (OpenSpec.ofChange stateCopiesWrong)

/-- 'triforiumlaw15.StateIdle': WHATEVER THE INPUT: true; the input reads as it did. -/
def stateIdleSpec : ChangeSpec := { name := "stateIdle", fn := fun _ => fun
  | [d1, d2, d3] => { results := [.lit (.bool true)], args := [d1, d2, d3] }
  | _ => none }
def stateIdleRow : OpenClaim := { program := "ytkcpfimhbogdcaa", sum := "bc7e01a9e137039664d1595a23c370ddbeccf1f0b05537b59540d5b3b6d7b6e8", func := "triforium/triforiumlaw15.StateIdle", spec := "stateIdle", unfollowed := true, recurses := true, apart := false }
def StateIdleSaid : Prop := stateIdleRow.holds Try.pinned (OpenSpec.ofChange stateIdleSpec)

/-- ITS FALSE NEIGHBOUR: 'it returns false'. Refute it at one input. -/
def stateIdleWrong : ChangeSpec := { name := "stateIdle", fn := fun _ => fun
  | [d1, d2, d3] => { results := [.lit (.bool false)], args := [d1, d2, d3] }
  | _ => none }
def StateIdleWrongFalsely : Prop := stateIdleRow.holds Try.pinned (OpenSpec.ofChange stateIdleWrong)

/-- 'triforiumlaw22.CopierOnce': WHATEVER THE INPUT: true; the input reads as it did. -/
def copierOnceSpec : ChangeSpec := { name := "copierOnce", fn := fun _ => fun
  | [d1, d2, d3, d4] => { results := [.lit (.bool true)], args := [d1, d2, d3, d4] }
  | _ => none }
def copierOnceRow : OpenClaim := { program := "ytkcpfimhbogdcaa", sum := "bc7e01a9e137039664d1595a23c370ddbeccf1f0b05537b59540d5b3b6d7b6e8", func := "triforium/triforiumlaw22.CopierOnce", spec := "copierOnce", unfollowed := true, recurses := true, apart := false }
def CopierOnceSaid : Prop := copierOnceRow.holds Try.pinned (OpenSpec.ofChange copierOnceSpec)

/-- ITS FALSE NEIGHBOUR: 'it returns false'. Refute it at one input. -/
def copierOnceWrong : ChangeSpec := { name := "copierOnce", fn := fun _ => fun
  | [d1, d2, d3, d4] => { results := [.lit (.bool false)], args := [d1, d2, d3, d4] }
  | _ => none }
def CopierOnceWrongFalsely : Prop := copierOnceRow.holds Try.pinned (OpenSpec.ofChange copierOnceWrong)

/-- 'triforiumlaw13.LosKeeps': WHATEVER THE INPUT: true; the input reads as it did. -/
def losKeepsSpec : ChangeSpec := { name := "losKeeps", fn := fun _ => fun
  | [d1, d2, d3] => { results := [.lit (.bool true)], args := [d1, d2, d3] }
  | _ => none }
def losKeepsRow : OpenClaim := { program := "ytkcpfimhbogdcaa", sum := "bc7e01a9e137039664d1595a23c370ddbeccf1f0b05537b59540d5b3b6d7b6e8", func := "triforium/triforiumlaw13.LosKeeps", spec := "losKeeps", inPlace := ["slices.overlaps[triforium/api.Span]"], unfollowed := true, recurses := true, apart := false }
def LosKeepsSaid : Prop := losKeepsRow.holds Try.pinned (OpenSpec.ofChange losKeepsSpec)

/-- ITS FALSE NEIGHBOUR: 'it returns false'. Refute it at one input. -/
def losKeepsWrong : ChangeSpec := { name := "losKeeps", fn := fun _ => fun
  | [d1, d2, d3] => { results := [.lit (.bool false)], args := [d1, d2, d3] }
  | _ => none }
def LosKeepsWrongFalsely : Prop := losKeepsRow.holds Try.pinned (OpenSpec.ofChange losKeepsWrong)

/-- 'triforiumlaw13.LosNobody': WHATEVER THE INPUT: true; the input reads as it did. -/
def losNobodySpec : ChangeSpec := { name := "losNobody", fn := fun _ => fun
  | [d1, d2, d3] => { results := [.lit (.bool true)], args := [d1, d2, d3] }
  | _ => none }
def losNobodyRow : OpenClaim := { program := "ytkcpfimhbogdcaa", sum := "bc7e01a9e137039664d1595a23c370ddbeccf1f0b05537b59540d5b3b6d7b6e8", func := "triforium/triforiumlaw13.LosNobody", spec := "losNobody", inPlace := ["slices.overlaps[triforium/api.Span]"], unfollowed := true, recurses := true, apart := false }
def LosNobodySaid : Prop := losNobodyRow.holds Try.pinned (OpenSpec.ofChange losNobodySpec)

/-- ITS FALSE NEIGHBOUR: 'it returns false'. Refute it at one input. -/
def losNobodyWrong : ChangeSpec := { name := "losNobody", fn := fun _ => fun
  | [d1, d2, d3] => { results := [.lit (.bool false)], args := [d1, d2, d3] }
  | _ => none }
def LosNobodyWrongFalsely : Prop := losNobodyRow.holds Try.pinned (OpenSpec.ofChange losNobodyWrong)

/-- 'triforiumlaw22.CopierNobody': WHATEVER THE INPUT: true; the input reads as it did. -/
def copierNobodySpec : ChangeSpec := { name := "copierNobody", fn := fun _ => fun
  | [d1, d2] => { results := [.lit (.bool true)], args := [d1, d2] }
  | _ => none }
def copierNobodyRow : OpenClaim := { program := "ytkcpfimhbogdcaa", sum := "bc7e01a9e137039664d1595a23c370ddbeccf1f0b05537b59540d5b3b6d7b6e8", func := "triforium/triforiumlaw22.CopierNobody", spec := "copierNobody", unfollowed := true, recurses := true, apart := false }
def CopierNobodySaid : Prop := copierNobodyRow.holds Try.pinned (OpenSpec.ofChange copierNobodySpec)

/-- ITS FALSE NEIGHBOUR: 'it returns false'. Refute it at one input. -/
def copierNobodyWrong : ChangeSpec := { name := "copierNobody", fn := fun _ => fun
  | [d1, d2] => { results := [.lit (.bool false)], args := [d1, d2] }
  | _ => none }
def CopierNobodyWrongFalsely : Prop := copierNobodyRow.holds Try.pinned (OpenSpec.ofChange copierNobodyWrong)

/- THE SECOND FORM. 'bulk': how many values and letters a reading holds, each counted each time it is reached (what is shared counts as often as it is met; a slice's spare places count too). A statement '..UptoSaid' is the law's where the arguments, and the package variables that the reading takes, are together of bulk at most 1048576: NARROWER than '..Said'. Prove '..Said' where nothing that the law and all that it calls make is longer than what came in: it says more and counts as full. Else prove '..UptoSaid'. A law counts once. -/
mutual
def uptoBulk {H : Type} : DataW H → Nat
  | .lit (.string bytes) => bytes.length + 1
  | .lit _ => 1
  | .nil => 1
  | .ptr d => uptoBulk d + 1
  | .slice elems spare => uptoBulkAll elems + uptoBulkAll spare + 1
  | .agg parts => uptoBulkAll parts + 1
  | .iface _ d => uptoBulk d + 1
  | .map entries => uptoBulkEntries entries + 1
  | .held _ => 1
def uptoBulkAll {H : Type} : List (DataW H) → Nat
  | [] => 0
  | d :: r => uptoBulk d + uptoBulkAll r
def uptoBulkEntries {H : Type} : List (Lit × DataW H) → Nat
  | [] => 0
  | x :: r => uptoBulkEntry x + uptoBulkEntries r
def uptoBulkEntry {H : Type} : Lit × DataW H → Nat
  | (.string bytes, d) => bytes.length + uptoBulk d + 1
  | (_, d) => uptoBulk d + 1
 end
def uptoSmall : (H : Type) → List (DataW H) → Bool := fun _ ds => decide (uptoBulkAll ds ≤ 1048576)
def OpenSpec.upto (s : _root_.Go.ChangeSpec) : _root_.Go.OpenSpec := { _root_.Go.OpenSpec.ofChange s with cond := some uptoSmall }

/-- 'triforiumlaw09.WalkNobody', WHERE WHAT IT READS IS OF BULK AT MOST 1048576: true; the input reads as it did. -/
def walkNobodyUptoRow : OpenClaim := { program := "ytkcpfimhbogdcaa", sum := "bc7e01a9e137039664d1595a23c370ddbeccf1f0b05537b59540d5b3b6d7b6e8", func := "triforium/triforiumlaw09.WalkNobody", spec := "walkNobody", unfollowed := true, recurses := true, apart := false, narrowed := true }
def WalkNobodyUptoSaid : Prop := walkNobodyUptoRow.holds Try.pinned (OpenSpec.upto walkNobodySpec)

/-- 'triforiumlaw09.WalkLists', WHERE WHAT IT READS IS OF BULK AT MOST 1048576: true; the input reads as it did. -/
def walkListsUptoRow : OpenClaim := { program := "ytkcpfimhbogdcaa", sum := "bc7e01a9e137039664d1595a23c370ddbeccf1f0b05537b59540d5b3b6d7b6e8", func := "triforium/triforiumlaw09.WalkLists", spec := "walkLists", unfollowed := true, recurses := true, apart := false, narrowed := true }
def WalkListsUptoSaid : Prop := walkListsUptoRow.holds Try.pinned (OpenSpec.upto walkListsSpec)

/-- 'triforiumlaw09.WalkParts', WHERE WHAT IT READS IS OF BULK AT MOST 1048576: true; the input reads as it did. -/
def walkPartsUptoRow : OpenClaim := { program := "ytkcpfimhbogdcaa", sum := "bc7e01a9e137039664d1595a23c370ddbeccf1f0b05537b59540d5b3b6d7b6e8", func := "triforium/triforiumlaw09.WalkParts", spec := "walkParts", unfollowed := true, recurses := true, apart := false, narrowed := true }
def WalkPartsUptoSaid : Prop := walkPartsUptoRow.holds Try.pinned (OpenSpec.upto walkPartsSpec)

/-- 'triforiumlaw15.StateNews', WHERE WHAT IT READS IS OF BULK AT MOST 1048576: true; the input reads as it did. -/
def stateNewsUptoRow : OpenClaim := { program := "ytkcpfimhbogdcaa", sum := "bc7e01a9e137039664d1595a23c370ddbeccf1f0b05537b59540d5b3b6d7b6e8", func := "triforium/triforiumlaw15.StateNews", spec := "stateNews", unfollowed := true, recurses := true, apart := false, narrowed := true }
def StateNewsUptoSaid : Prop := stateNewsUptoRow.holds Try.pinned (OpenSpec.upto stateNewsSpec)

/-- 'triforiumlaw15.StateCopies', WHERE WHAT IT READS IS OF BULK AT MOST 1048576: true; the input reads as it did. -/
def stateCopiesUptoRow : OpenClaim := { program := "ytkcpfimhbogdcaa", sum := "bc7e01a9e137039664d1595a23c370ddbeccf1f0b05537b59540d5b3b6d7b6e8", func := "triforium/triforiumlaw15.StateCopies", spec := "stateCopies", unfollowed := true, recurses := true, apart := false, narrowed := true }
def StateCopiesUptoSaid : Prop := stateCopiesUptoRow.holds Try.pinned (OpenSpec.upto stateCopiesSpec)

/-- 'triforiumlaw15.StateIdle', WHERE WHAT IT READS IS OF BULK AT MOST 1048576: true; the input reads as it did. -/
def stateIdleUptoRow : OpenClaim := { program := "ytkcpfimhbogdcaa", sum := "bc7e01a9e137039664d1595a23c370ddbeccf1f0b05537b59540d5b3b6d7b6e8", func := "triforium/triforiumlaw15.StateIdle", spec := "stateIdle", unfollowed := true, recurses := true, apart := false, narrowed := true }
def StateIdleUptoSaid : Prop := stateIdleUptoRow.holds Try.pinned (OpenSpec.upto stateIdleSpec)

/-- 'triforiumlaw22.CopierOnce', WHERE WHAT IT READS IS OF BULK AT MOST 1048576: true; the input reads as it did. -/
def copierOnceUptoRow : OpenClaim := { program := "ytkcpfimhbogdcaa", sum := "bc7e01a9e137039664d1595a23c370ddbeccf1f0b05537b59540d5b3b6d7b6e8", func := "triforium/triforiumlaw22.CopierOnce", spec := "copierOnce", unfollowed := true, recurses := true, apart := false, narrowed := true }
def CopierOnceUptoSaid : Prop := copierOnceUptoRow.holds Try.pinned (OpenSpec.upto copierOnceSpec)

/-- 'triforiumlaw13.LosKeeps', WHERE WHAT IT READS IS OF BULK AT MOST 1048576: true; the input reads as it did. -/
def losKeepsUptoRow : OpenClaim := { program := "ytkcpfimhbogdcaa", sum := "bc7e01a9e137039664d1595a23c370ddbeccf1f0b05537b59540d5b3b6d7b6e8", func := "triforium/triforiumlaw13.LosKeeps", spec := "losKeeps", inPlace := ["slices.overlaps[triforium/api.Span]"], unfollowed := true, recurses := true, apart := false, narrowed := true }
def LosKeepsUptoSaid : Prop := losKeepsUptoRow.holds Try.pinned (OpenSpec.upto losKeepsSpec)

/-- 'triforiumlaw13.LosNobody', WHERE WHAT IT READS IS OF BULK AT MOST 1048576: true; the input reads as it did. -/
def losNobodyUptoRow : OpenClaim := { program := "ytkcpfimhbogdcaa", sum := "bc7e01a9e137039664d1595a23c370ddbeccf1f0b05537b59540d5b3b6d7b6e8", func := "triforium/triforiumlaw13.LosNobody", spec := "losNobody", inPlace := ["slices.overlaps[triforium/api.Span]"], unfollowed := true, recurses := true, apart := false, narrowed := true }
def LosNobodyUptoSaid : Prop := losNobodyUptoRow.holds Try.pinned (OpenSpec.upto losNobodySpec)

/-- 'triforiumlaw22.CopierNobody', WHERE WHAT IT READS IS OF BULK AT MOST 1048576: true; the input reads as it did. -/
def copierNobodyUptoRow : OpenClaim := { program := "ytkcpfimhbogdcaa", sum := "bc7e01a9e137039664d1595a23c370ddbeccf1f0b05537b59540d5b3b6d7b6e8", func := "triforium/triforiumlaw22.CopierNobody", spec := "copierNobody", unfollowed := true, recurses := true, apart := false, narrowed := true }
def CopierNobodyUptoSaid : Prop := copierNobodyUptoRow.holds Try.pinned (OpenSpec.upto copierNobodySpec)

end Rows
end Go.Proofs.Ytkcpfimhbogdcaa
