/-
  No cell of these rows narrows 'for every input' (looked for: loops, veiled, ifaces, maps, wideKeys, modest, calm, conditions, laid).
  DERIVED. THE GIVEN ROWS OF THIS SEAT. 6 by the template 'for every input the law returns true; each argument reads behind the call as it read before'; 0 by the template 'total and deterministic' (their statements: YtphpppjfogpohaaGreatTotals.lean).
  GIVEN WITH THE SEED: the statements are not yours to turn. If you find one false, say at which input.
  Laid BY PROGRAM, IN A SANDBOX (cutbox-rows.mjs): the forced cells as the released guide's own fill.sh prints them over the translation 8ede81e798caeaad… (all of the seat's roots in one cut). By AI agents, Wed Nov 11 2026. No macro, syntax, notation, axiom, sorry.
-/
import Derived.Test.YtphpppjfogpohaaGreatChecked
import GoSem.Claim
import GoSem.ClaimJoined
import GoSem.ClaimMapViews
import Derived.JoinedTies
import Derived.KernelRfl
namespace Go.Proofs.YtphpppjfogpohaaGreat
/- THE CELL 'sum', in the pinned program and in every row, IS THE sha256 OF THE DUMP (.gsa) THAT YtphpppjfogpohaaGreatProg.lean LOADS. Nothing in Lean hashes anything: it is a label: what it is worth is what the hold of that sum in a sandbox is worth. -/
noncomputable def Tryz.pinned : Pinned := { name := "ytphpppjfogpohaagreat", sum := "8ede81e798caeaad07ce7599ea7d48f529789aaf10fd689682b6a866ee167617", checked := Tryz.checked }
namespace Rows
def none {H : Type} : Left H := { results := [], args := [] }

/-- 'triforiumlaw20.LowerLowers': WHATEVER THE INPUT: true; the input reads as it did. -/
def lowerLowersSpec : ChangeSpec := { name := "lowerLowers", fn := fun _ => fun
  | [d1, d2, d3] => { results := [.lit (.bool true)], args := [d1, d2, d3] }
  | _ => none }
def lowerLowersRow : OpenClaim := { program := "ytphpppjfogpohaagreat", sum := "8ede81e798caeaad07ce7599ea7d48f529789aaf10fd689682b6a866ee167617", func := "triforium/triforiumlaw20.LowerLowers", spec := "lowerLowers", inPlace := ["slices.overlaps[triforium/api.Span]"], unfollowed := true, recurses := true, apart := false }
def LowerLowersSaid : Prop := lowerLowersRow.holds Tryz.pinned (OpenSpec.ofChange lowerLowersSpec)

/-- ITS FALSE NEIGHBOUR: 'it returns false'. Refute it at one input. -/
def lowerLowersWrong : ChangeSpec := { name := "lowerLowers", fn := fun _ => fun
  | [d1, d2, d3] => { results := [.lit (.bool false)], args := [d1, d2, d3] }
  | _ => none }
def LowerLowersWrongFalsely : Prop := lowerLowersRow.holds Tryz.pinned (OpenSpec.ofChange lowerLowersWrong)

/-- 'triforiumlaw20.LowerAgain': WHATEVER THE INPUT: true; the input reads as it did. -/
def lowerAgainSpec : ChangeSpec := { name := "lowerAgain", fn := fun _ => fun
  | [d1, d2, d3] => { results := [.lit (.bool true)], args := [d1, d2, d3] }
  | _ => none }
def lowerAgainRow : OpenClaim := { program := "ytphpppjfogpohaagreat", sum := "8ede81e798caeaad07ce7599ea7d48f529789aaf10fd689682b6a866ee167617", func := "triforium/triforiumlaw20.LowerAgain", spec := "lowerAgain", inPlace := ["slices.overlaps[triforium/api.Span]"], unfollowed := true, recurses := true, apart := false }
def LowerAgainSaid : Prop := lowerAgainRow.holds Tryz.pinned (OpenSpec.ofChange lowerAgainSpec)

/-- ITS FALSE NEIGHBOUR: 'it returns false'. Refute it at one input. -/
def lowerAgainWrong : ChangeSpec := { name := "lowerAgain", fn := fun _ => fun
  | [d1, d2, d3] => { results := [.lit (.bool false)], args := [d1, d2, d3] }
  | _ => none }
def LowerAgainWrongFalsely : Prop := lowerAgainRow.holds Tryz.pinned (OpenSpec.ofChange lowerAgainWrong)

/-- 'triforiumlaw20.LowerBack': WHATEVER THE INPUT: true; the input reads as it did. -/
def lowerBackSpec : ChangeSpec := { name := "lowerBack", fn := fun _ => fun
  | [d1, d2, d3] => { results := [.lit (.bool true)], args := [d1, d2, d3] }
  | _ => none }
def lowerBackRow : OpenClaim := { program := "ytphpppjfogpohaagreat", sum := "8ede81e798caeaad07ce7599ea7d48f529789aaf10fd689682b6a866ee167617", func := "triforium/triforiumlaw20.LowerBack", spec := "lowerBack", inPlace := ["slices.overlaps[triforium/api.Span]"], unfollowed := true, recurses := true, apart := false }
def LowerBackSaid : Prop := lowerBackRow.holds Tryz.pinned (OpenSpec.ofChange lowerBackSpec)

/-- ITS FALSE NEIGHBOUR: 'it returns false'. Refute it at one input. -/
def lowerBackWrong : ChangeSpec := { name := "lowerBack", fn := fun _ => fun
  | [d1, d2, d3] => { results := [.lit (.bool false)], args := [d1, d2, d3] }
  | _ => none }
def LowerBackWrongFalsely : Prop := lowerBackRow.holds Tryz.pinned (OpenSpec.ofChange lowerBackWrong)

/-- 'triforiumlaw19.LiftLifts': WHATEVER THE INPUT: true; the input reads as it did. -/
def liftLiftsSpec : ChangeSpec := { name := "liftLifts", fn := fun _ => fun
  | [d] => { results := [.lit (.bool true)], args := [d] }
  | _ => none }
def liftLiftsRow : OpenClaim := { program := "ytphpppjfogpohaagreat", sum := "8ede81e798caeaad07ce7599ea7d48f529789aaf10fd689682b6a866ee167617", func := "triforium/triforiumlaw19.LiftLifts", spec := "liftLifts", unfollowed := true, recurses := true, apart := false }
def LiftLiftsSaid : Prop := liftLiftsRow.holds Tryz.pinned (OpenSpec.ofChange liftLiftsSpec)

/-- ITS FALSE NEIGHBOUR: 'it returns false'. Refute it at one input. -/
def liftLiftsWrong : ChangeSpec := { name := "liftLifts", fn := fun _ => fun
  | [d] => { results := [.lit (.bool false)], args := [d] }
  | _ => none }
def LiftLiftsWrongFalsely : Prop := liftLiftsRow.holds Tryz.pinned (OpenSpec.ofChange liftLiftsWrong)

/-- 'triforiumlaw19.LiftAlike': WHATEVER THE INPUT: true; the input reads as it did. -/
def liftAlikeSpec : ChangeSpec := { name := "liftAlike", fn := fun _ => fun
  | [d1, d2] => { results := [.lit (.bool true)], args := [d1, d2] }
  | _ => none }
def liftAlikeRow : OpenClaim := { program := "ytphpppjfogpohaagreat", sum := "8ede81e798caeaad07ce7599ea7d48f529789aaf10fd689682b6a866ee167617", func := "triforium/triforiumlaw19.LiftAlike", spec := "liftAlike", unfollowed := true, recurses := true, apart := false }
def LiftAlikeSaid : Prop := liftAlikeRow.holds Tryz.pinned (OpenSpec.ofChange liftAlikeSpec)

/-- ITS FALSE NEIGHBOUR: 'it returns false'. Refute it at one input. -/
def liftAlikeWrong : ChangeSpec := { name := "liftAlike", fn := fun _ => fun
  | [d1, d2] => { results := [.lit (.bool false)], args := [d1, d2] }
  | _ => none }
def LiftAlikeWrongFalsely : Prop := liftAlikeRow.holds Tryz.pinned (OpenSpec.ofChange liftAlikeWrong)

/-- 'triforiumlaw19.LiftRight': WHATEVER THE INPUT: true; the input reads as it did. -/
def liftRightSpec : ChangeSpec := { name := "liftRight", fn := fun _ => fun
  | [d1, d2, d3] => { results := [.lit (.bool true)], args := [d1, d2, d3] }
  | _ => none }
def liftRightRow : OpenClaim := { program := "ytphpppjfogpohaagreat", sum := "8ede81e798caeaad07ce7599ea7d48f529789aaf10fd689682b6a866ee167617", func := "triforium/triforiumlaw19.LiftRight", spec := "liftRight", unfollowed := true, recurses := true, apart := false }
def LiftRightSaid : Prop := liftRightRow.holds Tryz.pinned (OpenSpec.ofChange liftRightSpec)

/-- ITS FALSE NEIGHBOUR: 'it returns false'. Refute it at one input. -/
def liftRightWrong : ChangeSpec := { name := "liftRight", fn := fun _ => fun
  | [d1, d2, d3] => { results := [.lit (.bool false)], args := [d1, d2, d3] }
  | _ => none }
def LiftRightWrongFalsely : Prop := liftRightRow.holds Tryz.pinned (OpenSpec.ofChange liftRightWrong)

/- THE SECOND FORM. 'bulk': how many values and letters a reading holds, each counted each time it is reached (what is shared counts as often as it is met; a slice's spare places count too). A statement '..UptoSaid' is the law's where the arguments, and the package variables that the reading takes, are together of bulk at most 1048576: NARROWER than '..Said'. Prove '..Said' where nothing that the law and all that it calls make is longer than what came in: it says more and counts as full. Else prove '..UptoSaid'. A law counts once. -/
mutual
def uptoBulk {H : Type} : DataW H → Nat
  | .lit (.string bytes) => bytes.length + 1
  | .lit _ => 1
  | .nil => 1
  | .ptr d => uptoBulk d + 1
  | .slice elems spare => uptoBulkAll elems + uptoBulkAll spare + 1
  | .agg parts => uptoBulkAll parts + 1
  | .iface _ d => uptoBulk d + 1
  | .map entries => uptoBulkEntries entries + 1
  | .held _ => 1
def uptoBulkAll {H : Type} : List (DataW H) → Nat
  | [] => 0
  | d :: r => uptoBulk d + uptoBulkAll r
def uptoBulkEntries {H : Type} : List (Lit × DataW H) → Nat
  | [] => 0
  | x :: r => uptoBulkEntry x + uptoBulkEntries r
def uptoBulkEntry {H : Type} : Lit × DataW H → Nat
  | (.string bytes, d) => bytes.length + uptoBulk d + 1
  | (_, d) => uptoBulk d + 1
 end
def uptoSmall : (H : Type) → List (DataW H) → Bool := fun _ ds => decide (uptoBulkAll ds ≤ 1048576)
def OpenSpec.upto (s : _root_.Go.ChangeSpec) : _root_.Go.OpenSpec := { _root_.Go.OpenSpec.ofChange s with cond := some uptoSmall }

/-- 'triforiumlaw20.LowerLowers', WHERE WHAT IT READS IS OF BULK AT MOST 1048576: true; the input reads as it did. -/
def lowerLowersUptoRow : OpenClaim := { program := "ytphpppjfogpohaagreat", sum := "8ede81e798caeaad07ce7599ea7d48f529789aaf10fd689682b6a866ee167617", func := "triforium/triforiumlaw20.LowerLowers", spec := "lowerLowers", inPlace := ["slices.overlaps[triforium/api.Span]"], unfollowed := true, recurses := true, apart := false, narrowed := true }
def LowerLowersUptoSaid : Prop := lowerLowersUptoRow.holds Tryz.pinned (OpenSpec.upto lowerLowersSpec)

/-- 'triforiumlaw20.LowerAgain', WHERE WHAT IT READS IS OF BULK AT MOST 1048576: true; the input reads as it did. -/
def lowerAgainUptoRow : OpenClaim := { program := "ytphpppjfogpohaagreat", sum := "8ede81e798caeaad07ce7599ea7d48f529789aaf10fd689682b6a866ee167617", func := "triforium/triforiumlaw20.LowerAgain", spec := "lowerAgain", inPlace := ["slices.overlaps[triforium/api.Span]"], unfollowed := true, recurses := true, apart := false, narrowed := true }
def LowerAgainUptoSaid : Prop := lowerAgainUptoRow.holds Tryz.pinned (OpenSpec.upto lowerAgainSpec)

/-- 'triforiumlaw20.LowerBack', WHERE WHAT IT READS IS OF BULK AT MOST 1048576: true; the input reads as it did. -/
def lowerBackUptoRow : OpenClaim := { program := "ytphpppjfogpohaagreat", sum := "8ede81e798caeaad07ce7599ea7d48f529789aaf10fd689682b6a866ee167617", func := "triforium/triforiumlaw20.LowerBack", spec := "lowerBack", inPlace := ["slices.overlaps[triforium/api.Span]"], unfollowed := true, recurses := true, apart := false, narrowed := true }
def LowerBackUptoSaid : Prop := lowerBackUptoRow.holds Tryz.pinned (OpenSpec.upto lowerBackSpec)

/-- 'triforiumlaw19.LiftLifts', WHERE WHAT IT READS IS OF BULK AT MOST 1048576: true; the input reads as it did. -/
def liftLiftsUptoRow : OpenClaim := { program := "ytphpppjfogpohaagreat", sum := "8ede81e798caeaad07ce7599ea7d48f529789aaf10fd689682b6a866ee167617", func := "triforium/triforiumlaw19.LiftLifts", spec := "liftLifts", unfollowed := true, recurses := true, apart := false, narrowed := true }
def LiftLiftsUptoSaid : Prop := liftLiftsUptoRow.holds Tryz.pinned (OpenSpec.upto liftLiftsSpec)

/-- 'triforiumlaw19.LiftAlike', WHERE WHAT IT READS IS OF BULK AT MOST 1048576: true; the input reads as it did. -/
def liftAlikeUptoRow : OpenClaim := { program := "ytphpppjfogpohaagreat", sum := "8ede81e798caeaad07ce7599ea7d48f529789aaf10fd689682b6a866ee167617", func := "triforium/triforiumlaw19.LiftAlike", spec := "liftAlike", unfollowed := true, recurses := true, apart := false, narrowed := true }
def LiftAlikeUptoSaid : Prop := liftAlikeUptoRow.holds Tryz.pinned (OpenSpec.upto liftAlikeSpec)

/-- 'triforiumlaw19.LiftRight', WHERE WHAT IT READS IS OF BULK AT MOST 1048576: true; the input reads as it did. -/
def liftRightUptoRow : OpenClaim := { program := "ytphpppjfogpohaagreat", sum := "8ede81e798caeaad07ce7599ea7d48f529789aaf10fd689682b6a866ee167617", func := "triforium/triforiumlaw19.LiftRight", spec := "liftRight", unfollowed := true, recurses := true, apart := false, narrowed := true }
def LiftRightUptoSaid : Prop := liftRightUptoRow.holds Tryz.pinned (OpenSpec.upto liftRightSpec)

end Rows
end Go.Proofs.YtphpppjfogpohaaGreat
