/- Merged by program (merge.py) out of: OpenW. -/
import Derived.Test.YtkcpfimhbogdcaaMo13
import Derived.Test.YtkcpfimhbogdcaaMo7
/- Parameters that are slices of numbers and of words. -/
set_option linter.unusedSimpArgs false
set_option linter.unusedVariables false
namespace Go.Proofs.Ytkcpfimhbogdcaa
open Go.RowKit
set_option maxRecDepth 100000
section
open Go.WideShapes Go.ChangeShapes Go.ChangeAt Go.Joins Go.Deep
variable {H : Type} {enc : TypeId × Value → H} {w : World} {base : Nat} {spare : Nat → Bool} {held : Bool} {v : Value} {d : DataW H} {p : List MemPlace} {r : Reach} {b0 : Nat}
theorem open_intsW (hv : Value.okWide Try.prog w r b0 24 v) (h : DataW.Trod enc Try.prog w base spare held 24 v d p) (hw : WOK Try.prog 24 d) : ∃ l : Sl Int, v = .slice l.A l.xs.length l.cap ∧ SlAt 1 8 intC (fun z => -9223372036854775808 ≤ z ∧ z ≤ 9223372036854775807) w l :=
  (opens_slice (n := 1) (k := 8) Try.underlying24 (by kernel_rfl) (by kernel_rfl) (by decide) (opens_int Try.underlying3)).sl Try.underlying24 hv h hw
theorem open_wordsW (hv : Value.okWide Try.prog w r b0 33 v) (h : DataW.Trod enc Try.prog w base spare held 33 v d p) (hw : WOK Try.prog 33 d) : ∃ l : Sl Int, v = .slice l.A l.xs.length l.cap ∧ SlAt 1 8 u64C (fun z => 0 ≤ z ∧ z < 18446744073709551616) w l :=
  (opens_slice (n := 1) (k := 8) Try.underlying33 (by kernel_rfl) (by kernel_rfl) (by decide) (opens_u64 Try.underlying64)).sl Try.underlying33 hv h hw
end
abbrev IsInts (w : World) (v : Value) : Prop := ∃ l : Sl Int, v = .slice l.A l.xs.length l.cap ∧ SlAt 1 8 intC (fun z => -9223372036854775808 ≤ z ∧ z ≤ 9223372036854775807) w l
abbrev IsWords (w : World) (v : Value) : Prop := ∃ l : Sl Int, v = .slice l.A l.xs.length l.cap ∧ SlAt 1 8 u64C (fun z => 0 ≤ z ∧ z < 18446744073709551616) w l
end Go.Proofs.Ytkcpfimhbogdcaa

