/- Merged by program (merge.py) out of: OpenW. -/
import Derived.Test.YtkcpfimhbogdcaaGreatMz23
import Derived.Test.YtkcpfimhbogdcaaGreatMz7
/- Parameters that are slices of numbers and of words. -/
set_option linter.unusedSimpArgs false
set_option linter.unusedVariables false
namespace Go.Proofs.YtkcpfimhbogdcaaGreat
open Go.RowKit
set_option maxRecDepth 100000
section
open Go.WideShapes Go.ChangeShapes Go.ChangeAt Go.Joins Go.Deep
variable {H : Type} {enc : TypeId × Value → H} {w : World} {base : Nat} {spare : Nat → Bool} {held : Bool} {v : Value} {d : DataW H} {p : List MemPlace} {r : Reach} {b0 : Nat}
theorem open_intsW (hv : Value.okWide Tryz.prog w r b0 31 v) (h : DataW.Trod enc Tryz.prog w base spare held 31 v d p) (hw : WOK Tryz.prog 31 d) : ∃ l : Sl Int, v = .slice l.A l.xs.length l.cap ∧ SlAt 1 8 intC (fun z => -9223372036854775808 ≤ z ∧ z ≤ 9223372036854775807) w l :=
  (opens_slice (n := 1) (k := 8) Tryz.underlying31 (by kernel_rfl) (by kernel_rfl) (by decide) (opens_int Tryz.underlying3)).sl Tryz.underlying31 hv h hw
theorem open_wordsW (hv : Value.okWide Tryz.prog w r b0 24 v) (h : DataW.Trod enc Tryz.prog w base spare held 24 v d p) (hw : WOK Tryz.prog 24 d) : ∃ l : Sl Int, v = .slice l.A l.xs.length l.cap ∧ SlAt 1 8 u64C (fun z => 0 ≤ z ∧ z < 18446744073709551616) w l :=
  (opens_slice (n := 1) (k := 8) Tryz.underlying24 (by kernel_rfl) (by kernel_rfl) (by decide) (opens_u64 Tryz.underlying46)).sl Tryz.underlying24 hv h hw
end
abbrev IsInts (w : World) (v : Value) : Prop := ∃ l : Sl Int, v = .slice l.A l.xs.length l.cap ∧ SlAt 1 8 intC (fun z => -9223372036854775808 ≤ z ∧ z ≤ 9223372036854775807) w l
abbrev IsWords (w : World) (v : Value) : Prop := ∃ l : Sl Int, v = .slice l.A l.xs.length l.cap ∧ SlAt 1 8 u64C (fun z => 0 ≤ z ∧ z < 18446744073709551616) w l
end Go.Proofs.YtkcpfimhbogdcaaGreat

