/- Merged by program (merge.py) out of: OpenW, OpenG. -/
import Derived.Test.YtphpppjfogpohaaMc25
import Derived.Test.YtphpppjfogpohaaMc6
/- Parameters that are slices of numbers and of words. -/
set_option linter.unusedSimpArgs false
set_option linter.unusedVariables false
namespace Go.Proofs.Ytphpppjfogpohaa
open Go.RowKit
set_option maxRecDepth 100000
section
open Go.WideShapes Go.ChangeShapes Go.ChangeAt Go.Joins Go.Deep
variable {H : Type} {enc : TypeId × Value → H} {w : World} {base : Nat} {spare : Nat → Bool} {held : Bool} {v : Value} {d : DataW H} {p : List MemPlace} {r : Reach} {b0 : Nat}
theorem open_intsW (hv : Value.okWide Try.prog w r b0 28 v) (h : DataW.Trod enc Try.prog w base spare held 28 v d p) (hw : WOK Try.prog 28 d) : ∃ l : Sl Int, v = .slice l.A l.xs.length l.cap ∧ SlAt 1 8 intC (fun z => -9223372036854775808 ≤ z ∧ z ≤ 9223372036854775807) w l :=
  (opens_slice (n := 1) (k := 8) Try.underlying28 (by kernel_rfl) (by kernel_rfl) (by decide) (opens_int Try.underlying3)).sl Try.underlying28 hv h hw
theorem open_wordsW (hv : Value.okWide Try.prog w r b0 49 v) (h : DataW.Trod enc Try.prog w base spare held 49 v d p) (hw : WOK Try.prog 49 d) : ∃ l : Sl Int, v = .slice l.A l.xs.length l.cap ∧ SlAt 1 8 u64C (fun z => 0 ≤ z ∧ z < 18446744073709551616) w l :=
  (opens_slice (n := 1) (k := 8) Try.underlying49 (by kernel_rfl) (by kernel_rfl) (by decide) (opens_u64 Try.underlying68)).sl Try.underlying49 hv h hw
end
abbrev IsInts (w : World) (v : Value) : Prop := ∃ l : Sl Int, v = .slice l.A l.xs.length l.cap ∧ SlAt 1 8 intC (fun z => -9223372036854775808 ≤ z ∧ z ≤ 9223372036854775807) w l
abbrev IsWords (w : World) (v : Value) : Prop := ∃ l : Sl Int, v = .slice l.A l.xs.length l.cap ∧ SlAt 1 8 u64C (fun z => 0 ≤ z ∧ z < 18446744073709551616) w l
end Go.Proofs.Ytphpppjfogpohaa

/- A parameter that is a graph. -/
set_option linter.unusedSimpArgs false
set_option linter.unusedVariables false
namespace Go.Proofs.Ytphpppjfogpohaa
open Go.RowKit
section
open Go.WideShapes Go.ChangeShapes Go.ChangeAt Go.Joins Go.Deep
variable {H : Type} {enc : TypeId × Value → H} {w : World} {base : Nat} {spare : Nat → Bool} {held : Bool} {v : Value} {d : DataW H} {p : List MemPlace} {r : Reach} {b0 : Nat}
theorem opens_val : Opens enc Try.prog w base spare held 53 spanC (fun x => (-9223372036854775808 ≤ x.1 ∧ x.1 ≤ 9223372036854775807) ∧ (-9223372036854775808 ≤ x.2 ∧ x.2 ≤ 9223372036854775807)) :=
  (opens_struct Try.underlying53 (by kernel_rfl) (fields_cons (c := 1) (opens_int Try.underlying3) (by kernel_rfl) rfl (by kernel_rfl) (fields_cons (c := 1) (opens_int Try.underlying2) (by kernel_rfl) rfl (by kernel_rfl) fields_nil))).map
    (fun x => (x.1, x.2.1)) (fun _ => rfl) (fun x h => ⟨h.1, h.2.1⟩)
theorem opens_node : Opens enc Try.prog w base spare held 51 nodeC (fun x => NodeAt w x ∧ NodeOk x) :=
  (opens_struct Try.underlying51 (by kernel_rfl) (fields_cons (c := 1) (opens_int Try.underlying3) (by kernel_rfl) rfl (by kernel_rfl)
    (fields_cons (c := 1) (opens_slice (n := 2) (k := 16) Try.underlying23 (by kernel_rfl) (by kernel_rfl) (by decide) opens_val) (by kernel_rfl) rfl (by kernel_rfl)
    (fields_cons (c := 1) (opens_slice (n := 1) (k := 8) Try.underlying49 (by kernel_rfl) (by kernel_rfl) (by decide) (opens_u64 Try.underlying68)) (by kernel_rfl) rfl (by kernel_rfl) fields_nil)))).map
    (fun x => ⟨x.1, x.2.1.A, x.2.1.cap, x.2.1.xs, x.2.2.1.A, x.2.2.1.cap, x.2.2.1.xs⟩) (fun _ => rfl) (fun x h => by
      obtain ⟨h1, h2, h3, -⟩ := h
      have w2 := h2.wt
      have w3 := h3.wt
      exact ⟨⟨h2.row, h3.row⟩, h1, by simp only; omega, by simp only; omega, h2.nn, h3.nn, h2.len, h3.len, h2.each, h3.each⟩)
theorem opens_graph : Opens enc Try.prog w base spare held 25 (fun G : GraphD => [.slice G.nA G.ns.length G.ncap, .slice G.rA G.rs.length G.rcap]) (fun G => GraphAt w G ∧ GraphOk G) :=
  (opens_struct Try.underlying25 (by kernel_rfl) (fields_cons (c := 1) (opens_slice (n := 3) (k := 56) Try.underlying22 (by kernel_rfl) (by kernel_rfl) (by decide) opens_node) (by kernel_rfl) rfl (by kernel_rfl)
    (fields_cons (c := 1) (opens_slice (n := 2) (k := 16) Try.underlying23 (by kernel_rfl) (by kernel_rfl) (by decide) opens_val) (by kernel_rfl) rfl (by kernel_rfl) fields_nil))).map
    (fun x => ⟨x.1.A, x.1.cap, x.1.xs, x.2.1.A, x.2.1.cap, x.2.1.xs⟩) (fun _ => rfl) (fun x h => by
      obtain ⟨h1, h2, -⟩ := h
      have w1 := h1.wt
      have w2 := h2.wt
      exact ⟨⟨⟨h1.row, fun y hy => (h1.each y hy).1⟩, h2.row⟩, by simp only; omega, by simp only; omega, h1.nn, h2.nn, h1.len, h2.len, fun y hy => (h1.each y hy).2, h2.each⟩)
set_option maxRecDepth 100000 in
theorem open_graph (hv : Value.okWide Try.prog w r b0 25 v) (h : DataW.Trod enc Try.prog w base spare held 25 v d p) (hw : WOK Try.prog 25 d) : ∃ G : GraphD, v = .agg #[.slice G.nA G.ns.length G.ncap, .slice G.rA G.rs.length G.rcap] ∧ GraphAt w G ∧ GraphOk G :=
  opens_graph.agg Try.underlying25 hv h hw
end
abbrev IsGraph (w : World) (v : Value) : Prop := ∃ G : GraphD, v = .agg #[.slice G.nA G.ns.length G.ncap, .slice G.rA G.rs.length G.rcap] ∧ GraphAt w G ∧ GraphOk G
end Go.Proofs.Ytphpppjfogpohaa

