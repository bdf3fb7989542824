/- The laws SpanTells and SpanGaps out of their walks. -/
import Derived.Test.YtllcekmbcmhckaaLaw03B
import Derived.Test.YtllcekmbcmhckaaOpenS
set_option linter.unusedSimpArgs false
set_option linter.unusedVariables false
namespace Go.Proofs.Ytllcekmbcmhckaa
open Go.RowKit

/-- What the openers give. -/
abbrev IsSpan (v : Value) : Prop := ∃ a s : Int, v = .agg #[.int .i64 (a), .int .i64 (s)] ∧ (-9223372036854775808 ≤ a ∧ a ≤ 9223372036854775807) ∧ (-9223372036854775808 ≤ s ∧ s ≤ 9223372036854775807)
abbrev IsSpans (w : World) (v : Value) : Prop := ∃ (A : Option Addr) (cap : Nat) (xs : List (Int × Int)), v = .slice A xs.length cap ∧ xs.length ≤ 9223372036854775807 ∧ (A = none → cap = 0) ∧ (∀ x ∈ xs, (-9223372036854775808 ≤ x.1 ∧ x.1 ≤ 9223372036854775807) ∧ (-9223372036854775808 ≤ x.2 ∧ x.2 ≤ 9223372036854775807)) ∧ SpansAt w A xs
theorem spanTells_fin {v0 v1 : Value} {p : Int} {w : World} (h0 : IsSpan v0) (h1 : IsSpan v1) (h2 : (Lit.int .i64 p).wf = true) :
    Calls Try.prog 3 #[v0, v1, .int .i64 p] w fun e w' => e = .returned (.bool true) ∧ Ext w w' := by
  obtain ⟨a, s, rfl, _, _⟩ := h0
  obtain ⟨c, d, rfl, _, _⟩ := h1
  exact spanTells_any a s c d p w
theorem spanGaps_fin {v0 v1 : Value} {w : World} (h0 : IsSpan v0) (h1 : IsSpans w v1) :
    Calls Try.prog 5 #[v0, v1] w fun e w' => e = .returned (.bool true) ∧ Ext w w' := by
  obtain ⟨a, s, rfl, _, _⟩ := h0
  obtain ⟨A, cap, xs, rfl, h1, h2, h3, h4⟩ := h1
  exact spanGaps_any a s A cap xs w h2 h1 h4
end Go.Proofs.Ytllcekmbcmhckaa
