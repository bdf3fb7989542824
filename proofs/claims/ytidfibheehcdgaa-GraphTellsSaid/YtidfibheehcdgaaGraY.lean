/- The law GraphTells out of its walk. -/
import Derived.Test.YtidfibheehcdgaaGraX
import Derived.Test.YtidfibheehcdgaaOpenG
set_option linter.unusedSimpArgs false
set_option linter.unusedVariables false
namespace Go.Proofs.Ytidfibheehcdgaa
open Go.RowKit
theorem graphTells_fin {v0 v2 : Value} {i : Int} {w : World} (h0 : IsGraph w v0) (h1 : (Lit.int .i64 i).wf = true) (h2 : IsInts w v2) :
    Calls Try.prog 3 #[v0, .int .i64 i, v2] w fun e w' => e = .returned (.bool true) ∧ Ext w w' := by
  obtain ⟨G, rfl, hG, oG⟩ := h0
  obtain ⟨⟨A, cap, xs⟩, rfl, hl⟩ := h2
  have := hl.wt
  exact tells16_any G i A cap xs w hG oG hl.row (by simp only at this; omega)
end Go.Proofs.Ytidfibheehcdgaa
