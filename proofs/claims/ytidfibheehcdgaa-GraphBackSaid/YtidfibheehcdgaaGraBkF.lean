/- The law GraphBack out of its walk. -/
import Derived.Test.YtidfibheehcdgaaGraBk
import Derived.Test.YtidfibheehcdgaaOpenG
set_option linter.unusedSimpArgs false
set_option linter.unusedVariables false
namespace Go.Proofs.Ytidfibheehcdgaa
open Go.RowKit
theorem graphBack_fin {v0 v1 : Value} {w : World} (h0 : IsGraph w v0) (h1 : IsInts w v1) :
    Calls Try.prog 5 #[v0, v1] w fun e w' => e = .returned (.bool true) ∧ Ext w w' := by
  obtain ⟨G, rfl, hG, oG⟩ := h0
  obtain ⟨⟨A, cap, xs⟩, rfl, hl⟩ := h1
  have := hl.wt
  exact back16_any G A cap xs w hG oG hl.row hl.each (by simp only at this; omega)
end Go.Proofs.Ytidfibheehcdgaa
