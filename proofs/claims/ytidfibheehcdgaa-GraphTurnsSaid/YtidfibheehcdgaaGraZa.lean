/- The law GraphTurns out of its walk. -/
import Derived.Test.YtidfibheehcdgaaGraZ
import Derived.Test.YtidfibheehcdgaaOpenG
set_option linter.unusedSimpArgs false
set_option linter.unusedVariables false
namespace Go.Proofs.Ytidfibheehcdgaa
open Go.RowKit
theorem graphTurns_fin {v0 v1 v2 : Value} {w : World} (h0 : IsGraph w v0) (h1 : IsGraph w v1) (h2 : IsInts w v2) :
    Calls Try.prog 4 #[v0, v1, v2] w fun e w' => e = .returned (.bool true) ∧ Ext w w' := by
  obtain ⟨G, rfl, hG, oG⟩ := h0
  obtain ⟨H, rfl, hH, oH⟩ := h1
  obtain ⟨⟨A, cap, xs⟩, rfl, hl⟩ := h2
  have := hl.wt
  exact turns16_any G H A cap xs w hG oG hH oH hl.row hl.each (by simp only at this; omega)
end Go.Proofs.Ytidfibheehcdgaa
