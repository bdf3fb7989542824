/- Where the numbers of an order stand, as a map that is written number by number. Of no program. -/
import Derived.Test.YtidfibheehcdgaaMapI
set_option linter.unusedSimpArgs false
set_option linter.unusedVariables false
namespace Go.Proofs.Ytidfibheehcdgaa

/-- The places of the first k numbers. -/
def pf (o : List Int) (k : Nat) (y : Int) : Option Int := if 0 ≤ placeZ o y ∧ placeZ o y < k then some (placeZ o y) else none
theorem place_own {o : List Int} {k : Nat} (hk : k < o.length) : 0 ≤ placeZ o (o.getD k 0) ∧ placeZ o (o.getD k 0) ≤ k := by
  rcases place_cases o (o.getD k 0) with ⟨_, h⟩ | ⟨j, hj, h, h1, h2⟩
  · exact absurd rfl (h _ (getD_mem hk))
  · refine ⟨by omega, ?_⟩
    rcases Nat.lt_or_ge k j with h3 | h3
    · exact absurd rfl (h2 k h3)
    · omega
theorem pf_zero (o : List Int) : pf o 0 = fun _ => none := by
  funext y
  unfold pf
  rw [if_neg (by omega)]
theorem pf_twice {o : List Int} {k : Nat} (hk : k < o.length) : (pf o k (o.getD k 0)).isSome = decide (placeZ o (o.getD k 0) ≠ k) := by
  have := place_own hk
  unfold pf
  by_cases h : placeZ o (o.getD k 0) = k
  · rw [if_neg (by omega), decide_eq_false (fun hn => hn h)]; rfl
  · rw [if_pos (by omega), decide_eq_true h]; rfl
theorem pf_step {o : List Int} {k : Nat} (hk : k < o.length) (h : placeZ o (o.getD k 0) = k) : (fun y => if y = o.getD k 0 then some (k : Int) else pf o k y) = pf o (k + 1) := by
  funext y
  by_cases hy : y = o.getD k 0
  · rw [if_pos hy, hy]
    unfold pf
    rw [if_pos (by omega), h]
  · rw [if_neg hy]
    unfold pf
    have hne : placeZ o y ≠ k := fun e => by
      rcases place_cases o y with ⟨h1, _⟩ | ⟨j, hj, h1, h2, _⟩
      · omega
      · have : j = k := by omega
        subst this
        exact hy h2.symm
    by_cases h2 : 0 ≤ placeZ o y ∧ placeZ o y < k
    · rw [if_pos h2, if_pos (by omega)]
    · rw [if_neg h2, if_neg (by omega)]
theorem pf_all {o : List Int} (y : Int) : pf o o.length y = if placeZ o y < 0 then none else some (placeZ o y) := by
  have := place_ge o y
  unfold pf
  by_cases h : placeZ o y < 0
  · rw [if_neg (by omega), if_pos h]
  · rw [if_pos (by omega), if_neg h]
theorem pf_some {o : List Int} (y : Int) : (pf o o.length y).isSome = decide (0 ≤ placeZ o y) := by
  rw [pf_all]
  by_cases h : placeZ o y < 0
  · rw [if_pos h]; simp; omega
  · rw [if_neg h]; simp; omega
end Go.Proofs.Ytidfibheehcdgaa
