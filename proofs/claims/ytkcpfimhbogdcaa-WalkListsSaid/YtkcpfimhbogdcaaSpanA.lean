/- The walks of the small functions on spans: May, end, Has, Meets, Within, and the reference's. -/
import Derived.Test.YtkcpfimhbogdcaaBase
set_option linter.unusedSimpArgs false
set_option linter.unusedVariables false
namespace Go.Proofs.Ytkcpfimhbogdcaa
open Go.RowKit

def mayB (a s : Int) : Bool := decide (0 ≤ a ∧ a ≤ 1099511627776 ∧ 1 ≤ s ∧ s ≤ 1099511627776 - a)

set_option maxHeartbeats 400000 in
theorem end_any (a s : Int) (w : World) :
    Calls Try.prog 111 #[.agg #[.int .i64 (a), .int .i64 (s)]] w fun e w' => e = .returned (.int .i64 (wrap64 (a + s))) ∧ Ext w w' := by
  go_enter Try.func111, Try.ntmps111
  go_wp2
  go_ret
  exact ⟨rfl, (Ext.refl _).alloc _⟩

set_option maxHeartbeats 400000 in
theorem may_any (a s : Int) (w : World) :
    Calls Try.prog 15 #[.agg #[.int .i64 (a), .int .i64 (s)]] w fun e w' => e = .returned (.bool (mayB a s)) ∧ Ext w w' := by
  go_enter Try.func15, Try.ntmps15
  go_wp2
  all_goals go_ret
  all_goals exact ⟨ret_bool (by unfold mayB; simp [*]; try omega), (Ext.refl _).alloc _⟩

set_option maxHeartbeats 400000 in
theorem refmay_any (a s : Int) (w : World) :
    Calls Try.prog 67 #[.agg #[.int .i64 (a), .int .i64 (s)]] w fun e w' => e = .returned (.bool (mayB a s)) ∧ Ext w w' := by
  go_enter Try.func67, Try.ntmps67
  go_wp2
  all_goals go_ret
  all_goals exact ⟨ret_bool (by unfold mayB; simp [*]; try omega), (Ext.refl _).alloc _⟩

def hasB (a s p : Int) : Bool := mayB a s && decide (a ≤ p ∧ p < a + s)

theorem may_bd {a s : Int} (h : mayB a s = true) : 0 ≤ a ∧ a ≤ 1099511627776 ∧ 1 ≤ s ∧ s ≤ 1099511627776 - a := by
  simpa [mayB] using h

end Go.Proofs.Ytkcpfimhbogdcaa
