/- The walks of the small functions on spans: May, end, Has, Meets, Within, and the reference's. -/
import Derived.Test.YtllcekmbcmhckaaBase
set_option linter.unusedSimpArgs false
set_option linter.unusedVariables false
namespace Go.Proofs.Ytllcekmbcmhckaa
open Go.RowKit

def mayB (a s : Int) : Bool := decide (0 ≤ a ∧ a ≤ 1099511627776 ∧ 1 ≤ s ∧ s ≤ 1099511627776 - a)

set_option maxHeartbeats 400000 in
theorem end_any (a s : Int) (w : World) :
    Calls Try.prog 58 #[.agg #[.int .i64 (a), .int .i64 (s)]] w fun e w' => e = .returned (.int .i64 (wrap64 (a + s))) ∧ Ext w w' := by
  go_enter Try.func58, Try.ntmps58
  go_wp2
  go_ret
  exact ⟨rfl, (Ext.refl _).alloc _⟩

set_option maxHeartbeats 400000 in
theorem may_any (a s : Int) (w : World) :
    Calls Try.prog 13 #[.agg #[.int .i64 (a), .int .i64 (s)]] w fun e w' => e = .returned (.bool (mayB a s)) ∧ Ext w w' := by
  go_enter Try.func13, Try.ntmps13
  go_wp2
  all_goals go_ret
  all_goals exact ⟨ret_bool (by unfold mayB; simp [*]; try omega), (Ext.refl _).alloc _⟩

set_option maxHeartbeats 400000 in
theorem refmay_any (a s : Int) (w : World) :
    Calls Try.prog 14 #[.agg #[.int .i64 (a), .int .i64 (s)]] w fun e w' => e = .returned (.bool (mayB a s)) ∧ Ext w w' := by
  go_enter Try.func14, Try.ntmps14
  go_wp2
  all_goals go_ret
  all_goals exact ⟨ret_bool (by unfold mayB; simp [*]; try omega), (Ext.refl _).alloc _⟩

def hasB (a s p : Int) : Bool := mayB a s && decide (a ≤ p ∧ p < a + s)

theorem may_bd {a s : Int} (h : mayB a s = true) : 0 ≤ a ∧ a ≤ 1099511627776 ∧ 1 ≤ s ∧ s ≤ 1099511627776 - a := by
  simpa [mayB] using h

set_option maxHeartbeats 400000 in
theorem has_any (a s p : Int) (w : World) :
    Calls Try.prog 15 #[.agg #[.int .i64 (a), .int .i64 (s)], .int .i64 p] w fun e w' => e = .returned (.bool (hasB a s p)) ∧ Ext w w' := by
  by_cases hb : mayB a s = true
  · obtain ⟨h1, h2, h3, h4⟩ := may_bd hb
    have hw : wrap64 (a + s) = a + s := IntWalk.wrap64_in _ ⟨by omega, by omega⟩
    go_enter Try.func15, Try.ntmps15
    go_wp2_with (first | (go_at_call 13; refine (may_any _ _ _).mono ?_; rintro e w1 ⟨rfl, hx⟩; obtain ⟨hcc, hff, hzz⟩ := ecell hx; (try simp only [World.size_alloc] at hzz); (try (have hz0 := Nat.lt_of_succ_le hzz)); (try (have hz1 := Nat.lt_of_succ_lt hz0)); (try (have hz2 := Nat.lt_of_succ_lt hz1)); (try (have hz3 := Nat.lt_of_succ_lt hz2))) | (go_at_call 58; refine (end_any _ _ _).mono ?_; rintro e w1 ⟨rfl, hx⟩; obtain ⟨hcc, hff, hzz⟩ := ecell hx; (try simp only [World.size_alloc] at hzz); (try (have hz0 := Nat.lt_of_succ_le hzz)); (try (have hz1 := Nat.lt_of_succ_lt hz0)); (try (have hz2 := Nat.lt_of_succ_lt hz1)); (try (have hz3 := Nat.lt_of_succ_lt hz2))))
    all_goals go_ret
    all_goals exact ⟨ret_bool (by unfold hasB; simp [*]; try omega), (by repeat (first | (with_reducible exact Ext.refl _) | (with_reducible assumption) | (with_reducible refine Ext.drew ?_) | (with_reducible refine Ext.alloc ?_ _) | ((with_reducible refine Ext.setCell ?_ ?_ _); rotate_left; (focus (simp; try omega))) | (with_reducible refine Ext.trans ?_ (by assumption))))⟩
  · have hb' : mayB a s = false := by simpa using hb
    go_enter Try.func15, Try.ntmps15
    go_wp2_with (go_at_call 13; refine (may_any _ _ _).mono ?_; rintro e w1 ⟨rfl, hx⟩; obtain ⟨hcc, hff, hzz⟩ := ecell hx; (try simp only [World.size_alloc] at hzz); (try (have hz0 := Nat.lt_of_succ_le hzz)); (try (have hz1 := Nat.lt_of_succ_lt hz0)); (try (have hz2 := Nat.lt_of_succ_lt hz1)); (try (have hz3 := Nat.lt_of_succ_lt hz2)))
    go_ret
    exact ⟨ret_bool (by unfold hasB; simp [hb']), (by repeat (first | (with_reducible exact Ext.refl _) | (with_reducible assumption) | (with_reducible refine Ext.drew ?_) | (with_reducible refine Ext.alloc ?_ _) | ((with_reducible refine Ext.setCell ?_ ?_ _); rotate_left; (focus (simp; try omega))) | (with_reducible refine Ext.trans ?_ (by assumption))))⟩
end Go.Proofs.Ytllcekmbcmhckaa
