/- The walk of span.Apart. -/
import Derived.Test.YtllcekmbcmhckaaSpanD
set_option linter.unusedSimpArgs false
set_option linter.unusedVariables false
namespace Go.Proofs.Ytllcekmbcmhckaa
open Go.RowKit

theorem RetS.open {w : World} {xs : List (Int × Int)} {e : Ending} {w' : World} (h : RetS w w.heap.size xs e w') : ∃ A cap, e = .returned (.slice A xs.length cap) ∧ SpansAt w' A xs ∧ Ext w w' := by
  obtain ⟨v, rfl, ho, hb⟩ := h
  obtain ⟨A, cap, rfl, hr, _⟩ := ho.form spanCells (by decide)
  exact ⟨A, cap, rfl, hr, hb⟩

set_option maxRecDepth 100000 in
set_option maxHeartbeats 4000000 in
theorem apart_any (A : Option Addr) (cap : Nat) (xs : List (Int × Int)) (V : World) (hlen : xs.length ≤ 1000000) (hl : SpansAt V A xs) :
    Calls Try.prog 27 #[.slice A xs.length cap] V fun e w' => e = .returned (.bool (apartB xs)) ∧ Ext V w' := by
  rw [← chain_sort]
  have HL := Lib.hid hl
  have hzl : (sortS xs).length ≤ 1000000 := by rw [sortS_length]; exact hlen
  clear hl
  generalize hz : sortS xs = zs at *
  have HZ := Lib.hid hz
  clear hz
  go_enter Try.func27, Try.ntmps27
  go_wp2_with fail
  refine (sort_any A cap xs _ hlen HL.out).mono ?_
  intro e W1 hret
  rw [HZ.out] at hret
  obtain ⟨A1, cap1, rfl, hr1, hx1⟩ := hret.open
  clear hret HL hlen HZ
  have HL := Lib.hid hr1
  clear hr1
  go_wp2_with fail
  go_loopw [10] (fun i wr => ∃ k : Nat, k ≤ zs.length ∧ i = .int .i64 k ∧ Ext W1 wr ∧ Hid (∀ i, i < k → mayB (zs.getD i (0, 0)).1 (zs.getD i (0, 0)).2 = true ∧ ∀ j, j < i → j + 1 = i → (zs.getD j (0, 0)).1 + (zs.getD j (0, 0)).2 ≤ (zs.getD i (0, 0)).1)) (fun i _ => zs.length - (intOf i).toNat)
  case atStart => exact ⟨0, by omega, rfl, Ext.refl _, Lib.hid (by omega)⟩
  case round =>
    obtain ⟨k, hk, rfl, hxr, hq⟩ := hrel
    by_cases hlt : k < zs.length
    rotate_left
    · go_wp2_with fail
      go_ret
      exact ⟨ret_bool (by rw [chain_yes (fun i hi => hq.out i (by omega))]), hx1.trans hxr⟩
    obtain ⟨lb, off, rfl, hc⟩ := HL.out.get (by omega)
    have HC := Lib.hid hc
    obtain ⟨e1, e2⟩ := spans_cell hc hlt
    have c1 := hxr.cell e1
    have c2 := hxr.cell e2
    have HN1 := Lib.hid (fun h => chain_no1 (zs := zs) (i := k) hlt h)
    have HP := Lib.hid (fun (h1 : mayB (zs.getD k (0, 0)).1 (zs.getD k (0, 0)).2 = true) (h2 : ∀ j, j < k → j + 1 = k → (zs.getD j (0, 0)).1 + (zs.getD j (0, 0)).2 ≤ (zs.getD k (0, 0)).1) =>
      (fun i (hi : i < k + 1) => by
        rcases Nat.lt_or_ge i k with h | h
        · exact hq.out i h
        · obtain rfl : i = k := by omega
          exact ⟨h1, h2⟩ : ∀ i, i < k + 1 → mayB (zs.getD i (0, 0)).1 (zs.getD i (0, 0)).2 = true ∧ ∀ j, j < i → j + 1 = i → (zs.getD j (0, 0)).1 + (zs.getD j (0, 0)).2 ≤ (zs.getD i (0, 0)).1))
    have ib1 : (k : Int) < (zs.length : Int) := by omega
    clear e1 e2 hc HL
    rcases k with _ | m
    · -- the first
      generalize zs.getD 0 (0, 0) = x at *
      obtain ⟨a, s⟩ := x
      simp only [Nat.zero_mul, Nat.add_zero] at c1 c2
      clear hq HC
      go_wp2_with fail
      have hW : Ext W1 (wr.alloc (.cells #[.int .i64 a, .int .i64 s] 23)) := hxr.alloc _
      have k0 := boxed wr #[.int .i64 a, .int .i64 s] 23 0 (.int .i64 a) rfl
      have k1 := boxed wr #[.int .i64 a, .int .i64 s] 23 1 (.int .i64 s) rfl
      generalize wr.alloc (.cells #[.int .i64 a, .int .i64 s] 23) = W at *
      have hs0 : Ext W W := Ext.refl W
      have l0 := fun u : ExtOf W => k0 u.1 u.2
      have l1 := fun u : ExtOf W => k1 u.1 u.2
      clear k0 k1 c1 c2 hxr
      cases hm : mayB a s
      · (refine wp_region_ext (W := W) (by kernel_rfl) (by kernel_rfl) (by with_reducible assumption) ?_; (repeat (go_big_quiet_step (first | (go_at_call 13; with_reducible exact Calls.ext_of (may_is a s _ hm _))))); refine wpQuiet_nil ?_; intro w1 hx)
        go_wp2_with fail
        go_ret
        exact ⟨ret_bool (by rw [HN1.out hm]), hx1.trans (hW.trans hx)⟩
      · (refine wp_region_ext (W := W) (by kernel_rfl) (by kernel_rfl) (by with_reducible assumption) ?_; (repeat (go_big_quiet_step (first | (go_at_call 13; with_reducible exact Calls.ext_of (may_is a s _ hm _))))); refine wpQuiet_nil ?_; intro w1 hx)
        go_wp2_with fail
        go_roundw
        case rel => exact ⟨0 + 1, by omega, by go_num, hW.trans hx, Lib.hid (HP.out hm (by omega))⟩
        case measure => simp [intOf]; omega
    · have hq1 := (hq.out m (by omega)).1
      obtain ⟨e3, e4⟩ := spans_cell HC.out (show m < zs.length by omega)
      have c3 := hxr.cell e3
      have c4 := hxr.cell e4
      have HN2 := Lib.hid (fun h => chain_no2 (zs := zs) (j := m) hlt h)
      have HP2 := Lib.hid (fun h1 (h2 : (zs.getD m (0, 0)).1 + (zs.getD m (0, 0)).2 ≤ (zs.getD (m + 1) (0, 0)).1) => HP.out h1 (fun j (_ : j < m + 1) (hj : j + 1 = m + 1) => (show j = m by omega) ▸ h2))
      clear e3 e4 hq HC HP
      generalize zs.getD (m + 1) (0, 0) = x at *
      generalize zs.getD m (0, 0) = y at *
      obtain ⟨a, s⟩ := x
      obtain ⟨c, d⟩ := y
      simp only at c1 c2 c3 c4 hq1
      have hcast : ((m + 1 : Nat) : Int) = (m : Int) + 1 := by omega
      rw [hcast]
      rw [hcast] at ib1
      clear hcast
      have HQ := Lib.hid hq1
      clear hq1
      go_wp2_with fail
      have hW : Ext W1 (wr.alloc (.cells #[.int .i64 a, .int .i64 s] 23)) := hxr.alloc _
      have k0 := boxed wr #[.int .i64 a, .int .i64 s] 23 0 (.int .i64 a) rfl
      have k1 := boxed wr #[.int .i64 a, .int .i64 s] 23 1 (.int .i64 s) rfl
      have k3 := Ext.cell ((Ext.refl wr).alloc (.cells #[.int .i64 a, .int .i64 s] 23)) c3
      have k4 := Ext.cell ((Ext.refl wr).alloc (.cells #[.int .i64 a, .int .i64 s] 23)) c4
      generalize wr.alloc (.cells #[.int .i64 a, .int .i64 s] 23) = W at *
      have hs0 : Ext W W := Ext.refl W
      have l0 := fun u : ExtOf W => k0 u.1 u.2
      have l1 := fun u : ExtOf W => k1 u.1 u.2
      have l3 := fun u : ExtOf W => u.2.cell k3
      have l4 := fun u : ExtOf W => u.2.cell k4
      clear k0 k1 c1 c2 c3 c4 k3 k4 hxr
      cases hm : mayB a s
      · (refine wp_region_ext (W := W) (by kernel_rfl) (by kernel_rfl) (by with_reducible assumption) ?_; (repeat (go_big_quiet_step (first | (go_at_call 13; with_reducible exact Calls.ext_of (may_is a s _ hm _))))); refine wpQuiet_nil ?_; intro w1 hx)
        go_wp2_with fail
        go_ret
        exact ⟨ret_bool (by rw [HN1.out hm]), hx1.trans (hW.trans hx)⟩
      · have hp : decide ((0 : Int) < (m : Int) + 1) = true := by simp; try omega
        have s1 : IntKind.i64.wrap ((m : Int) + 1 - 1) = (m : Int) := by rw [show (m : Int) + 1 - 1 = (m : Int) from by omega]; exact IntWalk.i64_in _ (by omega)
        have ib2 : (m : Int) < (zs.length : Int) := by omega
        have ib3 : (0 : Int) ≤ (m : Int) := by omega
        by_cases ht : a < c + d
        · have ht' : decide (a < c + d) = true := by simpa using ht
          (refine wp_region_ext (W := W) (by kernel_rfl) (by kernel_rfl) (by with_reducible assumption) ?_; (repeat (go_big_quiet_step (first | (go_at_call 13; with_reducible exact Calls.ext_of (may_is a s _ hm _)) | (go_at_call 58; with_reducible exact Calls.ext_of (end_is c d HQ.out _))))); refine wpQuiet_nil ?_; intro w1 hx)
          go_wp2_with fail
          go_ret
          exact ⟨ret_bool (by rw [HN2.out ht]), hx1.trans (hW.trans hx)⟩
        · have ht' : decide (a < c + d) = false := by simpa using ht
          (refine wp_region_ext (W := W) (by kernel_rfl) (by kernel_rfl) (by with_reducible assumption) ?_; (repeat (go_big_quiet_step (first | (go_at_call 13; with_reducible exact Calls.ext_of (may_is a s _ hm _)) | (go_at_call 58; with_reducible exact Calls.ext_of (end_is c d HQ.out _))))); refine wpQuiet_nil ?_; intro w1 hx)
          go_wp2_with fail
          go_roundw
          case rel => exact ⟨m + 1 + 1, by omega, by go_num, hW.trans hx, Lib.hid (HP2.out hm (by omega))⟩
          case measure => simp [intOf]; omega
end Go.Proofs.Ytllcekmbcmhckaa
