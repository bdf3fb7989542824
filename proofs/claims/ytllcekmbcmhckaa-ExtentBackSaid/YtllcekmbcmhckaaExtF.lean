/- The reference of extent.Right. -/
import Derived.Test.YtllcekmbcmhckaaExtC
set_option linter.unusedSimpArgs false
set_option linter.unusedVariables false
namespace Go.Proofs.Ytllcekmbcmhckaa
open Go.RowKit Go.Shelf

theorem right_no2 {a s : Int} {xs : List (Int × Int)} {j : Nat} (hj : j + 1 < xs.length) (h : (xs.getD (j + 1) (0, 0)).1 ≤ (xs.getD j (0, 0)).1 + (xs.getD j (0, 0)).2) : rightB a s xs = false := by
  have : decide (joinL xs = xs) = false := by
    rw [decide_eq_false_iff_not]
    intro e
    have hp := (join_canon xs).apart
    rw [e, List.pairwise_iff_getElem] at hp
    have := hp j (j + 1) (by omega) hj (by omega)
    simp [List.getElem?_eq_getElem hj, List.getElem?_eq_getElem (show j < xs.length by omega)] at h
    omega
  rw [rightB, this, Bool.and_false]
theorem right_yes {a s : Int} {xs : List (Int × Int)} (h : ∀ i, i < xs.length → withinB (xs.getD i (0, 0)).1 (xs.getD i (0, 0)).2 a s = true ∧ ∀ j, j + 1 = i → (xs.getD j (0, 0)).1 + (xs.getD j (0, 0)).2 < (xs.getD i (0, 0)).1) : rightB a s xs = true := by
  rw [right_all fun i hi => (h i hi).1, decide_eq_true_eq]
  have hm : ∀ i, i < xs.length → mayB (xs.getD i (0, 0)).1 (xs.getD i (0, 0)).2 = true := fun i hi => within_may (h i hi).1
  have key : ∀ d i, i + d + 1 < xs.length → (xs.getD i (0, 0)).1 + (xs.getD i (0, 0)).2 < (xs.getD (i + d + 1) (0, 0)).1 := by
    intro d
    induction d with
    | zero => intro i hi; exact (h (i + 0 + 1) hi).2 i rfl
    | succ d ih =>
      intro i hi
      have h1 := ih i (by omega)
      have h2 := (h (i + d + 1 + 1) (by omega)).2 (i + d + 1) rfl
      have h3 := may_bd (hm (i + d + 1) (by omega))
      rw [show i + (d + 1) + 1 = i + d + 1 + 1 from by omega]
      omega
  have hmem : ∀ x ∈ xs, mayB x.1 x.2 = true := by
    intro x hx
    obtain ⟨i, hi, rfl⟩ := List.getElem_of_mem hx
    simpa [List.getElem?_eq_getElem hi] using hm i hi
  refine Canon.unique (join_canon xs) ⟨fun x hx => (may_bd (hmem x hx)).2.2.1, ?_, fun p => ?_⟩
  · rw [List.pairwise_iff_getElem]
    intro i j hi hj hij
    have := key (j - i - 1) i (by omega)
    rw [show i + (j - i - 1) + 1 = j from by omega] at this
    simpa [List.getElem?_eq_getElem hi, List.getElem?_eq_getElem hj] using this
  · rw [covered_iff]
    exact ⟨fun ⟨x, hx, hp⟩ => ⟨x, hx, hmem x hx, hp⟩, fun ⟨x, hx, _, hp⟩ => ⟨x, hx, hp⟩⟩

def RightTo (a s : Int) (xs : List (Int × Int)) (k : Nat) : Prop := ∀ i, i < k → withinB (xs.getD i (0, 0)).1 (xs.getD i (0, 0)).2 a s = true ∧ ∀ j, j + 1 = i → (xs.getD j (0, 0)).1 + (xs.getD j (0, 0)).2 < (xs.getD i (0, 0)).1
theorem RightTo.step {a s : Int} {xs : List (Int × Int)} {k : Nat} (h : RightTo a s xs k) (h1 : withinB (xs.getD k (0, 0)).1 (xs.getD k (0, 0)).2 a s = true) (h2 : ∀ j, j + 1 = k → (xs.getD j (0, 0)).1 + (xs.getD j (0, 0)).2 < (xs.getD k (0, 0)).1) : RightTo a s xs (k + 1) := fun i hi => by
  rcases Nat.lt_or_ge i k with h' | h'
  · exact h i h'
  · obtain rfl : i = k := by omega
    exact ⟨h1, h2⟩

set_option maxRecDepth 100000 in
set_option maxHeartbeats 4000000 in
theorem refright_any (a s : Int) (A : Option Addr) (cap : Nat) (xs : List (Int × Int)) (w : World) (hlen : xs.length ≤ 400000) (hl : SpansAt w A xs) :
    Calls Try.prog 42 #[.agg #[.int .i64 (a), .int .i64 (s)], .slice A xs.length cap] w fun e w' => e = .returned (.bool (rightB a s xs)) ∧ Ext w w' := by
  have hW : Ext w (w.alloc (.cells #[.int .i64 a, .int .i64 s] 23)) := (Ext.refl w).alloc _
  have HL := Lib.hid (hl.ext hW)
  have b0 := boxed w #[.int .i64 a, .int .i64 s] 23 0 (.int .i64 a) rfl
  have b1 := boxed w #[.int .i64 a, .int .i64 s] 23 1 (.int .i64 s) rfl
  clear hl
  go_enter Try.func42, Try.ntmps42
  go_wp2_with fail
  generalize w.alloc (.cells #[.int .i64 a, .int .i64 s] 23) = W at *
  go_loopw [5] (fun i wr => ∃ k : Nat, k ≤ xs.length ∧ i = .int .i64 k ∧ Ext W wr ∧ Hid (RightTo a s xs k)) (fun i _ => xs.length - (intOf i).toNat)
  case atStart => exact ⟨0, by omega, rfl, Ext.refl _, Lib.hid (fun i hi => absurd hi (by omega))⟩
  case round =>
    obtain ⟨k, hk, rfl, hxr, hq⟩ := hrel
    by_cases hlt : k < xs.length
    rotate_left
    · go_wp2_with fail
      go_ret
      exact ⟨ret_bool (by rw [right_yes (fun i hi => hq.out i (by omega))]), hW.trans hxr⟩
    obtain ⟨lb, off, rfl, hc⟩ := HL.out.get (by omega)
    have HC := Lib.hid hc
    obtain ⟨e1, e2⟩ := spans_cell hc hlt
    have l1 := fun u : ExtOf wr => u.2.cell (hxr.cell e1)
    have l2 := fun u : ExtOf wr => u.2.cell (hxr.cell e2)
    have m1 := fun u : ExtOf wr => b0 u.1 (hxr.trans u.2)
    have m2 := fun u : ExtOf wr => b1 u.1 (hxr.trans u.2)
    have HN1 := Lib.hid (fun h => right_no (a := a) (s := s) hlt h)
    have HP := Lib.hid (fun h1 h2 => hq.out.step h1 h2)
    have ib1 : (k : Int) < (xs.length : Int) := by omega
    have hs0 : Ext wr wr := Ext.refl wr
    clear e1 e2 hc HL
    rcases k with _ | m
    · generalize xs.getD 0 (0, 0) = x at *
      obtain ⟨x1, x2⟩ := x
      simp only [Nat.zero_mul, Nat.add_zero] at l1 l2
      clear hq HC
      cases hb : withinB x1 x2 a s
      · go_wp2_with fail
        (refine wp_region_ext (W := wr) (by kernel_rfl) (by kernel_rfl) (by with_reducible assumption) ?_; (repeat (go_big_quiet_step (first | (go_at_call 20; with_reducible exact Calls.ext_of (refwithin_is x1 x2 a s _ hb _))))); refine wpQuiet_nil ?_; intro w1 hx)
        go_wp2_with fail
        go_ret
        exact ⟨ret_bool (by rw [HN1.out hb]), hW.trans (hxr.trans hx)⟩
      · go_wp2_with fail
        (refine wp_region_ext (W := wr) (by kernel_rfl) (by kernel_rfl) (by with_reducible assumption) ?_; (repeat (go_big_quiet_step (first | (go_at_call 20; with_reducible exact Calls.ext_of (refwithin_is x1 x2 a s _ hb _))))); refine wpQuiet_nil ?_; intro w1 hx)
        go_wp2_with fail
        (refine wp_region_ext (W := wr) (by kernel_rfl) (by kernel_rfl) (by with_reducible assumption) ?_; (repeat (go_big_quiet_step (fail))); refine wpQuiet_nil ?_; intro w1 hx)
        go_wp2_with fail
        go_roundw
        case rel => exact ⟨0 + 1, by omega, by go_num, hxr.trans (by assumption), Lib.hid (HP.out hb (by omega))⟩
        case measure => simp [intOf]; omega
    · have hq1 := within_may (hq.out m (by omega)).1
      obtain ⟨e3, e4⟩ := spans_cell HC.out (show m < xs.length by omega)
      have l3 := fun u : ExtOf wr => u.2.cell (hxr.cell e3)
      have l4 := fun u : ExtOf wr => u.2.cell (hxr.cell e4)
      have HN2 := Lib.hid (fun h => right_no2 (a := a) (s := s) (xs := xs) (j := m) hlt h)
      have HP2 := Lib.hid (fun h1 (h2 : (xs.getD m (0, 0)).1 + (xs.getD m (0, 0)).2 < (xs.getD (m + 1) (0, 0)).1) => HP.out h1 (fun j (hj : j + 1 = m + 1) => (show j = m by omega) ▸ h2))
      clear e3 e4 hq HC HP
      generalize xs.getD (m + 1) (0, 0) = x at *
      generalize xs.getD m (0, 0) = y at *
      obtain ⟨x1, x2⟩ := x
      obtain ⟨c, d⟩ := y
      simp only at l1 l2 l3 l4 hq1
      obtain ⟨q1, q2, q3, q4⟩ := may_bd hq1
      have hcast : ((m + 1 : Nat) : Int) = (m : Int) + 1 := by omega
      rw [hcast]
      rw [hcast] at ib1
      clear hcast hq1
      have hp : decide ((0 : Int) < (m : Int) + 1) = true := by simp; try omega
      have s1 : IntKind.i64.wrap ((m : Int) + 1 - 1) = (m : Int) := by rw [show (m : Int) + 1 - 1 = (m : Int) from by omega]; exact IntWalk.i64_in _ (by omega)
      have ib2 : (m : Int) < (xs.length : Int) := by omega
      have ib3 : (0 : Int) ≤ (m : Int) := by omega
      cases hb : withinB x1 x2 a s
      · go_wp2_with fail
        (refine wp_region_ext (W := wr) (by kernel_rfl) (by kernel_rfl) (by with_reducible assumption) ?_; (repeat (go_big_quiet_step (first | (go_at_call 20; with_reducible exact Calls.ext_of (refwithin_is x1 x2 a s _ hb _))))); refine wpQuiet_nil ?_; intro w1 hx)
        go_wp2_with fail
        go_ret
        exact ⟨ret_bool (by rw [HN1.out hb]), hW.trans (hxr.trans hx)⟩
      · by_cases ht : x1 ≤ c + d
        · have ht' : decide (x1 ≤ c + d) = true := by simpa using ht
          have HT := Lib.hid ht
          clear ht
          go_wp2_with fail
          (refine wp_region_ext (W := wr) (by kernel_rfl) (by kernel_rfl) (by with_reducible assumption) ?_; (repeat (go_big_quiet_step (first | (go_at_call 20; with_reducible exact Calls.ext_of (refwithin_is x1 x2 a s _ hb _))))); refine wpQuiet_nil ?_; intro w1 hx)
          go_wp2_with fail
          (refine wp_region_ext (W := wr) (by kernel_rfl) (by kernel_rfl) (by with_reducible assumption) ?_; (repeat (go_big_quiet_step (fail))); refine wpQuiet_nil ?_; intro w1 hx)
          go_wp2_with fail
          go_ret
          exact ⟨ret_bool (by rw [HN2.out HT.out]), hW.trans (hxr.trans (by assumption))⟩
        · have ht' : decide (x1 ≤ c + d) = false := by simpa using ht
          have HT := Lib.hid ht
          clear ht
          go_wp2_with fail
          (refine wp_region_ext (W := wr) (by kernel_rfl) (by kernel_rfl) (by with_reducible assumption) ?_; (repeat (go_big_quiet_step (first | (go_at_call 20; with_reducible exact Calls.ext_of (refwithin_is x1 x2 a s _ hb _))))); refine wpQuiet_nil ?_; intro w1 hx)
          go_wp2_with fail
          (refine wp_region_ext (W := wr) (by kernel_rfl) (by kernel_rfl) (by with_reducible assumption) ?_; (repeat (go_big_quiet_step (fail))); refine wpQuiet_nil ?_; intro w1 hx)
          go_wp2_with fail
          go_roundw
          case rel => exact ⟨m + 1 + 1, by omega, by go_num, hxr.trans (by assumption), Lib.hid (HP2.out hb (by have := HT.out; omega))⟩
          case measure => simp [intOf]; omega
end Go.Proofs.Ytllcekmbcmhckaa
