/- extent.Largest and Right, and their reference. -/
import Derived.Test.YtllcekmbcmhckaaExtB
set_option linter.unusedSimpArgs false
set_option linter.unusedVariables false
namespace Go.Proofs.Ytllcekmbcmhckaa
open Go.RowKit Go.Shelf

def lgT (n : Int) (x : Int × Int) : Int := if mayB x.1 x.2 then max n x.2 else n
/-- How many words stand together. -/
def largestL (xs : List (Int × Int)) : Int := xs.foldl lgT 0
theorem largest_snoc {xs : List (Int × Int)} {k : Nat} (hk : k < xs.length) : largestL (xs.take (k + 1)) = lgT (largestL (xs.take k)) (xs.getD k (0, 0)) := by
  unfold largestL
  rw [List.take_succ_eq_append_getElem hk, List.foldl_append]
  simp [List.getElem?_eq_getElem hk]

set_option maxRecDepth 100000 in
set_option maxHeartbeats 1000000 in
theorem largestE_any (A : Option Addr) (cap : Nat) (xs : List (Int × Int)) (W : World) (hlen : xs.length ≤ 9223372036854775807) (hl : SpansAt W A xs) :
    Calls Try.prog 43 #[.slice A xs.length cap] W fun e w' => e = .returned (.int .i64 (largestL xs)) ∧ Ext W w' := by
  have HL := Lib.hid hl
  clear hl
  go_enter Try.func43, Try.ntmps43
  go_wp2_with fail
  go_loopw [3, 5, 8] (fun n _ i wr => ∃ k : Nat, k ≤ xs.length ∧ i = .int .i64 k ∧ n = .int .i64 (largestL (xs.take k)) ∧ Ext W wr) (fun _ _ i _ => xs.length - (intOf i).toNat)
  case atStart => exact ⟨0, by omega, rfl, rfl, Ext.refl _⟩
  case round =>
    obtain ⟨k, hk, rfl, rfl, hxr⟩ := hrel
    by_cases hlt : k < xs.length
    rotate_left
    · go_wp2_with fail
      go_ret
      exact ⟨ret_int (by rw [List.take_of_length_le (by omega)]), hxr⟩
    obtain ⟨lb, off, rfl, hc⟩ := HL.out.get (by omega)
    obtain ⟨e1, e2⟩ := spans_cell hc hlt
    have c1 := hxr.cell e1
    have c2 := hxr.cell e2
    have HT := Lib.hid (largest_snoc hlt)
    clear e1 e2 hc HL
    generalize xs.getD k (0, 0) = x at *
    obtain ⟨a, s⟩ := x
    simp only at c1 c2
    generalize largestL (xs.take k) = n at *
    have ib1 : (k : Int) < (xs.length : Int) := by omega
    go_wp2_with fail
    cases hm : mayB a s
    · refine (may_is a s _ hm _).mono ?_
      rintro e w1 ⟨rfl, hx1⟩
      have hx2 := (hxr.alloc _).trans hx1
      go_wp2_with fail
      go_roundw
      case rel => exact ⟨k + 1, by omega, by go_num, by rw [HT.out]; simp [lgT, hm], hx2⟩
      case measure => simp [intOf]; omega
    · refine (may_is a s _ hm _).mono ?_
      rintro e w1 ⟨rfl, hx1⟩
      have hx2 := (hxr.alloc _).trans hx1
      have k1 := boxed wr #[.int .i64 a, .int .i64 s] 23 1 (.int .i64 s) rfl w1 hx1
      go_wp2_with fail
      all_goals
        go_roundw
        case rel => exact ⟨k + 1, by omega, by go_num, by rw [HT.out]; simp only [lgT, hm, if_true]; congr 1; omega, hx2⟩
        case measure => simp [intOf]; omega

set_option maxRecDepth 100000 in
set_option maxHeartbeats 1000000 in
theorem reflargestE_any (A : Option Addr) (cap : Nat) (xs : List (Int × Int)) (W : World) (hlen : xs.length ≤ 9223372036854775807) (hl : SpansAt W A xs) :
    Calls Try.prog 44 #[.slice A xs.length cap] W fun e w' => e = .returned (.int .i64 (largestL xs)) ∧ Ext W w' := by
  have HL := Lib.hid hl
  clear hl
  go_enter Try.func44, Try.ntmps44
  go_wp2_with fail
  go_loopw [3, 4] (fun n i wr => ∃ k : Nat, k ≤ xs.length ∧ i = .int .i64 k ∧ n = .int .i64 (largestL (xs.take k)) ∧ Ext W wr) (fun _ i _ => xs.length - (intOf i).toNat)
  case atStart => exact ⟨0, by omega, rfl, rfl, Ext.refl _⟩
  case round =>
    obtain ⟨k, hk, rfl, rfl, hxr⟩ := hrel
    by_cases hlt : k < xs.length
    rotate_left
    · go_wp2_with fail
      go_ret
      exact ⟨ret_int (by rw [List.take_of_length_le (by omega)]), hxr⟩
    obtain ⟨lb, off, rfl, hc⟩ := HL.out.get (by omega)
    obtain ⟨e1, e2⟩ := spans_cell hc hlt
    have E1 := Lib.hid e1
    have E2 := Lib.hid e2
    have c1 : ∀ w', Ext W w' → w'.cell? ⟨lb, off + k * 2, none⟩ = some (.int .i64 (xs.getD k (0, 0)).1) := fun w' h => h.cell E1.out
    have c2 : ∀ w', Ext W w' → w'.cell? ⟨lb, off + k * 2 + 1, none⟩ = some (.int .i64 (xs.getD k (0, 0)).2) := fun w' h => h.cell E2.out
    have HT := Lib.hid (largest_snoc hlt)
    clear e1 e2 hc HL
    generalize xs.getD k (0, 0) = x at *
    obtain ⟨a, s⟩ := x
    simp only at c1 c2
    generalize largestL (xs.take k) = n at *
    have ib1 : (k : Int) < (xs.length : Int) := by omega
    go_wp2_with fail
    cases hm : mayB a s
    · refine (refmay_is a s _ hm _).mono ?_
      rintro e w1 ⟨rfl, hx1⟩
      have hx2 := hxr.trans hx1
      go_wp2_with fail
      go_roundw
      case rel => exact ⟨k + 1, by omega, by go_num, by rw [HT.out]; simp [lgT, hm], hx2⟩
      case measure => simp [intOf]; omega
    · refine (refmay_is a s _ hm _).mono ?_
      rintro e w1 ⟨rfl, hx1⟩
      have hx2 := hxr.trans hx1
      by_cases hgt : n < s
      all_goals
        go_wp2_with fail
        go_roundw
        case rel => exact ⟨k + 1, by omega, by go_num, by rw [HT.out]; simp only [lgT, hm, if_true]; congr 1; omega, hx2⟩
        case measure => simp [intOf]; omega

/-- Whether free words may be. -/
def rightB (a s : Int) (xs : List (Int × Int)) : Bool := xs.all (fun x => withinB x.1 x.2 a s) && decide (joinL xs = xs)
theorem right_no {a s : Int} {xs : List (Int × Int)} {k : Nat} (hk : k < xs.length) (h : withinB (xs.getD k (0, 0)).1 (xs.getD k (0, 0)).2 a s = false) : rightB a s xs = false := by
  have : xs.all (fun x => withinB x.1 x.2 a s) = false := by
    rw [List.all_eq_false]
    exact ⟨xs[k], List.getElem_mem hk, by simpa [List.getElem?_eq_getElem hk] using h⟩
  simp [rightB, this]
theorem all_within {a s : Int} {xs : List (Int × Int)} (h : ∀ i, i < xs.length → withinB (xs.getD i (0, 0)).1 (xs.getD i (0, 0)).2 a s = true) : xs.all (fun x => withinB x.1 x.2 a s) = true := by
  rw [List.all_eq_true]
  intro x hx
  obtain ⟨i, hi, rfl⟩ := List.getElem_of_mem hx
  simpa [List.getElem?_eq_getElem hi] using h i hi
theorem right_all {a s : Int} {xs : List (Int × Int)} (h : ∀ i, i < xs.length → withinB (xs.getD i (0, 0)).1 (xs.getD i (0, 0)).2 a s = true) : rightB a s xs = decide (joinL xs = xs) := by
  rw [rightB, all_within h, Bool.true_and]
theorem within_may {a s c d : Int} (h : withinB a s c d = true) : mayB a s = true := by
  cases hm : mayB a s
  · rw [within_no1 hm] at h; cases h
  · rfl

theorem refwithin_is (a s c d : Int) (b : Bool) (h : withinB a s c d = b) (w : World) : Calls Try.prog 20 #[.agg #[.int .i64 (a), .int .i64 (s)], .agg #[.int .i64 (c), .int .i64 (d)]] w fun e w' => e = .returned (.bool b) ∧ Ext w w' := by
  rw [← h]; exact refwithin_any a s c d w
theorem equal_is (A A2 : Option Addr) (cap cap2 : Nat) (xs ys : List (Int × Int)) (n m : Nat) (b : Bool) (W : World) (hn : xs.length = n) (hm : ys.length = m) (hb : decide (xs = ys) = b) (hlen : n ≤ 1000000) (hlen2 : m ≤ 1000000) (hl : SpansAt W A xs) (hl2 : SpansAt W A2 ys) :
    Calls Try.prog 68 #[.slice A n cap, .slice A2 m cap2] W fun e w' => e = .returned (.bool b) ∧ Ext W w' := by
  subst hn hm hb
  exact equal_any A A2 cap cap2 xs ys W (by omega) (by omega) hl hl2

set_option maxRecDepth 100000 in
set_option maxHeartbeats 4000000 in
theorem right_any (a s : Int) (A : Option Addr) (cap : Nat) (xs : List (Int × Int)) (w : World) (hlen : xs.length ≤ 400000) (hl : SpansAt w A xs) :
    Calls Try.prog 41 #[.agg #[.int .i64 (a), .int .i64 (s)], .slice A xs.length cap] w fun e w' => e = .returned (.bool (rightB a s xs)) ∧ Ext w w' := by
  have HL0 := Lib.hid hl
  clear hl
  go_enter Try.func41, Try.ntmps41
  have k0 := boxed w #[.int .i64 a, .int .i64 s] 23 0 (.int .i64 a) rfl
  have k1 := boxed w #[.int .i64 a, .int .i64 s] 23 1 (.int .i64 s) rfl
  have hW : Ext w (w.alloc (.cells #[.int .i64 a, .int .i64 s] 23)) := (Ext.refl w).alloc _
  go_wp2_with fail
  generalize w.alloc (.cells #[.int .i64 a, .int .i64 s] 23) = W at *
  have HL := Lib.hid (HL0.out.ext hW)
  clear HL0
  go_loopw [6, 9] (fun _ i wr => ∃ k : Nat, k ≤ xs.length ∧ i = .int .i64 k ∧ Ext W wr ∧ Hid (∀ i, i < k → withinB (xs.getD i (0, 0)).1 (xs.getD i (0, 0)).2 a s = true)) (fun _ i _ => xs.length - (intOf i).toNat)
  case atStart => exact ⟨0, by omega, rfl, Ext.refl _, Lib.hid (by omega)⟩
  case round =>
    obtain ⟨k, hk, rfl, hxr, hq⟩ := hrel
    by_cases hlt : k < xs.length
    rotate_left
    · have HR := Lib.hid (right_all (a := a) (s := s) (xs := xs) (fun i hi => hq.out i (by omega)))
      have hjl := joinL_length xs
      clear hq
      go_wp2_with fail
      refine (join_c A cap xs _ _ _ _ rfl rfl rfl (by omega) (HL.out.ext hxr)).mono ?_
      rintro e W8 ⟨A8, cap8, rfl, hj8, hx8⟩
      have HJ := Lib.hid hj8
      replace hxr := hxr.trans hx8
      clear hj8 hx8
      go_wp2_with fail
      refine (equal_is A8 A cap8 cap (joinL xs) xs _ _ _ W8 rfl rfl rfl (by omega) (by omega) HJ.out (HL.out.ext hxr)).mono ?_
      rintro e W9 ⟨rfl, hx9⟩
      replace hxr := hxr.trans hx9
      go_wp2_with fail
      go_ret
      exact ⟨ret_bool (by rw [HR.out]), hW.trans hxr⟩
    obtain ⟨lb, off, rfl, hc⟩ := HL.out.get (by omega)
    obtain ⟨e1, e2⟩ := spans_cell hc hlt
    have c1 := hxr.cell e1
    have c2 := hxr.cell e2
    have HN := Lib.hid (fun h => right_no (a := a) (s := s) hlt h)
    have HY := Lib.hid (fun (h : withinB (xs.getD k (0, 0)).1 (xs.getD k (0, 0)).2 a s = true) => (fun i (hi : i < k + 1) => by
      rcases Nat.lt_or_ge i k with h' | h'
      · exact hq.out i h'
      · obtain rfl : i = k := by omega
        exact h : ∀ i, i < k + 1 → withinB (xs.getD i (0, 0)).1 (xs.getD i (0, 0)).2 a s = true))
    clear e1 e2 hc HL hq
    generalize xs.getD k (0, 0) = x at *
    obtain ⟨x1, x2⟩ := x
    simp only at c1 c2
    have ib1 : (k : Int) < (xs.length : Int) := by omega
    have hxa := hxr.alloc (.cells #[.int .i64 x1, .int .i64 x2] 23)
    cases hb : withinB x1 x2 a s
    · go_wp2_with fail
      refine (within_is x1 x2 a s _ hb _).mono ?_
      rintro e w1 ⟨rfl, hx1⟩
      have hx2 := (hxr.alloc _).trans hx1
      go_wp2_with fail
      go_ret
      exact ⟨ret_bool (by rw [HN.out hb]), hW.trans hx2⟩
    · go_wp2_with fail
      refine (within_is x1 x2 a s _ hb _).mono ?_
      rintro e w1 ⟨rfl, hx1⟩
      have hx2 := (hxr.alloc _).trans hx1
      go_wp2_with fail
      go_roundw
      case rel => exact ⟨k + 1, by omega, by go_num, hx2, Lib.hid (HY.out hb)⟩
      case measure => simp [intOf]; omega
end Go.Proofs.Ytllcekmbcmhckaa
