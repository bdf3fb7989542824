/- Lists of values, words and numbers held against one another; clones of values, words and nodes. -/
import Derived.Test.YtidfibheehcdgaaGraC
import Derived.WalkSpells
import Derived.Lib.SliceRun
set_option linter.unusedSimpArgs false
set_option linter.unusedVariables false
namespace Go.Proofs.Ytidfibheehcdgaa
open Go.RowKit Go.Shelf

theorem u64Cells : Cells 1 u64C := ⟨fun _ => rfl, fun x u h => by simp [u64C] at h; subst h; rfl⟩
theorem nodeCells : Cells 3 nodeC := ⟨fun _ => rfl, fun x u h => by simp [nodeC] at h; rcases h with rfl | rfl | rfl <;> rfl⟩
theorem intInfo0 : (Try.prog.info? 3).map (fun i => (i.zero, i.size, i.bytes)) = some (some (.int .i64 0), 1, 8) := by kernel_rfl
theorem intInfo : Info Try.prog 26 3 1 8 :=
  ⟨Try.underlying26, by obtain ⟨i0, hi, hz0, hz1, hz2⟩ := info_parts intInfo0; exact ⟨i0, _, hi, hz0, hz1, hz2, rfl⟩, by decide⟩
theorem valInfo0 : (Try.prog.info? 46).map (fun i => (i.zero, i.size, i.bytes)) = some (some (.agg #[.int .i64 0, .int .i64 0]), 2, 16) := by kernel_rfl
theorem valInfo : Info Try.prog 23 46 2 16 :=
  ⟨Try.underlying23, by obtain ⟨i0, hi, hz0, hz1, hz2⟩ := info_parts valInfo0; exact ⟨i0, _, hi, hz0, hz1, hz2, rfl⟩, by decide⟩
theorem u64Info0 : (Try.prog.info? 47).map (fun i => (i.zero, i.size, i.bytes)) = some (some (.int .u64 0), 1, 8) := by kernel_rfl
theorem u64Info : Info Try.prog 32 47 1 8 :=
  ⟨Try.underlying32, by obtain ⟨i0, hi, hz0, hz1, hz2⟩ := info_parts u64Info0; exact ⟨i0, _, hi, hz0, hz1, hz2, rfl⟩, by decide⟩
theorem nodeInfo0 : (Try.prog.info? 34).map (fun i => (i.zero, i.size, i.bytes)) = some (some (.agg #[.int .i64 0, .slice none 0 0, .slice none 0 0]), 3, 56) := by kernel_rfl
theorem nodeInfo : Info Try.prog 22 34 3 56 :=
  ⟨Try.underlying22, by obtain ⟨i0, hi, hz0, hz1, hz2⟩ := info_parts nodeInfo0; exact ⟨i0, _, hi, hz0, hz1, hz2, rfl⟩, by decide⟩

theorem same_ofD {α : Type} {d : α} {xs ys : List α} (hl : xs.length = ys.length) (h : ∀ i, i < xs.length → xs.getD i d = ys.getD i d) : xs = ys := by
  refine List.ext_getElem hl fun i h1 h2 => ?_
  have := h i h1
  simpa [List.getElem?_eq_getElem h1, List.getElem?_eq_getElem h2] using this
/-- A slice that is nil reads as no elements. -/
theorem row_none {α : Type} {n : Nat} {f : α → List Value} {w : World} {xs : List α} (h : RowAt n f w none xs) : xs = [] := by
  obtain ⟨b, off, hA, _⟩ := h
  cases xs with
  | nil => rfl
  | cons x xs => exact absurd (hA (by simp)) (by simp)
set_option maxRecDepth 100000
set_option maxHeartbeats 4000000
theorem vals_any (A A2 : Option Addr) (cap cap2 : Nat) (xs ys : List (Int × Int)) (W : World) (hlen : xs.length ≤ 9223372036854775807) (hlen2 : ys.length ≤ 9223372036854775807) (hl : SpansAt W A xs) (hl2 : SpansAt W A2 ys) :
    Calls Try.prog 33 #[.slice A xs.length cap, .slice A2 ys.length cap2] W fun e w' => e = .returned (.bool (decide (xs = ys))) ∧ Ext W w' := by
  have HL := Lib.hid hl
  have HL2 := Lib.hid hl2
  clear hl hl2
  by_cases hne : xs.length = ys.length
  rotate_left
  · have h1 : ((xs.length : Int) != (ys.length : Int)) = true := by rw [bne_iff_ne]; omega
    have h2 : decide (xs = ys) = false := by simp; intro e; subst e; exact hne rfl
    have HR := Lib.hid h2
    clear h2 hne
    go_enter Try.func33, Try.ntmps33
    go_wp2_with fail
    go_ret
    exact ⟨ret_bool (by rw [HR.out]), Ext.refl _⟩
  have HN := Lib.hid hne
  have h1 : ((xs.length : Int) != (ys.length : Int)) = false := by rw [← HN.out]; simp
  clear hne
  go_enter Try.func33, Try.ntmps33
  go_wp2_with fail
  go_loopw [5] (fun i wr => ∃ k : Nat, k ≤ xs.length ∧ i = .int .i64 k ∧ Ext W wr ∧ Hid (∀ i, i < k → xs.getD i (0, 0) = ys.getD i (0, 0))) (fun i _ => xs.length - (intOf i).toNat)
  case atStart => exact ⟨0, by omega, rfl, Ext.refl _, Lib.hid (by omega)⟩
  case round =>
    obtain ⟨k, hk, rfl, hxr, hq⟩ := hrel
    by_cases hlt : k < xs.length
    rotate_left
    · have HR := Lib.hid (same_ofD HN.out (fun i hi => hq.out i (by omega)))
      clear hq
      go_wp2_with fail
      go_ret
      exact ⟨ret_bool (by simp [HR.out]), hxr⟩
    have hlt2 : k < ys.length := by have := HN.out; omega
    obtain ⟨lb, off, rfl, hc⟩ := HL.out.get (by omega)
    obtain ⟨lb2, off2, rfl, hc2⟩ := HL2.out.get (by omega)
    obtain ⟨e1, e2⟩ := spans_cell hc hlt
    obtain ⟨e3, e4⟩ := spans_cell hc2 hlt2
    have c1 := hxr.cell e1
    have c2 := hxr.cell e2
    have c3 := hxr.cell e3
    have c4 := hxr.cell e4
    have HS := Lib.hid (fun (h : xs.getD k (0, 0) = ys.getD k (0, 0)) => (fun i (hi : i < k + 1) => by
      rcases Nat.lt_or_ge i k with h' | h'
      · exact hq.out i h'
      · obtain rfl : i = k := by omega
        exact h : ∀ i, i < k + 1 → xs.getD i (0, 0) = ys.getD i (0, 0)))
    have HD := Lib.hid (fun (h : xs.getD k (0, 0) ≠ ys.getD k (0, 0)) => (fun e : xs = ys => h (by rw [e]) : xs ≠ ys))
    clear e1 e2 e3 e4 hc hc2 HL HL2 hq HN
    generalize xs.getD k (0, 0) = x at *
    generalize ys.getD k (0, 0) = y at *
    obtain ⟨a, s⟩ := x
    obtain ⟨c, d⟩ := y
    simp only at c1 c2 c3 c4
    have ib1 : (k : Int) < (xs.length : Int) := by omega
    have ib2 : (k : Int) < (ys.length : Int) := by omega
    have ib3 : (0 : Int) ≤ (k : Int) := by omega
    by_cases he : a = c ∧ s = d
    · obtain ⟨rfl, rfl⟩ := he
      go_wp2_with fail
      go_quiet (fail)
      go_wp2_with fail
      go_roundw
      case rel => exact ⟨k + 1, by omega, by go_num, hxr.drewN _, Lib.hid (HS.out (by first | rfl | trivial))⟩
      case measure => simp [intOf]; omega
    · have HE := Lib.hid (HD.out (by intro e; injection e with e1 e2; exact he ⟨e1, e2⟩))
      have hb : (a == c) = false ∨ (a = c ∧ (s == d) = false) := by
        by_cases h1 : a = c
        · exact .inr ⟨h1, by rw [beq_eq_false_iff_ne]; exact fun h => he ⟨h1, h⟩⟩
        · exact .inl (by rw [beq_eq_false_iff_ne]; exact h1)
      clear he HD HS
      rcases hb with hb | ⟨rfl, hb⟩
      all_goals
        go_wp2_with fail
        go_quiet (fail)
        go_wp2_with fail
        go_ret
        exact ⟨ret_bool (decide_eq_false HE.out).symm, hxr.drewN _⟩
theorem ints_any (A A2 : Option Addr) (cap cap2 : Nat) (xs ys : List Int) (W : World) (hlen : xs.length ≤ 9223372036854775807) (hlen2 : ys.length ≤ 9223372036854775807) (hl : IntsAt W A xs) (hl2 : IntsAt W A2 ys) :
    Calls Try.prog 13 #[.slice A xs.length cap, .slice A2 ys.length cap2] W fun e w' => e = .returned (.bool (decide (xs = ys))) ∧ Ext W w' := by
  have HL := Lib.hid hl
  have HL2 := Lib.hid hl2
  clear hl hl2
  by_cases hne : xs.length = ys.length
  rotate_left
  · have h1 : ((xs.length : Int) != (ys.length : Int)) = true := by rw [bne_iff_ne]; omega
    have h2 : decide (xs = ys) = false := by simp; intro e; subst e; exact hne rfl
    have HR := Lib.hid h2
    clear h2 hne
    go_enter Try.func13, Try.ntmps13
    go_wp2_with fail
    go_ret
    exact ⟨ret_bool (by rw [HR.out]), Ext.refl _⟩
  have HN := Lib.hid hne
  have h1 : ((xs.length : Int) != (ys.length : Int)) = false := by rw [← HN.out]; simp
  clear hne
  go_enter Try.func13, Try.ntmps13
  go_wp2_with fail
  go_loopw [5] (fun i wr => ∃ k : Nat, k ≤ xs.length ∧ i = .int .i64 k ∧ Ext W wr ∧ Hid (∀ i, i < k → xs.getD i 0 = ys.getD i 0)) (fun i _ => xs.length - (intOf i).toNat)
  case atStart => exact ⟨0, by omega, rfl, Ext.refl _, Lib.hid (by omega)⟩
  case round =>
    obtain ⟨k, hk, rfl, hxr, hq⟩ := hrel
    by_cases hlt : k < xs.length
    rotate_left
    · have HR := Lib.hid (same_ofD HN.out (fun i hi => hq.out i (by omega)))
      clear hq
      go_wp2_with fail
      go_ret
      exact ⟨ret_bool (by simp [HR.out]), hxr⟩
    have hlt2 : k < ys.length := by have := HN.out; omega
    obtain ⟨lb, off, rfl, hc⟩ := HL.out.get (by omega)
    obtain ⟨lb2, off2, rfl, hc2⟩ := HL2.out.get (by omega)
    have e1 := ints_cell hc hlt
    have e3 := ints_cell hc2 hlt2
    have c1 := hxr.cell e1
    have c3 := hxr.cell e3
    have HS := Lib.hid (fun (h : xs.getD k 0 = ys.getD k 0) => (fun i (hi : i < k + 1) => by
      rcases Nat.lt_or_ge i k with h' | h'
      · exact hq.out i h'
      · obtain rfl : i = k := by omega
        exact h : ∀ i, i < k + 1 → xs.getD i 0 = ys.getD i 0))
    have HD := Lib.hid (fun (h : xs.getD k 0 ≠ ys.getD k 0) => (fun e : xs = ys => h (by rw [e]) : xs ≠ ys))
    clear e1 e3 hc hc2 HL HL2 hq HN
    generalize xs.getD k 0 = x at *
    generalize ys.getD k 0 = y at *
    have ib1 : (k : Int) < (xs.length : Int) := by omega
    have ib2 : (k : Int) < (ys.length : Int) := by omega
    have ib3 : (0 : Int) ≤ (k : Int) := by omega
    by_cases he : x = y
    · obtain rfl := he
      go_wp2_with fail
      go_quiet (fail)
      go_wp2_with fail
      go_roundw
      case rel => exact ⟨k + 1, by omega, by go_num, hxr.drewN _, Lib.hid (HS.out (by first | rfl | trivial))⟩
      case measure => simp [intOf]; omega
    · have HE := Lib.hid (HD.out he)
      have hb : (x != y) = true := by rw [bne_iff_ne]; exact he
      clear he HD HS
      go_wp2_with fail
      go_quiet (fail)
      go_wp2_with fail
      go_ret
      exact ⟨ret_bool (decide_eq_false HE.out).symm, hxr.drewN _⟩
theorem refwords_any (A A2 : Option Addr) (cap cap2 : Nat) (xs ys : List Int) (W : World) (hlen : xs.length ≤ 9223372036854775807) (hlen2 : ys.length ≤ 9223372036854775807) (hl : WordsAt W A xs) (hl2 : WordsAt W A2 ys) :
    Calls Try.prog 34 #[.slice A xs.length cap, .slice A2 ys.length cap2] W fun e w' => e = .returned (.bool (decide (xs = ys))) ∧ Ext W w' := by
  have HL := Lib.hid hl
  have HL2 := Lib.hid hl2
  clear hl hl2
  by_cases hne : xs.length = ys.length
  rotate_left
  · have h1 : ((xs.length : Int) != (ys.length : Int)) = true := by rw [bne_iff_ne]; omega
    have h2 : decide (xs = ys) = false := by simp; intro e; subst e; exact hne rfl
    have HR := Lib.hid h2
    clear h2 hne
    go_enter Try.func34, Try.ntmps34
    go_wp2_with fail
    go_ret
    exact ⟨ret_bool (by rw [HR.out]), Ext.refl _⟩
  have HN := Lib.hid hne
  have h1 : ((xs.length : Int) != (ys.length : Int)) = false := by rw [← HN.out]; simp
  clear hne
  go_enter Try.func34, Try.ntmps34
  go_wp2_with fail
  go_loopw [5] (fun i wr => ∃ k : Nat, k ≤ xs.length ∧ i = .int .i64 k ∧ Ext W wr ∧ Hid (∀ i, i < k → xs.getD i 0 = ys.getD i 0)) (fun i _ => xs.length - (intOf i).toNat)
  case atStart => exact ⟨0, by omega, rfl, Ext.refl _, Lib.hid (by omega)⟩
  case round =>
    obtain ⟨k, hk, rfl, hxr, hq⟩ := hrel
    by_cases hlt : k < xs.length
    rotate_left
    · have HR := Lib.hid (same_ofD HN.out (fun i hi => hq.out i (by omega)))
      clear hq
      go_wp2_with fail
      go_ret
      exact ⟨ret_bool (by simp [HR.out]), hxr⟩
    have hlt2 : k < ys.length := by have := HN.out; omega
    obtain ⟨lb, off, rfl, hc⟩ := HL.out.get (by omega)
    obtain ⟨lb2, off2, rfl, hc2⟩ := HL2.out.get (by omega)
    have e1 := words_cell hc hlt
    have e3 := words_cell hc2 hlt2
    have c1 := hxr.cell e1
    have c3 := hxr.cell e3
    have HS := Lib.hid (fun (h : xs.getD k 0 = ys.getD k 0) => (fun i (hi : i < k + 1) => by
      rcases Nat.lt_or_ge i k with h' | h'
      · exact hq.out i h'
      · obtain rfl : i = k := by omega
        exact h : ∀ i, i < k + 1 → xs.getD i 0 = ys.getD i 0))
    have HD := Lib.hid (fun (h : xs.getD k 0 ≠ ys.getD k 0) => (fun e : xs = ys => h (by rw [e]) : xs ≠ ys))
    clear e1 e3 hc hc2 HL HL2 hq HN
    generalize xs.getD k 0 = x at *
    generalize ys.getD k 0 = y at *
    have ib1 : (k : Int) < (xs.length : Int) := by omega
    have ib2 : (k : Int) < (ys.length : Int) := by omega
    have ib3 : (0 : Int) ≤ (k : Int) := by omega
    by_cases he : x = y
    · obtain rfl := he
      go_wp2_with fail
      go_quiet (fail)
      go_wp2_with fail
      go_roundw
      case rel => exact ⟨k + 1, by omega, by go_num, hxr.drewN _, Lib.hid (HS.out (by first | rfl | trivial))⟩
      case measure => simp [intOf]; omega
    · have HE := Lib.hid (HD.out he)
      have hb : (x != y) = true := by rw [bne_iff_ne]; exact he
      clear he HD HS
      go_wp2_with fail
      go_quiet (fail)
      go_wp2_with fail
      go_ret
      exact ⟨ret_bool (decide_eq_false HE.out).symm, hxr.drewN _⟩
theorem equalV_any (A A2 : Option Addr) (cap cap2 : Nat) (xs ys : List (Int × Int)) (W : World) (hlen : xs.length ≤ 9223372036854775807) (hlen2 : ys.length ≤ 9223372036854775807) (hl : SpansAt W A xs) (hl2 : SpansAt W A2 ys) :
    Calls Try.prog 35 #[.slice A xs.length cap, .slice A2 ys.length cap2] W fun e w' => e = .returned (.bool (decide (xs = ys))) ∧ Ext W w' := by
  have HL := Lib.hid hl
  have HL2 := Lib.hid hl2
  clear hl hl2
  by_cases hne : xs.length = ys.length
  rotate_left
  · have h1 : ((xs.length : Int) != (ys.length : Int)) = true := by rw [bne_iff_ne]; omega
    have h2 : decide (xs = ys) = false := by simp; intro e; subst e; exact hne rfl
    have HR := Lib.hid h2
    clear h2 hne
    go_enter Try.func35, Try.ntmps35
    go_wp2_with fail
    go_ret
    exact ⟨ret_bool (by rw [HR.out]), Ext.refl _⟩
  have HN := Lib.hid hne
  have h1 : ((xs.length : Int) != (ys.length : Int)) = false := by rw [← HN.out]; simp
  clear hne
  go_enter Try.func35, Try.ntmps35
  go_wp2_with fail
  go_loopw [5, 13] (fun _ i wr => ∃ k : Nat, k ≤ xs.length ∧ i = .int .i64 k ∧ Ext W wr ∧ Hid (∀ i, i < k → xs.getD i (0, 0) = ys.getD i (0, 0))) (fun _ i _ => xs.length - (intOf i).toNat)
  case atStart => exact ⟨0, by omega, rfl, Ext.refl _, Lib.hid (by omega)⟩
  case round =>
    obtain ⟨k, hk, rfl, hxr, hq⟩ := hrel
    by_cases hlt : k < xs.length
    rotate_left
    · have HR := Lib.hid (same_ofD HN.out (fun i hi => hq.out i (by omega)))
      clear hq
      go_wp2_with fail
      go_ret
      exact ⟨ret_bool (by simp [HR.out]), hxr⟩
    have hlt2 : k < ys.length := by have := HN.out; omega
    obtain ⟨lb, off, rfl, hc⟩ := HL.out.get (by omega)
    obtain ⟨lb2, off2, rfl, hc2⟩ := HL2.out.get (by omega)
    obtain ⟨e1, e2⟩ := spans_cell hc hlt
    obtain ⟨e3, e4⟩ := spans_cell hc2 hlt2
    have c1 := hxr.cell e1
    have c2 := hxr.cell e2
    have c3 := hxr.cell e3
    have c4 := hxr.cell e4
    have HS := Lib.hid (fun (h : xs.getD k (0, 0) = ys.getD k (0, 0)) => (fun i (hi : i < k + 1) => by
      rcases Nat.lt_or_ge i k with h' | h'
      · exact hq.out i h'
      · obtain rfl : i = k := by omega
        exact h : ∀ i, i < k + 1 → xs.getD i (0, 0) = ys.getD i (0, 0)))
    have HD := Lib.hid (fun (h : xs.getD k (0, 0) ≠ ys.getD k (0, 0)) => (fun e : xs = ys => h (by rw [e]) : xs ≠ ys))
    clear e1 e2 e3 e4 hc hc2 HL HL2 hq HN
    generalize xs.getD k (0, 0) = x at *
    generalize ys.getD k (0, 0) = y at *
    obtain ⟨a, s⟩ := x
    obtain ⟨c, d⟩ := y
    simp only at c1 c2 c3 c4
    have ib1 : (k : Int) < (xs.length : Int) := by omega
    have ib2 : (k : Int) < (ys.length : Int) := by omega
    have ib3 : (0 : Int) ≤ (k : Int) := by omega
    by_cases he : a = c ∧ s = d
    · obtain ⟨rfl, rfl⟩ := he
      go_wp2_with fail
      go_quiet (fail)
      go_wp2_with fail
      go_roundw
      case rel => exact ⟨k + 1, by omega, by go_num, hxr.drewN _, Lib.hid (HS.out (by first | rfl | trivial))⟩
      case measure => simp [intOf]; omega
    · have HE := Lib.hid (HD.out (by intro e; injection e with e1 e2; exact he ⟨e1, e2⟩))
      have hb : (a == c) = false ∨ (a = c ∧ (s == d) = false) := by
        by_cases h1 : a = c
        · exact .inr ⟨h1, by rw [beq_eq_false_iff_ne]; exact fun h => he ⟨h1, h⟩⟩
        · exact .inl (by rw [beq_eq_false_iff_ne]; exact h1)
      clear he HD HS
      rcases hb with hb | ⟨rfl, hb⟩
      all_goals
        go_wp2_with fail
        go_quiet (fail)
        go_wp2_with fail
        go_ret
        exact ⟨ret_bool (decide_eq_false HE.out).symm, hxr.drewN _⟩
theorem equalU_any (A A2 : Option Addr) (cap cap2 : Nat) (xs ys : List Int) (W : World) (hlen : xs.length ≤ 9223372036854775807) (hlen2 : ys.length ≤ 9223372036854775807) (hl : WordsAt W A xs) (hl2 : WordsAt W A2 ys) :
    Calls Try.prog 38 #[.slice A xs.length cap, .slice A2 ys.length cap2] W fun e w' => e = .returned (.bool (decide (xs = ys))) ∧ Ext W w' := by
  have HL := Lib.hid hl
  have HL2 := Lib.hid hl2
  clear hl hl2
  by_cases hne : xs.length = ys.length
  rotate_left
  · have h1 : ((xs.length : Int) != (ys.length : Int)) = true := by rw [bne_iff_ne]; omega
    have h2 : decide (xs = ys) = false := by simp; intro e; subst e; exact hne rfl
    have HR := Lib.hid h2
    clear h2 hne
    go_enter Try.func38, Try.ntmps38
    go_wp2_with fail
    go_ret
    exact ⟨ret_bool (by rw [HR.out]), Ext.refl _⟩
  have HN := Lib.hid hne
  have h1 : ((xs.length : Int) != (ys.length : Int)) = false := by rw [← HN.out]; simp
  clear hne
  go_enter Try.func38, Try.ntmps38
  go_wp2_with fail
  go_loopw [5, 13] (fun _ i wr => ∃ k : Nat, k ≤ xs.length ∧ i = .int .i64 k ∧ Ext W wr ∧ Hid (∀ i, i < k → xs.getD i 0 = ys.getD i 0)) (fun _ i _ => xs.length - (intOf i).toNat)
  case atStart => exact ⟨0, by omega, rfl, Ext.refl _, Lib.hid (by omega)⟩
  case round =>
    obtain ⟨k, hk, rfl, hxr, hq⟩ := hrel
    by_cases hlt : k < xs.length
    rotate_left
    · have HR := Lib.hid (same_ofD HN.out (fun i hi => hq.out i (by omega)))
      clear hq
      go_wp2_with fail
      go_ret
      exact ⟨ret_bool (by simp [HR.out]), hxr⟩
    have hlt2 : k < ys.length := by have := HN.out; omega
    obtain ⟨lb, off, rfl, hc⟩ := HL.out.get (by omega)
    obtain ⟨lb2, off2, rfl, hc2⟩ := HL2.out.get (by omega)
    have e1 := words_cell hc hlt
    have e3 := words_cell hc2 hlt2
    have c1 := hxr.cell e1
    have c3 := hxr.cell e3
    have HS := Lib.hid (fun (h : xs.getD k 0 = ys.getD k 0) => (fun i (hi : i < k + 1) => by
      rcases Nat.lt_or_ge i k with h' | h'
      · exact hq.out i h'
      · obtain rfl : i = k := by omega
        exact h : ∀ i, i < k + 1 → xs.getD i 0 = ys.getD i 0))
    have HD := Lib.hid (fun (h : xs.getD k 0 ≠ ys.getD k 0) => (fun e : xs = ys => h (by rw [e]) : xs ≠ ys))
    clear e1 e3 hc hc2 HL HL2 hq HN
    generalize xs.getD k 0 = x at *
    generalize ys.getD k 0 = y at *
    have ib1 : (k : Int) < (xs.length : Int) := by omega
    have ib2 : (k : Int) < (ys.length : Int) := by omega
    have ib3 : (0 : Int) ≤ (k : Int) := by omega
    by_cases he : x = y
    · obtain rfl := he
      go_wp2_with fail
      go_quiet (fail)
      go_wp2_with fail
      go_roundw
      case rel => exact ⟨k + 1, by omega, by go_num, hxr.drewN _, Lib.hid (HS.out (by first | rfl | trivial))⟩
      case measure => simp [intOf]; omega
    · have HE := Lib.hid (HD.out he)
      have hb : (x != y) = true := by rw [bne_iff_ne]; exact he
      clear he HD HS
      go_wp2_with fail
      go_quiet (fail)
      go_wp2_with fail
      go_ret
      exact ⟨ret_bool (decide_eq_false HE.out).symm, hxr.drewN _⟩
theorem cloneV_any (A : Option Addr) (cap : Nat) (xs : List (Int × Int)) (W : World) (hlen : xs.length ≤ 8796093022208) (hl : RowAt 2 spanC W A xs) :
    Calls Try.prog 29 #[.slice A xs.length cap] W fun e w' => ∃ A1 cap1, e = .returned (.slice A1 xs.length cap1) ∧ Own 46 2 spanC w' W.heap.size (.slice A1 xs.length cap1) xs ∧ Ext W w' := by
  have HL := Lib.hid hl
  clear hl
  cases A with
  | none =>
    obtain rfl := row_none HL.out
    have he := fun w => Lib.run_eql_slice_nil (P := Try.prog) w 23 46 none 0 cap 0 0 Try.underlying23
    simp only [Option.isNone_none] at he
    simp only [List.length_nil]
    clear HL
    go_enter Try.func29, Try.ntmps29
    go_wp2_with fail
    go_ret
    exact ⟨none, 0, rfl, Own.nil _ _ _ _ _, Ext.refl _⟩
  | some ad =>
    have he := fun w => Lib.run_eql_slice_nil (P := Try.prog) w 23 46 (some ad) xs.length cap 0 0 Try.underlying23
    simp only [Option.isNone_some] at he
    go_enter Try.func29, Try.ntmps29
    go_wp2_with (at_builtin; refine wpList_app rfl (.tmp 5) (.tmp 6) 23 rfl valInfo spanCells rfl (by exact Own.empty 46 2 spanC W W.heap.size (Nat.le_refl _)) xs ad cap xs.length xs.length (by simp) rfl rfl (by exact RowAt.ext HL.out ((Ext.refl _).alloc _)) (by omega) (by simp [maxLen]; try omega) (by simp) ?_; intro A3 cap3 w3 hown3 hgr3 hat3; have HO3 := Lib.hid hown3; have hX3 : Ext W w3 := Own.below (Own.empty 46 2 spanC W W.heap.size (Nat.le_refl _)) ((Below.refl _ _).alloc (Nat.le_refl _) _) hgr3 (by simp); clear hown3 hgr3 hat3)
    go_ret
    exact ⟨A3, cap3, rfl, by simpa using HO3.out, hX3⟩
theorem cloneU_any (A : Option Addr) (cap : Nat) (xs : List Int) (W : World) (hlen : xs.length ≤ 17592186044416) (hl : RowAt 1 u64C W A xs) :
    Calls Try.prog 30 #[.slice A xs.length cap] W fun e w' => ∃ A1 cap1, e = .returned (.slice A1 xs.length cap1) ∧ Own 47 1 u64C w' W.heap.size (.slice A1 xs.length cap1) xs ∧ Ext W w' := by
  have HL := Lib.hid hl
  clear hl
  cases A with
  | none =>
    obtain rfl := row_none HL.out
    have he := fun w => Lib.run_eql_slice_nil (P := Try.prog) w 32 47 none 0 cap 0 0 Try.underlying32
    simp only [Option.isNone_none] at he
    simp only [List.length_nil]
    clear HL
    go_enter Try.func30, Try.ntmps30
    go_wp2_with fail
    go_ret
    exact ⟨none, 0, rfl, Own.nil _ _ _ _ _, Ext.refl _⟩
  | some ad =>
    have he := fun w => Lib.run_eql_slice_nil (P := Try.prog) w 32 47 (some ad) xs.length cap 0 0 Try.underlying32
    simp only [Option.isNone_some] at he
    go_enter Try.func30, Try.ntmps30
    go_wp2_with (at_builtin; refine wpList_app rfl (.tmp 5) (.tmp 6) 32 rfl u64Info u64Cells rfl (by exact Own.empty 47 1 u64C W W.heap.size (Nat.le_refl _)) xs ad cap xs.length xs.length (by simp) rfl rfl (by exact RowAt.ext HL.out ((Ext.refl _).alloc _)) (by omega) (by simp [maxLen]; try omega) (by simp) ?_; intro A3 cap3 w3 hown3 hgr3 hat3; have HO3 := Lib.hid hown3; have hX3 : Ext W w3 := Own.below (Own.empty 47 1 u64C W W.heap.size (Nat.le_refl _)) ((Below.refl _ _).alloc (Nat.le_refl _) _) hgr3 (by simp); clear hown3 hgr3 hat3)
    go_ret
    exact ⟨A3, cap3, rfl, by simpa using HO3.out, hX3⟩
theorem cloneN_any (A : Option Addr) (cap : Nat) (xs : List NodeD) (W : World) (hlen : xs.length ≤ 2513169434843) (hl : RowAt 3 nodeC W A xs) :
    Calls Try.prog 39 #[.slice A xs.length cap] W fun e w' => ∃ A1 cap1, e = .returned (.slice A1 xs.length cap1) ∧ Own 34 3 nodeC w' W.heap.size (.slice A1 xs.length cap1) xs ∧ Ext W w' := by
  have HL := Lib.hid hl
  clear hl
  cases A with
  | none =>
    obtain rfl := row_none HL.out
    have he := fun w => Lib.run_eql_slice_nil (P := Try.prog) w 22 34 none 0 cap 0 0 Try.underlying22
    simp only [Option.isNone_none] at he
    simp only [List.length_nil]
    clear HL
    go_enter Try.func39, Try.ntmps39
    go_wp2_with fail
    go_ret
    exact ⟨none, 0, rfl, Own.nil _ _ _ _ _, Ext.refl _⟩
  | some ad =>
    have he := fun w => Lib.run_eql_slice_nil (P := Try.prog) w 22 34 (some ad) xs.length cap 0 0 Try.underlying22
    simp only [Option.isNone_some] at he
    go_enter Try.func39, Try.ntmps39
    go_wp2_with (at_builtin; refine wpList_app rfl (.tmp 5) (.tmp 6) 22 rfl nodeInfo nodeCells rfl (by exact Own.empty 34 3 nodeC W W.heap.size (Nat.le_refl _)) xs ad cap xs.length xs.length (by simp) rfl rfl (by exact RowAt.ext HL.out ((Ext.refl _).alloc _)) (by omega) (by simp [maxLen]; try omega) (by simp) ?_; intro A3 cap3 w3 hown3 hgr3 hat3; have HO3 := Lib.hid hown3; have hX3 : Ext W w3 := Own.below (Own.empty 34 3 nodeC W W.heap.size (Nat.le_refl _)) ((Below.refl _ _).alloc (Nat.le_refl _) _) hgr3 (by simp); clear hown3 hgr3 hat3)
    go_ret
    exact ⟨A3, cap3, rfl, by simpa using HO3.out, hX3⟩
end Go.Proofs.Ytidfibheehcdgaa
