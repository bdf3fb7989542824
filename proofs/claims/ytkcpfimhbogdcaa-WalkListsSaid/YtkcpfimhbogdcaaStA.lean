/- Is a number among some: slices.Index, Contains, walk.Starts, and the references' Starts and Ints. -/
import Derived.Test.YtkcpfimhbogdcaaWkC
set_option linter.unusedSimpArgs false
set_option linter.unusedVariables false
namespace Go.Proofs.Ytkcpfimhbogdcaa
open Go.RowKit Go.Shelf

theorem same_ofD {α : Type} {d : α} {xs ys : List α} (hl : xs.length = ys.length) (h : ∀ i, i < xs.length → xs.getD i d = ys.getD i d) : xs = ys := by
  refine List.ext_getElem hl fun i h1 h2 => ?_
  have := h i h1
  simpa [List.getElem?_eq_getElem h1, List.getElem?_eq_getElem h2] using this
set_option maxRecDepth 100000
set_option maxHeartbeats 4000000
theorem ints_any (A A2 : Option Addr) (cap cap2 : Nat) (xs ys : List Int) (W : World) (hlen : xs.length ≤ 9223372036854775807) (hlen2 : ys.length ≤ 9223372036854775807) (hl : IntsAt W A xs) (hl2 : IntsAt W A2 ys) :
    Calls Try.prog 21 #[.slice A xs.length cap, .slice A2 ys.length cap2] W fun e w' => e = .returned (.bool (decide (xs = ys))) ∧ Ext W w' := by
  have HL := Lib.hid hl
  have HL2 := Lib.hid hl2
  clear hl hl2
  by_cases hne : xs.length = ys.length
  rotate_left
  · have h1 : ((xs.length : Int) != (ys.length : Int)) = true := by rw [bne_iff_ne]; omega
    have h2 : decide (xs = ys) = false := by simp; intro e; subst e; exact hne rfl
    have HR := Lib.hid h2
    clear h2 hne
    go_enter Try.func21, Try.ntmps21
    go_wp2_with fail
    go_ret
    exact ⟨ret_bool (by rw [HR.out]), Ext.refl _⟩
  have HN := Lib.hid hne
  have h1 : ((xs.length : Int) != (ys.length : Int)) = false := by rw [← HN.out]; simp
  clear hne
  go_enter Try.func21, Try.ntmps21
  go_wp2_with fail
  go_loopw [5] (fun i wr => ∃ k : Nat, k ≤ xs.length ∧ i = .int .i64 k ∧ Ext W wr ∧ Hid (∀ i, i < k → xs.getD i 0 = ys.getD i 0)) (fun i _ => xs.length - (intOf i).toNat)
  case atStart => exact ⟨0, by omega, rfl, Ext.refl _, Lib.hid (by omega)⟩
  case round =>
    obtain ⟨k, hk, rfl, hxr, hq⟩ := hrel
    by_cases hlt : k < xs.length
    rotate_left
    · have HR := Lib.hid (same_ofD HN.out (fun i hi => hq.out i (by omega)))
      clear hq
      go_wp2_with fail
      go_ret
      exact ⟨ret_bool (by simp [HR.out]), hxr⟩
    have hlt2 : k < ys.length := by have := HN.out; omega
    obtain ⟨lb, off, rfl, hc⟩ := HL.out.get (by omega)
    obtain ⟨lb2, off2, rfl, hc2⟩ := HL2.out.get (by omega)
    have e1 := ints_cell hc hlt
    have e3 := ints_cell hc2 hlt2
    have c1 := hxr.cell e1
    have c3 := hxr.cell e3
    have HS := Lib.hid (fun (h : xs.getD k 0 = ys.getD k 0) => (fun i (hi : i < k + 1) => by
      rcases Nat.lt_or_ge i k with h' | h'
      · exact hq.out i h'
      · obtain rfl : i = k := by omega
        exact h : ∀ i, i < k + 1 → xs.getD i 0 = ys.getD i 0))
    have HD := Lib.hid (fun (h : xs.getD k 0 ≠ ys.getD k 0) => (fun e : xs = ys => h (by rw [e]) : xs ≠ ys))
    clear e1 e3 hc hc2 HL HL2 hq HN
    generalize xs.getD k 0 = x at *
    generalize ys.getD k 0 = y at *
    have ib1 : (k : Int) < (xs.length : Int) := by omega
    have ib2 : (k : Int) < (ys.length : Int) := by omega
    have ib3 : (0 : Int) ≤ (k : Int) := by omega
    by_cases he : x = y
    · obtain rfl := he
      go_wp2_with fail
      go_quiet (fail)
      go_wp2_with fail
      go_roundw
      case rel => exact ⟨k + 1, by omega, by go_num, hxr.drewN _, Lib.hid (HS.out (by first | rfl | trivial))⟩
      case measure => simp [intOf]; omega
    · have HE := Lib.hid (HD.out he)
      have hb : (x != y) = true := by rw [bne_iff_ne]; exact he
      clear he HD HS
      go_wp2_with fail
      go_quiet (fail)
      go_wp2_with fail
      go_ret
      exact ⟨ret_bool (decide_eq_false HE.out).symm, hxr.drewN _⟩
/-- A number stands in a row, or in none of its places. -/
theorem mem_at {zs : List Int} {k : Nat} (hk : k < zs.length) {v : Int} (h : v = zs.getD k 0) : decide (v ∈ zs) = true := by
  rw [decide_eq_true_eq, h, List.getD_eq_getElem?_getD, List.getElem?_eq_getElem hk]
  exact List.getElem_mem hk
theorem mem_none {zs : List Int} {v : Int} (h : ∀ i, i < zs.length → v ≠ zs.getD i 0) : decide (v ∈ zs) = false := by
  rw [decide_eq_false_iff_not]
  intro hm
  obtain ⟨i, hi, he⟩ := List.getElem_of_mem hm
  exact h i hi (by rw [List.getD_eq_getElem?_getD, List.getElem?_eq_getElem hi]; exact he.symm)
theorem indexI_any (A : Option Addr) (cap : Nat) (zs : List Int) (v : Int) (W : World) (hlen : zs.length ≤ 9223372036854775807) (hl : IntsAt W A zs) :
    Calls Try.prog 124 #[.slice A zs.length cap, .int .i64 v] W fun e w' => (∃ r : Int, e = .returned (.int .i64 r) ∧ decide (0 ≤ r) = decide (v ∈ zs)) ∧ Ext W w' := by
  have HL := Lib.hid hl
  clear hl
  go_enter Try.func124, Try.ntmps124
  go_wp2_with fail
  go_loopw [5, 8] (fun _ i wr => ∃ k : Nat, k ≤ zs.length ∧ i = .int .i64 k ∧ Ext W wr ∧ Hid (∀ i, i < k → v ≠ zs.getD i 0)) (fun _ i _ => zs.length - (intOf i).toNat)
  case atStart => exact ⟨0, by omega, rfl, Ext.refl _, Lib.hid (by omega)⟩
  case round =>
    obtain ⟨k, hk, rfl, hxr, hq⟩ := hrel
    by_cases hlt : k < zs.length
    rotate_left
    · have HR := Lib.hid (mem_none fun i hi => hq.out i (by omega))
      clear hq
      go_wp2_with fail
      go_ret
      exact ⟨⟨-1, rfl, by rw [HR.out]; rfl⟩, hxr⟩
    obtain ⟨lb, off, rfl, hc⟩ := HL.out.get (by omega)
    have c1 := hxr.cell (ints_cell hc hlt)
    have HS := Lib.hid (fun (h : v ≠ zs.getD k 0) => (fun i (hi : i < k + 1) => by
      rcases Nat.lt_or_ge i k with h' | h'
      · exact hq.out i h'
      · obtain rfl : i = k := by omega
        exact h : ∀ i, i < k + 1 → v ≠ zs.getD i 0))
    have HD := Lib.hid (fun (h : v = zs.getD k 0) => mem_at hlt h)
    clear hc HL hq
    generalize zs.getD k 0 = x at *
    have ib1 : (k : Int) < (zs.length : Int) := by omega
    by_cases he : v = x
    · have HE := Lib.hid (HD.out he)
      have hb : (v == x) = true := by rw [beq_iff_eq]; exact he
      clear he HD HS
      go_wp2_with fail
      go_ret
      exact ⟨⟨k, rfl, by rw [HE.out]; simp⟩, hxr⟩
    · have hb : (v == x) = false := by rw [beq_eq_false_iff_ne]; exact he
      have HE := Lib.hid (HS.out he)
      clear he HD HS
      go_wp2_with fail
      go_roundw
      case rel => exact ⟨k + 1, by omega, by go_num, hxr, HE⟩
      case measure => simp [intOf]; omega
theorem containsI_any (A : Option Addr) (cap : Nat) (zs : List Int) (v : Int) (W : World) (hlen : zs.length ≤ 9223372036854775807) (hl : IntsAt W A zs) :
    Calls Try.prog 71 #[.slice A zs.length cap, .int .i64 v] W fun e w' => e = .returned (.bool (decide (v ∈ zs))) ∧ Ext W w' := by
  have HL := Lib.hid hl
  clear hl
  go_enter Try.func71, Try.ntmps71
  go_wp2_with fail
  refine (indexI_any A cap zs v W hlen HL.out).mono ?_
  rintro e w1 ⟨⟨r, rfl, hr⟩, hx⟩
  have HR := Lib.hid hr
  clear hr
  go_wp2_with fail
  go_ret
  exact ⟨ret_bool HR.out, hx⟩
theorem starts_any (A : Option Addr) (cap : Nat) (zs : List Int) (v : Int) (W : World) (hlen : zs.length ≤ 9223372036854775807) (hl : IntsAt W A zs) :
    Calls Try.prog 22 #[.slice A zs.length cap, .int .i64 v] W fun e w' => e = .returned (.bool (decide (v ∈ zs))) ∧ Ext W w' := by
  have HL := Lib.hid hl
  clear hl
  go_enter Try.func22, Try.ntmps22
  go_wp2_with fail
  refine (containsI_any A cap zs v W hlen HL.out).mono ?_
  rintro e w1 ⟨rfl, hx⟩
  go_wp2_with fail
  go_ret
  exact ⟨rfl, hx⟩
theorem refstarts_any (A : Option Addr) (cap : Nat) (zs : List Int) (v : Int) (W : World) (hlen : zs.length ≤ 9223372036854775807) (hl : IntsAt W A zs) :
    Calls Try.prog 23 #[.slice A zs.length cap, .int .i64 v] W fun e w' => e = .returned (.bool (decide (v ∈ zs))) ∧ Ext W w' := by
  have HL := Lib.hid hl
  clear hl
  go_enter Try.func23, Try.ntmps23
  go_wp2_with fail
  go_loopw [5] (fun i wr => ∃ k : Nat, k ≤ zs.length ∧ i = .int .i64 k ∧ Ext W wr ∧ Hid (∀ i, i < k → v ≠ zs.getD i 0)) (fun i _ => zs.length - (intOf i).toNat)
  case atStart => exact ⟨0, by omega, rfl, Ext.refl _, Lib.hid (by omega)⟩
  case round =>
    obtain ⟨k, hk, rfl, hxr, hq⟩ := hrel
    by_cases hlt : k < zs.length
    rotate_left
    · have HR := Lib.hid (mem_none fun i hi => hq.out i (by omega))
      clear hq
      go_wp2_with fail
      go_ret
      exact ⟨ret_bool HR.out.symm, hxr⟩
    obtain ⟨lb, off, rfl, hc⟩ := HL.out.get (by omega)
    have c1 := hxr.cell (ints_cell hc hlt)
    have HS := Lib.hid (fun (h : v ≠ zs.getD k 0) => (fun i (hi : i < k + 1) => by
      rcases Nat.lt_or_ge i k with h' | h'
      · exact hq.out i h'
      · obtain rfl : i = k := by omega
        exact h : ∀ i, i < k + 1 → v ≠ zs.getD i 0))
    have HD := Lib.hid (fun (h : v = zs.getD k 0) => mem_at hlt h)
    clear hc HL hq
    generalize zs.getD k 0 = x at *
    have ib1 : (k : Int) < (zs.length : Int) := by omega
    by_cases he : v = x
    · have HE := Lib.hid (HD.out he)
      have hb : (x == v) = true := by rw [beq_iff_eq]; exact he.symm
      clear he HD HS
      go_wp2_with fail
      go_ret
      exact ⟨ret_bool HE.out.symm, hxr⟩
    · have hb : (x == v) = false := by rw [beq_eq_false_iff_ne]; exact fun h => he h.symm
      have HE := Lib.hid (HS.out he)
      clear he HD HS
      go_wp2_with fail
      go_roundw
      case rel => exact ⟨k + 1, by omega, by go_num, hxr, HE⟩
      case measure => simp [intOf]; omega
end Go.Proofs.Ytkcpfimhbogdcaa
