/- slices.Equal, IndexFunc and ContainsFunc at spans; extent.Largest and its reference. -/
import Derived.Test.YtllcekmbcmhckaaExtA
import Derived.Shelf.Abstract
set_option linter.unusedSimpArgs false
set_option linter.unusedVariables false
namespace Go.Proofs.Ytllcekmbcmhckaa
open Go.RowKit Go.Shelf

set_option maxRecDepth 100000 in
set_option maxHeartbeats 4000000 in
theorem equal_any (A A2 : Option Addr) (cap cap2 : Nat) (xs ys : List (Int × Int)) (W : World) (hlen : xs.length ≤ 9223372036854775807) (hlen2 : ys.length ≤ 9223372036854775807) (hl : SpansAt W A xs) (hl2 : SpansAt W A2 ys) :
    Calls Try.prog 68 #[.slice A xs.length cap, .slice A2 ys.length cap2] W fun e w' => e = .returned (.bool (decide (xs = ys))) ∧ Ext W w' := by
  have HL := Lib.hid hl
  have HL2 := Lib.hid hl2
  clear hl hl2
  by_cases hne : xs.length = ys.length
  rotate_left
  · have h1 : ((xs.length : Int) != (ys.length : Int)) = true := by rw [bne_iff_ne]; omega
    have h2 : decide (xs = ys) = false := by simp; intro e; subst e; exact hne rfl
    have HR := Lib.hid h2
    clear h2 hne
    go_enter Try.func68, Try.ntmps68
    go_wp2_with fail
    go_ret
    exact ⟨ret_bool (by rw [HR.out]), Ext.refl _⟩
  have HN := Lib.hid hne
  have h1 : ((xs.length : Int) != (ys.length : Int)) = false := by rw [← HN.out]; simp
  clear hne
  go_enter Try.func68, Try.ntmps68
  go_wp2_with fail
  go_loopw [5, 13] (fun _ i wr => ∃ k : Nat, k ≤ xs.length ∧ i = .int .i64 k ∧ Ext W wr ∧ Hid (∀ i, i < k → xs.getD i (0, 0) = ys.getD i (0, 0))) (fun _ i _ => xs.length - (intOf i).toNat)
  case atStart => exact ⟨0, by omega, rfl, Ext.refl _, Lib.hid (by omega)⟩
  case round =>
    obtain ⟨k, hk, rfl, hxr, hq⟩ := hrel
    by_cases hlt : k < xs.length
    rotate_left
    · have HR := Lib.hid (same_of HN.out (fun i hi => hq.out i (by omega)))
      clear hq
      go_wp2_with fail
      go_ret
      exact ⟨ret_bool (by simp [HR.out]), hxr⟩
    have hlt2 : k < ys.length := by have := HN.out; omega
    obtain ⟨lb, off, rfl, hc⟩ := HL.out.get (by omega)
    obtain ⟨lb2, off2, rfl, hc2⟩ := HL2.out.get (by omega)
    obtain ⟨e1, e2⟩ := spans_cell hc hlt
    obtain ⟨e3, e4⟩ := spans_cell hc2 hlt2
    have c1 := hxr.cell e1
    have c2 := hxr.cell e2
    have c3 := hxr.cell e3
    have c4 := hxr.cell e4
    have HS := Lib.hid (fun (h : xs.getD k (0, 0) = ys.getD k (0, 0)) => (fun i (hi : i < k + 1) => by
      rcases Nat.lt_or_ge i k with h' | h'
      · exact hq.out i h'
      · obtain rfl : i = k := by omega
        exact h : ∀ i, i < k + 1 → xs.getD i (0, 0) = ys.getD i (0, 0)))
    have HD := Lib.hid (fun (h : xs.getD k (0, 0) ≠ ys.getD k (0, 0)) => (fun e : xs = ys => h (by rw [e]) : xs ≠ ys))
    clear e1 e2 e3 e4 hc hc2 HL HL2 hq HN
    generalize xs.getD k (0, 0) = x at *
    generalize ys.getD k (0, 0) = y at *
    obtain ⟨a, s⟩ := x
    obtain ⟨c, d⟩ := y
    simp only at c1 c2 c3 c4
    have ib1 : (k : Int) < (xs.length : Int) := by omega
    have ib2 : (k : Int) < (ys.length : Int) := by omega
    have ib3 : (0 : Int) ≤ (k : Int) := by omega
    by_cases he : a = c ∧ s = d
    · obtain ⟨rfl, rfl⟩ := he
      go_wp2_with fail
      go_quiet (fail)
      go_wp2_with fail
      go_roundw
      case rel => exact ⟨k + 1, by omega, by go_num, hxr.drewN _, Lib.hid (HS.out (by first | rfl | trivial))⟩
      case measure => simp [intOf]; omega
    · have HE := Lib.hid (HD.out (by intro e; injection e with e1 e2; exact he ⟨e1, e2⟩))
      have hb : (a == c) = false ∨ (a = c ∧ (s == d) = false) := by
        by_cases h1 : a = c
        · exact .inr ⟨h1, by rw [beq_eq_false_iff_ne]; exact fun h => he ⟨h1, h⟩⟩
        · exact .inl (by rw [beq_eq_false_iff_ne]; exact h1)
      clear he HD HS
      rcases hb with hb | ⟨rfl, hb⟩
      all_goals
        go_wp2_with fail
        go_quiet (fail)
        go_wp2_with fail
        go_ret
        exact ⟨ret_bool (decide_eq_false HE.out).symm, hxr.drewN _⟩

/-- The first place at which something is told. -/
def idxZ (p : Int × Int → Bool) (xs : List (Int × Int)) : Int := match xs.findIdx? p with
  | some i => i
  | none => -1
theorem idx_hit {p : Int × Int → Bool} {xs : List (Int × Int)} {k : Nat} (hk : k < xs.length) (h : p (xs.getD k (0, 0)) = true) (hq : ∀ i, i < k → p (xs.getD i (0, 0)) = false) : idxZ p xs = k := by
  have : xs.findIdx? p = some k := by
    rw [List.findIdx?_eq_some_iff_getElem]
    refine ⟨hk, by simpa [List.getElem?_eq_getElem hk] using h, fun j hj => ?_⟩
    have := hq j hj
    simpa [List.getElem?_eq_getElem (show j < xs.length by omega)] using this
  simp [idxZ, this]
theorem idx_miss {p : Int × Int → Bool} {xs : List (Int × Int)} (hq : ∀ i, i < xs.length → p (xs.getD i (0, 0)) = false) : idxZ p xs = -1 := by
  have : xs.findIdx? p = none := by
    rw [List.findIdx?_eq_none_iff]
    intro x hx
    obtain ⟨i, hi, rfl⟩ := List.getElem_of_mem hx
    simpa [List.getElem?_eq_getElem hi] using hq i hi
  simp [idxZ, this]
/-- Which way the first place is: there is one, or none. -/
theorem idx_cases (p : Int × Int → Bool) (xs : List (Int × Int)) : (idxZ p xs = -1 ∧ ∀ x ∈ xs, p x = false) ∨ ∃ k : Nat, k < xs.length ∧ idxZ p xs = k ∧ p (xs.getD k (0, 0)) = true ∧ ∀ i, i < k → p (xs.getD i (0, 0)) = false := by
  cases h : xs.findIdx? p with
  | none => exact .inl ⟨by simp [idxZ, h], List.findIdx?_eq_none_iff.1 h⟩
  | some k =>
    obtain ⟨hk, h1, h2⟩ := List.findIdx?_eq_some_iff_getElem.1 h
    refine .inr ⟨k, hk, by simp [idxZ, h], by simpa [List.getElem?_eq_getElem hk] using h1, fun i hi => ?_⟩
    have := h2 i hi
    simpa [List.getElem?_eq_getElem (show i < xs.length by omega)] using this
theorem idx_any (p : Int × Int → Bool) (xs : List (Int × Int)) : decide (0 ≤ idxZ p xs) = xs.any p := by
  rw [Bool.eq_iff_iff, List.any_eq_true]
  rcases idx_cases p xs with ⟨h, hq⟩ | ⟨k, hk, h, h1, _⟩
  · rw [h]
    refine ⟨fun h => by simp at h, fun ⟨x, hx, hp⟩ => by rw [hq x hx] at hp; cases hp⟩
  · rw [h]
    refine ⟨fun _ => ⟨xs[k], List.getElem_mem hk, by simpa [List.getElem?_eq_getElem hk] using h1⟩, fun _ => by simp⟩

/-- A function of a span that tells, in every world that has grown. -/
def Tells (g : Nat) (lb : Array Value) (p : Int × Int → Bool) (V : World) : Prop :=
  ∀ W (x : Int × Int), Ext V W → Calls Try.prog g (#[.agg #[.int .i64 (x.1), .int .i64 (x.2)]] ++ lb) W fun e w' => e = .returned (.bool (p x)) ∧ Ext W w'

set_option maxRecDepth 100000 in
set_option maxHeartbeats 4000000 in
theorem indexFunc_any (p : Int × Int → Bool) (g : Nat) (lb : Array Value) (eg : ∀ args w, (callFunc g args).run Try.prog w = .ok (.enter g args) w) (A : Option Addr) (cap : Nat) (xs : List (Int × Int)) (V : World) (hp : Tells g lb p V)
    (hlen : xs.length ≤ 9223372036854775807) (hl : SpansAt V A xs) :
    Calls Try.prog 69 #[.slice A xs.length cap, .func (.func g) #[] lb] V fun e w' => e = .returned (.int .i64 (idxZ p xs)) ∧ Ext V w' := by
  have HL := Lib.hid hl
  have HP := Lib.hid hp
  clear hl hp
  go_enter Try.func69, Try.ntmps69
  go_wp2_with fail
  go_loopw [5, 8] (fun _ i wr => ∃ k : Nat, k ≤ xs.length ∧ i = .int .i64 k ∧ Ext V wr ∧ Hid (∀ i, i < k → p (xs.getD i (0, 0)) = false)) (fun _ i _ => xs.length - (intOf i).toNat)
  case atStart => exact ⟨0, by omega, rfl, Ext.refl _, Lib.hid (by omega)⟩
  case round =>
    obtain ⟨k, hk, rfl, hxr, hq⟩ := hrel
    by_cases hlt : k < xs.length
    rotate_left
    · have HR := Lib.hid (idx_miss (p := p) (xs := xs) (fun i hi => hq.out i (by omega)))
      clear hq
      go_wp2_with fail
      go_ret
      exact ⟨ret_int (by rw [HR.out]), hxr⟩
    obtain ⟨lb', off, rfl, hc⟩ := HL.out.get (by omega)
    obtain ⟨e1, e2⟩ := spans_cell hc hlt
    have c1 := hxr.cell e1
    have c2 := hxr.cell e2
    have ib1 : (k : Int) < (xs.length : Int) := by omega
    have hcall := HP.out wr (xs.getD k (0, 0)) hxr
    clear e1 e2 hc HL HP
    cases hh : p (xs.getD k (0, 0))
    · have HQ : Hid (∀ i, i < k + 1 → p (xs.getD i (0, 0)) = false) := Lib.hid (fun i hi => by
        rcases Nat.lt_or_ge i k with h' | h'
        · exact hq.out i h'
        · obtain rfl : i = k := by omega
          exact hh)
      rw [hh] at hcall
      have HC := Lib.hid hcall
      clear hcall hh hq
      generalize xs.getD k (0, 0) = x at *
      obtain ⟨x1, x2⟩ := x
      simp only at c1 c2
      go_wp2_with (go_at_fn g; refine HC.out.mono ?_; rintro e w1 ⟨rfl, hx1⟩; replace hxr := hxr.trans hx1)
      go_roundw
      case rel => exact ⟨k + 1, by omega, by go_num, hxr, HQ⟩
      case measure => simp [intOf]; omega
    · have HQ := Lib.hid (idx_hit hlt hh hq.out)
      rw [hh] at hcall
      have HC := Lib.hid hcall
      clear hcall hh hq
      generalize xs.getD k (0, 0) = x at *
      obtain ⟨x1, x2⟩ := x
      simp only at c1 c2
      go_wp2_with (go_at_fn g; refine HC.out.mono ?_; rintro e w1 ⟨rfl, hx1⟩; replace hxr := hxr.trans hx1)
      go_ret
      exact ⟨ret_int (by rw [HQ.out]), hxr⟩
set_option maxRecDepth 100000 in
set_option maxHeartbeats 1000000 in
theorem containsFunc_any (p : Int × Int → Bool) (g : Nat) (lb : Array Value) (eg : ∀ args w, (callFunc g args).run Try.prog w = .ok (.enter g args) w) (A : Option Addr) (cap : Nat) (xs : List (Int × Int)) (V : World) (hp : Tells g lb p V)
    (hlen : xs.length ≤ 9223372036854775807) (hl : SpansAt V A xs) :
    Calls Try.prog 72 #[.slice A xs.length cap, .func (.func g) #[] lb] V fun e w' => e = .returned (.bool (xs.any p)) ∧ Ext V w' := by
  rw [← idx_any]
  have HL := Lib.hid hl
  have HP := Lib.hid hp
  clear hl hp
  go_enter Try.func72, Try.ntmps72
  go_wp2_with fail
  refine (indexFunc_any p g lb eg A cap xs _ HP.out hlen HL.out).mono ?_
  rintro e w1 ⟨rfl, hx⟩
  go_wp2_with fail
  go_ret
  exact ⟨rfl, hx⟩
end Go.Proofs.Ytllcekmbcmhckaa
