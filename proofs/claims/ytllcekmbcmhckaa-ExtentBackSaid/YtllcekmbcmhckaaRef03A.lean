/- The walks of the reference of layer 3 that only read. -/
import Derived.Test.YtllcekmbcmhckaaSpanA
set_option linter.unusedSimpArgs false
set_option linter.unusedVariables false
namespace Go.Proofs.Ytllcekmbcmhckaa
open Go.RowKit

theorem w64 (n : Int) (h : -9223372036854775808 ≤ n ∧ n ≤ 9223372036854775807) : wrap64 n = n := IntWalk.wrap64_in n ⟨by omega, by omega⟩

set_option maxHeartbeats 400000 in
theorem refhas_any (a s p : Int) (w : World) :
    Calls Try.prog 16 #[.agg #[.int .i64 (a), .int .i64 (s)], .int .i64 p] w fun e w' => e = .returned (.bool (hasB a s p)) ∧ Ext w w' := by
  by_cases hb : mayB a s = true
  · obtain ⟨h1, h2, h3, h4⟩ := may_bd hb
    go_enter Try.func16, Try.ntmps16
    go_wp2_with (go_at_call 14; refine (refmay_any _ _ _).mono ?_; rintro e w1 ⟨rfl, hx⟩; obtain ⟨hcc, hff, hzz⟩ := ecell hx; (try simp only [World.size_alloc] at hzz); (try (have hz0 := Nat.lt_of_succ_le hzz)); (try (have hz1 := Nat.lt_of_succ_lt hz0)); (try (have hz2 := Nat.lt_of_succ_lt hz1)); (try (have hz3 := Nat.lt_of_succ_lt hz2)))
    all_goals go_ret
    all_goals exact ⟨ret_bool (by unfold hasB; rw [Bool.eq_iff_iff]; simp [*]; try omega), (by repeat (first | (with_reducible exact Ext.refl _) | (with_reducible assumption) | (with_reducible refine Ext.drew ?_) | (with_reducible refine Ext.alloc ?_ _) | ((with_reducible refine Ext.setCell ?_ ?_ _); rotate_left; (focus (simp; try omega))) | (with_reducible refine Ext.trans ?_ (by assumption))))⟩
  · have hb' : mayB a s = false := by simpa using hb
    go_enter Try.func16, Try.ntmps16
    go_wp2_with (go_at_call 14; refine (refmay_any _ _ _).mono ?_; rintro e w1 ⟨rfl, hx⟩; obtain ⟨hcc, hff, hzz⟩ := ecell hx; (try simp only [World.size_alloc] at hzz); (try (have hz0 := Nat.lt_of_succ_le hzz)); (try (have hz1 := Nat.lt_of_succ_lt hz0)); (try (have hz2 := Nat.lt_of_succ_lt hz1)); (try (have hz3 := Nat.lt_of_succ_lt hz2)))
    go_ret
    exact ⟨ret_bool (by unfold hasB; simp [hb']), (by repeat (first | (with_reducible exact Ext.refl _) | (with_reducible assumption) | (with_reducible refine Ext.drew ?_) | (with_reducible refine Ext.alloc ?_ _) | ((with_reducible refine Ext.setCell ?_ ?_ _); rotate_left; (focus (simp; try omega))) | (with_reducible refine Ext.trans ?_ (by assumption))))⟩

def meetsB (a s c d : Int) : Bool := mayB a s && mayB c d && (hasB a s c || hasB c d a)

set_option maxHeartbeats 400000 in
theorem refmeets_any (a s c d : Int) (w : World) :
    Calls Try.prog 18 #[.agg #[.int .i64 (a), .int .i64 (s)], .agg #[.int .i64 (c), .int .i64 (d)]] w fun e w' => e = .returned (.bool (meetsB a s c d)) ∧ Ext w w' := by
  go_enter Try.func18, Try.ntmps18
  go_wp2_with fail
  have hW : Ext w ((w.alloc (.cells #[.int .i64 a, .int .i64 s] 23)).alloc (.cells #[.int .i64 c, .int .i64 d] 23)) := ((Ext.refl w).alloc _).alloc _
  have k0 := boxed w #[.int .i64 a, .int .i64 s] 23 0 _ rfl
  have k1 := boxed w #[.int .i64 a, .int .i64 s] 23 1 _ rfl
  have k2 := boxed (w.alloc (.cells #[.int .i64 a, .int .i64 s] 23)) #[.int .i64 c, .int .i64 d] 23 0 _ rfl
  have k3 := boxed (w.alloc (.cells #[.int .i64 a, .int .i64 s] 23)) #[.int .i64 c, .int .i64 d] 23 1 _ rfl
  replace k0 : ∀ w', Ext ((w.alloc (.cells #[.int .i64 a, .int .i64 s] 23)).alloc (.cells #[.int .i64 c, .int .i64 d] 23)) w' → _ := fun w' h => k0 w' (((Ext.refl _).alloc _).trans h)
  replace k1 : ∀ w', Ext ((w.alloc (.cells #[.int .i64 a, .int .i64 s] 23)).alloc (.cells #[.int .i64 c, .int .i64 d] 23)) w' → _ := fun w' h => k1 w' (((Ext.refl _).alloc _).trans h)
  simp only [World.size_alloc] at k2 k3
  generalize (w.alloc (.cells #[.int .i64 a, .int .i64 s] 23)).alloc (.cells #[.int .i64 c, .int .i64 d] 23) = W at *
  have hs0 : Ext W W := Ext.refl W
  cases h1 : mayB a s <;> cases h2 : mayB c d <;> cases h3 : hasB a s c
  all_goals go_wp2_with (first | (go_at_call 14; refine (refmay_any _ _ _).mono ?_; rintro e w1 ⟨rfl, hx0⟩; have hx := Ext.trans (a := W) (by with_reducible assumption) hx0; clear hx0) | (go_at_call 16; refine (refhas_any _ _ _ _).mono ?_; rintro e w1 ⟨rfl, hx0⟩; have hx := Ext.trans (a := W) (by with_reducible assumption) hx0; clear hx0))
  all_goals go_ret
  all_goals exact ⟨ret_bool (by unfold meetsB; simp [*]), hW.trans (by assumption)⟩

/-- Each may be, and none meets an earlier one. -/
def apartB (xs : List (Int × Int)) : Bool := decide (∀ i, i < xs.length → mayB (xs.getD i (0, 0)).1 (xs.getD i (0, 0)).2 = true ∧
  ∀ k, k < i → meetsB (xs.getD i (0, 0)).1 (xs.getD i (0, 0)).2 (xs.getD k (0, 0)).1 (xs.getD k (0, 0)).2 = false)
theorem apart_yes {xs : List (Int × Int)} (h : ∀ i, i < xs.length → mayB (xs.getD i (0, 0)).1 (xs.getD i (0, 0)).2 = true ∧
    ∀ k, k < i → meetsB (xs.getD i (0, 0)).1 (xs.getD i (0, 0)).2 (xs.getD k (0, 0)).1 (xs.getD k (0, 0)).2 = false) : apartB xs = true := decide_eq_true h
theorem apart_no1 {xs : List (Int × Int)} {i : Nat} (hi : i < xs.length) (h : mayB (xs.getD i (0, 0)).1 (xs.getD i (0, 0)).2 = false) : apartB xs = false :=
  decide_eq_false fun H => by rw [(H i hi).1] at h; cases h
theorem apart_no2 {xs : List (Int × Int)} {i k : Nat} (hi : i < xs.length) (hk : k < i) (h : meetsB (xs.getD i (0, 0)).1 (xs.getD i (0, 0)).2 (xs.getD k (0, 0)).1 (xs.getD k (0, 0)).2 = true) : apartB xs = false :=
  decide_eq_false fun H => by rw [(H i hi).2 k hk] at h; cases h

set_option maxRecDepth 100000 in
set_option maxHeartbeats 1000000 in
theorem refapart_any (A : Option Addr) (cap : Nat) (xs : List (Int × Int)) (W : World) (hlen : xs.length ≤ 9223372036854775807) (hl : SpansAt W A xs) :
    Calls Try.prog 28 #[.slice A xs.length cap] W fun e w' => e = .returned (.bool (apartB xs)) ∧ Ext W w' := by
  have HL := Lib.hid hl
  clear hl
  go_enter Try.func28, Try.ntmps28
  go_wp2_with fail
  go_loopw [3] (fun i wr => ∃ k : Nat, k ≤ xs.length ∧ i = .int .i64 k ∧ Ext W wr ∧ Hid (∀ i, i < k → mayB (xs.getD i (0, 0)).1 (xs.getD i (0, 0)).2 = true ∧
    ∀ k, k < i → meetsB (xs.getD i (0, 0)).1 (xs.getD i (0, 0)).2 (xs.getD k (0, 0)).1 (xs.getD k (0, 0)).2 = false)) (fun i _ => xs.length - (intOf i).toNat)
  case atStart => exact ⟨0, by omega, rfl, Ext.refl _, Lib.hid (by omega)⟩
  case round =>
    obtain ⟨k, hk, rfl, hxr, hq⟩ := hrel
    by_cases hlt : k < xs.length
    rotate_left
    · go_wp2_with fail
      go_ret
      exact ⟨ret_bool (by rw [apart_yes (fun i hi => hq.out i (by omega))]), hxr⟩
    obtain ⟨lb, off, rfl, hc⟩ := HL.out.get (by omega)
    have HC := Lib.hid hc
    obtain ⟨e1, e2⟩ := spans_cell hc hlt
    have E1 := Lib.hid e1
    have E2 := Lib.hid e2
    have c1 : ∀ w', Ext W w' → w'.cell? ⟨lb, off + k * 2, none⟩ = some (.int .i64 (xs.getD k (0, 0)).1) := fun w' h => h.cell E1.out
    have c2 : ∀ w', Ext W w' → w'.cell? ⟨lb, off + k * 2 + 1, none⟩ = some (.int .i64 (xs.getD k (0, 0)).2) := fun w' h => h.cell E2.out
    have HN1 := Lib.hid (fun h => apart_no1 (xs := xs) (i := k) hlt h)
    have HN2 := Lib.hid (fun j h1 h => apart_no2 (xs := xs) (i := k) (k := j) hlt h1 h)
    have HP := Lib.hid (fun (h1 : mayB (xs.getD k (0, 0)).1 (xs.getD k (0, 0)).2 = true) (h2 : ∀ j, j < k → meetsB (xs.getD k (0, 0)).1 (xs.getD k (0, 0)).2 (xs.getD j (0, 0)).1 (xs.getD j (0, 0)).2 = false) =>
      (fun i (hi : i < k + 1) => by
        rcases Nat.lt_or_ge i k with h | h
        · exact hq.out i h
        · obtain rfl : i = k := by omega
          exact ⟨h1, h2⟩ : ∀ i, i < k + 1 → mayB (xs.getD i (0, 0)).1 (xs.getD i (0, 0)).2 = true ∧
            ∀ k, k < i → meetsB (xs.getD i (0, 0)).1 (xs.getD i (0, 0)).2 (xs.getD k (0, 0)).1 (xs.getD k (0, 0)).2 = false))
    clear e1 e2 hc HL hq
    generalize hxa : (xs.getD k (0, 0)).1 = a at *
    generalize hxs : (xs.getD k (0, 0)).2 = s at *
    clear hxa hxs
    cases hm : mayB a s
    · go_wp2_with (go_at_call 14; refine (refmay_any _ _ _).mono ?_; rintro e w1 ⟨rfl, hx0⟩; have hx := Ext.trans (a := W) (by with_reducible assumption) hx0; clear hx0)
      go_ret
      exact ⟨ret_bool (by rw [HN1.out hm]), by assumption⟩
    · go_wp2_with (go_at_call 14; refine (refmay_any _ _ _).mono ?_; rintro e w1 ⟨rfl, hx0⟩; have hx := Ext.trans (a := W) (by with_reducible assumption) hx0; clear hx0)
      go_loopw [4] (fun i wr => ∃ j : Nat, j ≤ k ∧ i = .int .i64 j ∧ Ext W wr ∧ Hid (∀ i, i < j → meetsB a s (xs.getD i (0, 0)).1 (xs.getD i (0, 0)).2 = false)) (fun i _ => k - (intOf i).toNat)
      case atStart => exact ⟨0, by omega, rfl, by assumption, Lib.hid (by omega)⟩
      case round =>
        obtain ⟨j, hj, rfl, hxj, hqj⟩ := hrel
        by_cases hjk : j < k
        rotate_left
        · obtain rfl : j = k := by omega
          go_wp2_with fail
          go_roundw
          case rel => exact ⟨j + 1, by omega, by go_num, hxj, Lib.hid (HP.out hm hqj.out)⟩
          case measure => simp [intOf]; omega
        obtain ⟨e1, e2⟩ := spans_cell HC.out (show j < xs.length by omega)
        have E3 := Lib.hid e1
        have E4 := Lib.hid e2
        have c3 : ∀ w', Ext W w' → w'.cell? ⟨lb, off + j * 2, none⟩ = some (.int .i64 (xs.getD j (0, 0)).1) := fun w' h => h.cell E3.out
        have c4 : ∀ w', Ext W w' → w'.cell? ⟨lb, off + j * 2 + 1, none⟩ = some (.int .i64 (xs.getD j (0, 0)).2) := fun w' h => h.cell E4.out
        have HM2 := Lib.hid (fun h => HN2.out j hjk h)
        have HP2 := Lib.hid (fun (h2 : meetsB a s (xs.getD j (0, 0)).1 (xs.getD j (0, 0)).2 = false) =>
          (fun i (hi : i < j + 1) => by
            rcases Nat.lt_or_ge i j with h | h
            · exact hqj.out i h
            · obtain rfl : i = j := by omega
              exact h2 : ∀ i, i < j + 1 → meetsB a s (xs.getD i (0, 0)).1 (xs.getD i (0, 0)).2 = false))
        clear e1 e2 hqj
        generalize (xs.getD j (0, 0)).1 = a2 at *
        generalize (xs.getD j (0, 0)).2 = s2 at *
        have ib1 : (j : Int) < (xs.length : Int) := by omega
        have ib2 : (k : Int) < (xs.length : Int) := by omega
        have ib3 : (0 : Int) ≤ (j : Int) := by omega
        have ib4 : (0 : Int) ≤ (k : Int) := by omega
        cases hmm : meetsB a s a2 s2
        · go_wp2_with fail
          go_region_held3 (fun w1 => Ext W w1) (first | (with_reducible assumption) | (exact Ext.drew (by with_reducible assumption)) | (with_reducible exact Ext.drew (Ext.alloc (by with_reducible assumption) _)) | (with_reducible exact Ext.alloc (by with_reducible assumption) _) | (exact Ext.trans (by with_reducible assumption) (by with_reducible assumption))) (first
            | (go_at_call 18; refine (refmeets_any _ _ _ _ _).mono ?_; rintro e w1 ⟨rfl, hx⟩))
          go_wp2_with fail
          go_roundw
          case rel => exact ⟨j + 1, by omega, by go_num, by assumption, Lib.hid (HP2.out hmm)⟩
          case measure => simp [intOf]; omega
        · go_wp2_with fail
          go_region_held3 (fun w1 => Ext W w1) (first | (with_reducible assumption) | (exact Ext.drew (by with_reducible assumption)) | (with_reducible exact Ext.drew (Ext.alloc (by with_reducible assumption) _)) | (with_reducible exact Ext.alloc (by with_reducible assumption) _) | (exact Ext.trans (by with_reducible assumption) (by with_reducible assumption))) (first
            | (go_at_call 18; refine (refmeets_any _ _ _ _ _).mono ?_; rintro e w1 ⟨rfl, hx⟩))
          go_wp2_with fail
          go_ret
          exact ⟨ret_bool (by rw [HM2.out hmm]), by assumption⟩

/-- Has one of some spans a word? -/
def coveredB (xs : List (Int × Int)) (p : Int) : Bool := xs.any fun x => hasB x.1 x.2 p
theorem covered_yes {xs : List (Int × Int)} {p : Int} {k : Nat} (hk : k < xs.length) (h : hasB (xs.getD k (0, 0)).1 (xs.getD k (0, 0)).2 p = true) : coveredB xs p = true := by
  unfold coveredB
  rw [List.any_eq_true]
  exact ⟨xs.getD k (0, 0), by simp [hk], h⟩
theorem covered_no {xs : List (Int × Int)} {p : Int} (h : ∀ k, k < xs.length → hasB (xs.getD k (0, 0)).1 (xs.getD k (0, 0)).2 p = false) : coveredB xs p = false := by
  unfold coveredB
  rw [List.any_eq_false]
  intro x hx
  obtain ⟨k, hk, rfl⟩ := List.getElem_of_mem hx
  have := h k hk
  simp only [List.getD_eq_getElem?_getD, List.getElem?_eq_getElem hk, Option.getD_some] at this
  simp [this]

set_option maxRecDepth 100000 in
set_option maxHeartbeats 1000000 in
theorem refcovered_any (A : Option Addr) (cap : Nat) (xs : List (Int × Int)) (p : Int) (W : World) (hlen : xs.length ≤ 9223372036854775807) (hl : SpansAt W A xs) :
    Calls Try.prog 64 #[.slice A xs.length cap, .int .i64 p] W fun e w' => e = .returned (.bool (coveredB xs p)) ∧ Ext W w' := by
  have HL := Lib.hid hl
  clear hl
  go_enter Try.func64, Try.ntmps64
  go_wp2_with fail
  go_loopw [5] (fun i wr => ∃ k : Nat, k ≤ xs.length ∧ i = .int .i64 k ∧ Ext W wr ∧ Hid (∀ i, i < k → hasB (xs.getD i (0, 0)).1 (xs.getD i (0, 0)).2 p = false)) (fun i _ => xs.length - (intOf i).toNat)
  case atStart => exact ⟨0, by omega, rfl, Ext.refl _, Lib.hid (by omega)⟩
  case round =>
    obtain ⟨k, hk, rfl, hxr, hq⟩ := hrel
    by_cases hlt : k < xs.length
    rotate_left
    · go_wp2_with fail
      go_ret
      exact ⟨ret_bool (by rw [covered_no (fun i hi => hq.out i (by omega))]), hxr⟩
    obtain ⟨lb, off, rfl, hc⟩ := HL.out.get (by omega)
    obtain ⟨e1, e2⟩ := spans_cell hc hlt
    have E1 := Lib.hid e1
    have E2 := Lib.hid e2
    have c1 : ∀ w', Ext W w' → w'.cell? ⟨lb, off + k * 2, none⟩ = some (.int .i64 (xs.getD k (0, 0)).1) := fun w' h => h.cell E1.out
    have c2 : ∀ w', Ext W w' → w'.cell? ⟨lb, off + k * 2 + 1, none⟩ = some (.int .i64 (xs.getD k (0, 0)).2) := fun w' h => h.cell E2.out
    have HY := Lib.hid (fun h => covered_yes (xs := xs) (p := p) (k := k) hlt h)
    have HP := Lib.hid (fun (h2 : hasB (xs.getD k (0, 0)).1 (xs.getD k (0, 0)).2 p = false) =>
      (fun i (hi : i < k + 1) => by
        rcases Nat.lt_or_ge i k with h | h
        · exact hq.out i h
        · obtain rfl : i = k := by omega
          exact h2 : ∀ i, i < k + 1 → hasB (xs.getD i (0, 0)).1 (xs.getD i (0, 0)).2 p = false))
    clear e1 e2 hc HL hq
    generalize (xs.getD k (0, 0)).1 = a at *
    generalize (xs.getD k (0, 0)).2 = s at *
    cases hm : hasB a s p
    · go_wp2_with (go_at_call 16; refine (refhas_any _ _ _ _).mono ?_; rintro e w1 ⟨rfl, hx0⟩; have hx := Ext.trans (a := W) (by with_reducible assumption) hx0; clear hx0)
      go_roundw
      case rel => exact ⟨k + 1, by omega, by go_num, by assumption, Lib.hid (HP.out hm)⟩
      case measure => simp [intOf]; omega
    · go_wp2_with (go_at_call 16; refine (refhas_any _ _ _ _).mono ?_; rintro e w1 ⟨rfl, hx0⟩; have hx := Ext.trans (a := W) (by with_reducible assumption) hx0; clear hx0)
      go_ret
      exact ⟨ret_bool (by rw [HY.out hm]), by assumption⟩
end Go.Proofs.Ytllcekmbcmhckaa
