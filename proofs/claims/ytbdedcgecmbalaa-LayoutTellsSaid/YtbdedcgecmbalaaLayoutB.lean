/- The walks of the reference of the package layout, of Small and of Where. -/
import Derived.Test.YtbdedcgecmbalaaLayoutA
set_option linter.unusedSimpArgs false
set_option linter.unusedVariables false
namespace Go.Proofs.Ytbdedcgecmbalaa
open Go.RowKit

set_option maxHeartbeats 400000 in
theorem half_any (s l t m n : Int) (hn : n = 0 ∨ n = 1) (w : World) :
    Calls Try.prog 33 #[.agg #[.int .i64 (s), .int .i64 (l), .int .i64 (t), .int .i64 (m)], .int .i64 n] w fun e w' => e = .returned (.agg #[.int .i64 (halfA s l t m (n == 1)), .int .i64 (halfS s l t m)]) ∧ Ext w w' := by
  by_cases hb : cfgB s l t m = true
  · obtain ⟨h1, h2, h3, h4, h5, h6, h7, h8⟩ := cfg_bd hb
    rcases hn with rfl | rfl
    all_goals go_enter Try.func33, Try.ntmps33
    all_goals go_wp2_with (go_at_call 8; refine (refcheck_any _ _ _ _ _).mono ?_; rintro e w1 ⟨rfl, hx⟩; obtain ⟨hcc, hff, hzz⟩ := ecell hx; (try simp only [World.size_alloc] at hzz); (try (have hz0 := Nat.lt_of_succ_le hzz)); (try (have hz1 := Nat.lt_of_succ_lt hz0)); (try (have hz2 := Nat.lt_of_succ_lt hz1)); (try (have hz3 := Nat.lt_of_succ_lt hz2)))
    · ((try simp only [Exit.inBlock, Exit.then]); refine bodyPost_ret (v := .agg #[.int .i64 (0), .int .i64 (s)]) (by simp only [results, Try.results33]; go_simp) rfl ?_)
      exact ⟨by simp [halfA, halfS, hb], (by repeat (first | (with_reducible exact Ext.refl _) | (with_reducible assumption) | (with_reducible refine Ext.drew ?_) | (with_reducible refine Ext.alloc ?_ _) | ((with_reducible refine Ext.setCell ?_ ?_ _); rotate_left; (focus (simp; try omega))) | (with_reducible refine Ext.trans ?_ (by assumption))))⟩
    · ((try simp only [Exit.inBlock, Exit.then]); refine bodyPost_ret (v := .agg #[.int .i64 (s), .int .i64 (s)]) (by simp only [results, Try.results33]; go_simp) rfl ?_)
      exact ⟨by simp [halfA, halfS, hb], (by repeat (first | (with_reducible exact Ext.refl _) | (with_reducible assumption) | (with_reducible refine Ext.drew ?_) | (with_reducible refine Ext.alloc ?_ _) | ((with_reducible refine Ext.setCell ?_ ?_ _); rotate_left; (focus (simp; try omega))) | (with_reducible refine Ext.trans ?_ (by assumption))))⟩
  · have hb' : cfgB s l t m = false := by simpa using hb
    go_enter Try.func33, Try.ntmps33
    go_wp2_with (go_at_call 8; refine (refcheck_any _ _ _ _ _).mono ?_; rintro e w1 ⟨rfl, hx⟩; obtain ⟨hcc, hff, hzz⟩ := ecell hx; (try simp only [World.size_alloc] at hzz); (try (have hz0 := Nat.lt_of_succ_le hzz)); (try (have hz1 := Nat.lt_of_succ_lt hz0)); (try (have hz2 := Nat.lt_of_succ_lt hz1)); (try (have hz3 := Nat.lt_of_succ_lt hz2)))
    ((try simp only [Exit.inBlock, Exit.then]); refine bodyPost_ret (v := .agg #[.int .i64 (0), .int .i64 (0)]) (by simp only [results, Try.results33]; go_simp) rfl ?_)
    exact ⟨by simp [halfA, halfS, hb'], (by repeat (first | (with_reducible exact Ext.refl _) | (with_reducible assumption) | (with_reducible refine Ext.drew ?_) | (with_reducible refine Ext.alloc ?_ _) | ((with_reducible refine Ext.setCell ?_ ?_ _); rotate_left; (focus (simp; try omega))) | (with_reducible refine Ext.trans ?_ (by assumption))))⟩

set_option maxHeartbeats 400000 in
theorem reffrom_any (s l t m : Int) (b : Bool) (w : World) :
    Calls Try.prog 12 #[.agg #[.int .i64 (s), .int .i64 (l), .int .i64 (t), .int .i64 (m)], .bool b] w fun e w' => e = .returned (.agg #[.int .i64 (halfA s l t m b), .int .i64 (halfS s l t m)]) ∧ Ext w w' := by
  cases b
  · go_enter Try.func12, Try.ntmps12
    go_wp2_with (go_at_call 33; refine (half_any _ _ _ _ _ (by decide) _).mono ?_; rintro e w1 ⟨rfl, hx⟩; obtain ⟨hcc, hff, hzz⟩ := ecell hx; (try simp only [World.size_alloc] at hzz); (try (have hz0 := Nat.lt_of_succ_le hzz)); (try (have hz1 := Nat.lt_of_succ_lt hz0)); (try (have hz2 := Nat.lt_of_succ_lt hz1)); (try (have hz3 := Nat.lt_of_succ_lt hz2)))
    ((try simp only [Exit.inBlock, Exit.then]); refine bodyPost_ret (v := .agg #[.int .i64 (halfA s l t m false), .int .i64 (halfS s l t m)]) (by simp only [results, Try.results12]; go_simp) rfl ?_)
    exact ⟨rfl, (by repeat (first | (with_reducible exact Ext.refl _) | (with_reducible assumption) | (with_reducible refine Ext.drew ?_) | (with_reducible refine Ext.alloc ?_ _) | ((with_reducible refine Ext.setCell ?_ ?_ _); rotate_left; (focus (simp; try omega))) | (with_reducible refine Ext.trans ?_ (by assumption))))⟩
  · go_enter Try.func12, Try.ntmps12
    go_wp2_with (go_at_call 33; refine (half_any _ _ _ _ _ (by decide) _).mono ?_; rintro e w1 ⟨rfl, hx⟩; obtain ⟨hcc, hff, hzz⟩ := ecell hx; (try simp only [World.size_alloc] at hzz); (try (have hz0 := Nat.lt_of_succ_le hzz)); (try (have hz1 := Nat.lt_of_succ_lt hz0)); (try (have hz2 := Nat.lt_of_succ_lt hz1)); (try (have hz3 := Nat.lt_of_succ_lt hz2)))
    ((try simp only [Exit.inBlock, Exit.then]); refine bodyPost_ret (v := .agg #[.int .i64 (halfA s l t m true), .int .i64 (halfS s l t m)]) (by simp only [results, Try.results12]; go_simp) rfl ?_)
    exact ⟨rfl, (by repeat (first | (with_reducible exact Ext.refl _) | (with_reducible assumption) | (with_reducible refine Ext.drew ?_) | (with_reducible refine Ext.alloc ?_ _) | ((with_reducible refine Ext.setCell ?_ ?_ _); rotate_left; (focus (simp; try omega))) | (with_reducible refine Ext.trans ?_ (by assumption))))⟩

set_option maxHeartbeats 400000 in
theorem refto_any (s l t m : Int) (b : Bool) (w : World) :
    Calls Try.prog 14 #[.agg #[.int .i64 (s), .int .i64 (l), .int .i64 (t), .int .i64 (m)], .bool b] w fun e w' => e = .returned (.agg #[.int .i64 (halfA s l t m (!b)), .int .i64 (halfS s l t m)]) ∧ Ext w w' := by
  go_enter Try.func14, Try.ntmps14
  go_wp2_with (go_at_call 12; refine (reffrom_any _ _ _ _ _ _).mono ?_; rintro e w1 ⟨rfl, hx⟩; obtain ⟨hcc, hff, hzz⟩ := ecell hx; (try simp only [World.size_alloc] at hzz); (try (have hz0 := Nat.lt_of_succ_le hzz)); (try (have hz1 := Nat.lt_of_succ_lt hz0)); (try (have hz2 := Nat.lt_of_succ_lt hz1)); (try (have hz3 := Nat.lt_of_succ_lt hz2)))
  ((try simp only [Exit.inBlock, Exit.then]); refine bodyPost_ret (v := .agg #[.int .i64 (halfA s l t m (!b)), .int .i64 (halfS s l t m)]) (by simp only [results, Try.results14]; go_simp) rfl ?_)
  exact ⟨rfl, (by repeat (first | (with_reducible exact Ext.refl _) | (with_reducible assumption) | (with_reducible refine Ext.drew ?_) | (with_reducible refine Ext.alloc ?_ _) | ((with_reducible refine Ext.setCell ?_ ?_ _); rotate_left; (focus (simp; try omega))) | (with_reducible refine Ext.trans ?_ (by assumption))))⟩

set_option maxHeartbeats 400000 in
theorem reflarge_any (s l t m : Int) (w : World) :
    Calls Try.prog 16 #[.agg #[.int .i64 (s), .int .i64 (l), .int .i64 (t), .int .i64 (m)]] w fun e w' => e = .returned (.agg #[.int .i64 (largeA s l t m), .int .i64 (largeS s l t m)]) ∧ Ext w w' := by
  by_cases hb : cfgB s l t m = true
  · obtain ⟨h1, h2, h3, h4, h5, h6, h7, h8⟩ := cfg_bd hb
    by_cases h9 : l = 0
    · subst h9
      go_enter Try.func16, Try.ntmps16
      go_wp2_with (go_at_call 8; refine (refcheck_any _ _ _ _ _).mono ?_; rintro e w1 ⟨rfl, hx⟩; obtain ⟨hcc, hff, hzz⟩ := ecell hx; (try simp only [World.size_alloc] at hzz); (try (have hz0 := Nat.lt_of_succ_le hzz)); (try (have hz1 := Nat.lt_of_succ_lt hz0)); (try (have hz2 := Nat.lt_of_succ_lt hz1)); (try (have hz3 := Nat.lt_of_succ_lt hz2)))
      ((try simp only [Exit.inBlock, Exit.then]); refine bodyPost_ret (v := .agg #[.int .i64 (0), .int .i64 (0)]) (by simp only [results, Try.results16]; go_simp) rfl ?_)
      exact ⟨by simp [largeA, largeS, hb], (by repeat (first | (with_reducible exact Ext.refl _) | (with_reducible assumption) | (with_reducible refine Ext.drew ?_) | (with_reducible refine Ext.alloc ?_ _) | ((with_reducible refine Ext.setCell ?_ ?_ _); rotate_left; (focus (simp; try omega))) | (with_reducible refine Ext.trans ?_ (by assumption))))⟩
    · have hl : ((l : Int) == 0) = false := by simpa using h9
      go_enter Try.func16, Try.ntmps16
      go_wp2_with (go_at_call 8; refine (refcheck_any _ _ _ _ _).mono ?_; rintro e w1 ⟨rfl, hx⟩; obtain ⟨hcc, hff, hzz⟩ := ecell hx; (try simp only [World.size_alloc] at hzz); (try (have hz0 := Nat.lt_of_succ_le hzz)); (try (have hz1 := Nat.lt_of_succ_lt hz0)); (try (have hz2 := Nat.lt_of_succ_lt hz1)); (try (have hz3 := Nat.lt_of_succ_lt hz2)))
      ((try simp only [Exit.inBlock, Exit.then]); refine bodyPost_ret (v := .agg #[.int .i64 (s + s), .int .i64 (l)]) (by simp only [results, Try.results16]; go_simp) rfl ?_)
      exact ⟨by simp [largeA, largeS, hb, h9]; omega, (by repeat (first | (with_reducible exact Ext.refl _) | (with_reducible assumption) | (with_reducible refine Ext.drew ?_) | (with_reducible refine Ext.alloc ?_ _) | ((with_reducible refine Ext.setCell ?_ ?_ _); rotate_left; (focus (simp; try omega))) | (with_reducible refine Ext.trans ?_ (by assumption))))⟩
  · have hb' : cfgB s l t m = false := by simpa using hb
    go_enter Try.func16, Try.ntmps16
    go_wp2_with (go_at_call 8; refine (refcheck_any _ _ _ _ _).mono ?_; rintro e w1 ⟨rfl, hx⟩; obtain ⟨hcc, hff, hzz⟩ := ecell hx; (try simp only [World.size_alloc] at hzz); (try (have hz0 := Nat.lt_of_succ_le hzz)); (try (have hz1 := Nat.lt_of_succ_lt hz0)); (try (have hz2 := Nat.lt_of_succ_lt hz1)); (try (have hz3 := Nat.lt_of_succ_lt hz2)))
    ((try simp only [Exit.inBlock, Exit.then]); refine bodyPost_ret (v := .agg #[.int .i64 (0), .int .i64 (0)]) (by simp only [results, Try.results16]; go_simp) rfl ?_)
    exact ⟨by simp [largeA, largeS, hb'], (by repeat (first | (with_reducible exact Ext.refl _) | (with_reducible assumption) | (with_reducible refine Ext.drew ?_) | (with_reducible refine Ext.alloc ?_ _) | ((with_reducible refine Ext.setCell ?_ ?_ _); rotate_left; (focus (simp; try omega))) | (with_reducible refine Ext.trans ?_ (by assumption))))⟩

set_option maxHeartbeats 400000 in
theorem refsmall_any (s l t m p : Int) (w : World) :
    Calls Try.prog 20 #[.agg #[.int .i64 (s), .int .i64 (l), .int .i64 (t), .int .i64 (m)], .int .i64 p] w fun e w' => e = .returned (.bool (smallB s l t m p)) ∧ Ext w w' := by
  by_cases hb : cfgB s l t m = true
  · go_enter Try.func20, Try.ntmps20
    go_wp2_with (go_at_call 8; refine (refcheck_any _ _ _ _ _).mono ?_; rintro e w1 ⟨rfl, hx⟩; obtain ⟨hcc, hff, hzz⟩ := ecell hx; (try simp only [World.size_alloc] at hzz); (try (have hz0 := Nat.lt_of_succ_le hzz)); (try (have hz1 := Nat.lt_of_succ_lt hz0)); (try (have hz2 := Nat.lt_of_succ_lt hz1)); (try (have hz3 := Nat.lt_of_succ_lt hz2)))
    all_goals go_ret
    all_goals exact ⟨ret_bool (by unfold smallB; simp [*]; try omega), (by repeat (first | (with_reducible exact Ext.refl _) | (with_reducible assumption) | (with_reducible refine Ext.drew ?_) | (with_reducible refine Ext.alloc ?_ _) | ((with_reducible refine Ext.setCell ?_ ?_ _); rotate_left; (focus (simp; try omega))) | (with_reducible refine Ext.trans ?_ (by assumption))))⟩
  · have hb' : cfgB s l t m = false := by simpa using hb
    go_enter Try.func20, Try.ntmps20
    go_wp2_with (go_at_call 8; refine (refcheck_any _ _ _ _ _).mono ?_; rintro e w1 ⟨rfl, hx⟩; obtain ⟨hcc, hff, hzz⟩ := ecell hx; (try simp only [World.size_alloc] at hzz); (try (have hz0 := Nat.lt_of_succ_le hzz)); (try (have hz1 := Nat.lt_of_succ_lt hz0)); (try (have hz2 := Nat.lt_of_succ_lt hz1)); (try (have hz3 := Nat.lt_of_succ_lt hz2)))
    go_ret
    exact ⟨ret_bool (by unfold smallB; simp [hb']), (by repeat (first | (with_reducible exact Ext.refl _) | (with_reducible assumption) | (with_reducible refine Ext.drew ?_) | (with_reducible refine Ext.alloc ?_ _) | ((with_reducible refine Ext.setCell ?_ ?_ _); rotate_left; (focus (simp; try omega))) | (with_reducible refine Ext.trans ?_ (by assumption))))⟩

/-- In which part a place is. -/
def whereZ (s l t m : Int) (b : Bool) (p : Int) : Int :=
  if hasB (halfA s l t m b) (halfS s l t m) p then 1 else if hasB (halfA s l t m (!b)) (halfS s l t m) p then 2 else if hasB (largeA s l t m) (largeS s l t m) p then 3 else 0

set_option maxHeartbeats 1000000 in
theorem where_any (s l t m : Int) (b : Bool) (p : Int) (w : World) :
    Calls Try.prog 17 #[.agg #[.int .i64 (s), .int .i64 (l), .int .i64 (t), .int .i64 (m)], .bool b, .int .i64 p] w fun e w' => e = .returned (.int .i64 (whereZ s l t m b p)) ∧ Ext w w' := by
  have i0 := idx0
  have i1 := idx1
  have i2 := idx2
  go_enter Try.func17, Try.ntmps17
  go_wp2_with (go_at_call 32; refine (parts_any _ _ _ _ _ _).mono ?_; rintro e w1 ⟨rfl, hx⟩; obtain ⟨hcc, hff, hzz⟩ := ecell hx; (try simp only [World.size_alloc] at hzz); (try (have hz0 := Nat.lt_of_succ_le hzz)); (try (have hz1 := Nat.lt_of_succ_lt hz0)); (try (have hz2 := Nat.lt_of_succ_lt hz1)); (try (have hz3 := Nat.lt_of_succ_lt hz2)))
  go_loopw [12] (fun i wr => ∃ k : Nat, k ≤ 3 ∧ i = .int .i64 k ∧ Ext w wr ∧ (1 ≤ k → hasB (halfA s l t m b) (halfS s l t m) p = false) ∧ (2 ≤ k → hasB (halfA s l t m (!b)) (halfS s l t m) p = false) ∧ (3 ≤ k → hasB (largeA s l t m) (largeS s l t m) p = false)) (fun i _ => 3 - (intOf i).toNat)
  case atStart => exact ⟨0, by omega, rfl, (by repeat (first | (with_reducible exact Ext.refl _) | (with_reducible assumption) | (with_reducible refine Ext.drew ?_) | (with_reducible refine Ext.alloc ?_ _) | ((with_reducible refine Ext.setCell ?_ ?_ _); rotate_left; (focus (simp; try omega))) | (with_reducible refine Ext.trans ?_ (by assumption)))), by omega, by omega, by omega⟩
  case round =>
    obtain ⟨k, hk, rfl, hxr, q1, q2, q3⟩ := hrel
    have Q1 := Lib.hid q1
    have Q2 := Lib.hid q2
    have Q3 := Lib.hid q3
    clear q1 q2 q3
    obtain rfl | rfl | rfl | rfl : k = 0 ∨ k = 1 ∨ k = 2 ∨ k = 3 := by omega
    · cases hh : hasB (halfA s l t m b) (halfS s l t m) p
      · go_wp2_with (go_at_call 34; refine (has_any _ _ _ _).mono ?_; rintro e w1 ⟨rfl, hx⟩; obtain ⟨hcc, hff, hzz⟩ := ecell hx; (try simp only [World.size_alloc] at hzz); (try (have hz0 := Nat.lt_of_succ_le hzz)); (try (have hz1 := Nat.lt_of_succ_lt hz0)); (try (have hz2 := Nat.lt_of_succ_lt hz1)); (try (have hz3 := Nat.lt_of_succ_lt hz2)))
        go_roundw
        case rel => exact ⟨1, by omega, by go_num, (by repeat (first | (with_reducible exact Ext.refl _) | (with_reducible assumption) | (with_reducible refine Ext.drew ?_) | (with_reducible refine Ext.alloc ?_ _) | ((with_reducible refine Ext.setCell ?_ ?_ _); rotate_left; (focus (simp; try omega))) | (with_reducible refine Ext.trans ?_ (by assumption)))), (by simp [hh]), by omega, by omega⟩
        case measure => simp [intOf]
      · go_wp2_with (go_at_call 34; refine (has_any _ _ _ _).mono ?_; rintro e w1 ⟨rfl, hx⟩; obtain ⟨hcc, hff, hzz⟩ := ecell hx; (try simp only [World.size_alloc] at hzz); (try (have hz0 := Nat.lt_of_succ_le hzz)); (try (have hz1 := Nat.lt_of_succ_lt hz0)); (try (have hz2 := Nat.lt_of_succ_lt hz1)); (try (have hz3 := Nat.lt_of_succ_lt hz2)))
        go_ret
        exact ⟨ret_int (by simp [whereZ, hh]), (by repeat (first | (with_reducible exact Ext.refl _) | (with_reducible assumption) | (with_reducible refine Ext.drew ?_) | (with_reducible refine Ext.alloc ?_ _) | ((with_reducible refine Ext.setCell ?_ ?_ _); rotate_left; (focus (simp; try omega))) | (with_reducible refine Ext.trans ?_ (by assumption))))⟩
    · cases hh : hasB (halfA s l t m (!b)) (halfS s l t m) p
      · go_wp2_with (go_at_call 34; refine (has_any _ _ _ _).mono ?_; rintro e w1 ⟨rfl, hx⟩; obtain ⟨hcc, hff, hzz⟩ := ecell hx; (try simp only [World.size_alloc] at hzz); (try (have hz0 := Nat.lt_of_succ_le hzz)); (try (have hz1 := Nat.lt_of_succ_lt hz0)); (try (have hz2 := Nat.lt_of_succ_lt hz1)); (try (have hz3 := Nat.lt_of_succ_lt hz2)))
        go_roundw
        case rel => exact ⟨2, by omega, by go_num, (by repeat (first | (with_reducible exact Ext.refl _) | (with_reducible assumption) | (with_reducible refine Ext.drew ?_) | (with_reducible refine Ext.alloc ?_ _) | ((with_reducible refine Ext.setCell ?_ ?_ _); rotate_left; (focus (simp; try omega))) | (with_reducible refine Ext.trans ?_ (by assumption)))), fun _ => Q1.out (by omega), (by simp [hh]), by omega⟩
        case measure => simp [intOf]
      · go_wp2_with (go_at_call 34; refine (has_any _ _ _ _).mono ?_; rintro e w1 ⟨rfl, hx⟩; obtain ⟨hcc, hff, hzz⟩ := ecell hx; (try simp only [World.size_alloc] at hzz); (try (have hz0 := Nat.lt_of_succ_le hzz)); (try (have hz1 := Nat.lt_of_succ_lt hz0)); (try (have hz2 := Nat.lt_of_succ_lt hz1)); (try (have hz3 := Nat.lt_of_succ_lt hz2)))
        go_ret
        exact ⟨ret_int (by simp [whereZ, hh, Q1.out (by omega)]), (by repeat (first | (with_reducible exact Ext.refl _) | (with_reducible assumption) | (with_reducible refine Ext.drew ?_) | (with_reducible refine Ext.alloc ?_ _) | ((with_reducible refine Ext.setCell ?_ ?_ _); rotate_left; (focus (simp; try omega))) | (with_reducible refine Ext.trans ?_ (by assumption))))⟩
    · cases hh : hasB (largeA s l t m) (largeS s l t m) p
      · go_wp2_with (go_at_call 34; refine (has_any _ _ _ _).mono ?_; rintro e w1 ⟨rfl, hx⟩; obtain ⟨hcc, hff, hzz⟩ := ecell hx; (try simp only [World.size_alloc] at hzz); (try (have hz0 := Nat.lt_of_succ_le hzz)); (try (have hz1 := Nat.lt_of_succ_lt hz0)); (try (have hz2 := Nat.lt_of_succ_lt hz1)); (try (have hz3 := Nat.lt_of_succ_lt hz2)))
        go_roundw
        case rel => exact ⟨3, by omega, by go_num, (by repeat (first | (with_reducible exact Ext.refl _) | (with_reducible assumption) | (with_reducible refine Ext.drew ?_) | (with_reducible refine Ext.alloc ?_ _) | ((with_reducible refine Ext.setCell ?_ ?_ _); rotate_left; (focus (simp; try omega))) | (with_reducible refine Ext.trans ?_ (by assumption)))), fun _ => Q1.out (by omega), fun _ => Q2.out (by omega), (by simp [hh])⟩
        case measure => simp [intOf]
      · go_wp2_with (go_at_call 34; refine (has_any _ _ _ _).mono ?_; rintro e w1 ⟨rfl, hx⟩; obtain ⟨hcc, hff, hzz⟩ := ecell hx; (try simp only [World.size_alloc] at hzz); (try (have hz0 := Nat.lt_of_succ_le hzz)); (try (have hz1 := Nat.lt_of_succ_lt hz0)); (try (have hz2 := Nat.lt_of_succ_lt hz1)); (try (have hz3 := Nat.lt_of_succ_lt hz2)))
        go_ret
        exact ⟨ret_int (by simp [whereZ, hh, Q1.out (by omega), Q2.out (by omega)]), (by repeat (first | (with_reducible exact Ext.refl _) | (with_reducible assumption) | (with_reducible refine Ext.drew ?_) | (with_reducible refine Ext.alloc ?_ _) | ((with_reducible refine Ext.setCell ?_ ?_ _); rotate_left; (focus (simp; try omega))) | (with_reducible refine Ext.trans ?_ (by assumption))))⟩
    · go_wp2
      go_ret
      exact ⟨ret_int (by simp [whereZ, Q1.out (by omega), Q2.out (by omega), Q3.out (by omega)]), (by repeat (first | (with_reducible exact Ext.refl _) | (with_reducible assumption) | (with_reducible refine Ext.drew ?_) | (with_reducible refine Ext.alloc ?_ _) | ((with_reducible refine Ext.setCell ?_ ?_ _); rotate_left; (focus (simp; try omega))) | (with_reducible refine Ext.trans ?_ (by assumption))))⟩

theorem where_eq (s l t m : Int) (b : Bool) (p : Int) : whereZ s l t m b p = if cfgB s l t m = false ∨ p < 0 ∨ wordsZ s l t m ≤ p then 0 else if 2 * s ≤ p then 3 else if decide (s ≤ p) = b then 1 else 2 := by
  by_cases hb : cfgB s l t m = true
  · obtain ⟨h1, h2, h3, h4, h5, h6, h7, h8⟩ := cfg_bd hb
    unfold whereZ hasB mayB
    simp only [halfA, halfS, largeA, largeS, wordsZ, hb, if_true]
    cases b <;> simp only [Bool.not_false, Bool.not_true, if_true, Bool.false_eq_true, Bool.true_eq_false, false_or, if_false, Bool.and_eq_true, decide_eq_true_eq, decide_eq_false_iff_not]
    all_goals (repeat' split) <;> omega
  · have hb' : cfgB s l t m = false := by simpa using hb
    simp [whereZ, hasB, mayB, halfA, halfS, largeA, largeS, hb']

set_option maxHeartbeats 1000000 in
theorem refwhere_any (s l t m : Int) (b : Bool) (p : Int) (w : World) :
    Calls Try.prog 18 #[.agg #[.int .i64 (s), .int .i64 (l), .int .i64 (t), .int .i64 (m)], .bool b, .int .i64 p] w fun e w' => e = .returned (.int .i64 (whereZ s l t m b p)) ∧ Ext w w' := by
  by_cases hb : cfgB s l t m = true
  · obtain ⟨h1, h2, h3, h4, h5, h6, h7, h8⟩ := cfg_bd hb
    have hww : wordsZ s l t m = 2 * s + l := by simp [wordsZ, hb]
    have E := Lib.hid (where_eq s l t m b p)
    have hw1 : 0 ≤ wordsZ s l t m := by omega
    have hw2 : wordsZ s l t m ≤ 200000 := by omega
    have HW := Lib.hid hww
    clear hww
    by_cases h9 : 0 ≤ p
    · by_cases h10 : p < wordsZ s l t m
      · by_cases h11 : 2 * s ≤ p
        · go_enter Try.func18, Try.ntmps18
          go_wp2_with (first | (go_at_call 8; refine (refcheck_any _ _ _ _ _).mono ?_; rintro e w1 ⟨rfl, hx⟩; obtain ⟨hcc, hff, hzz⟩ := ecell hx; (try simp only [World.size_alloc] at hzz); (try (have hz0 := Nat.lt_of_succ_le hzz)); (try (have hz1 := Nat.lt_of_succ_lt hz0)); (try (have hz2 := Nat.lt_of_succ_lt hz1)); (try (have hz3 := Nat.lt_of_succ_lt hz2))) | (go_at_call 10; refine (refwords_any _ _ _ _ _).mono ?_; rintro e w1 ⟨rfl, hx⟩; obtain ⟨hcc, hff, hzz⟩ := ecell hx; (try simp only [World.size_alloc] at hzz); (try (have hz0 := Nat.lt_of_succ_le hzz)); (try (have hz1 := Nat.lt_of_succ_lt hz0)); (try (have hz2 := Nat.lt_of_succ_lt hz1)); (try (have hz3 := Nat.lt_of_succ_lt hz2))))
          go_ret
          exact ⟨ret_int (by rw [E.out, if_neg (by simp [hb]; omega), if_pos h11]), (by repeat (first | (with_reducible exact Ext.refl _) | (with_reducible assumption) | (with_reducible refine Ext.drew ?_) | (with_reducible refine Ext.alloc ?_ _) | ((with_reducible refine Ext.setCell ?_ ?_ _); rotate_left; (focus (simp; try omega))) | (with_reducible refine Ext.trans ?_ (by assumption))))⟩
        · have hd1 : decide (2 * s ≤ p) = false := by simpa using h11
          by_cases h12 : s ≤ p
          · have hd2 : decide (s ≤ p) = true := by simpa using h12
            cases b
            all_goals go_enter Try.func18, Try.ntmps18
            all_goals go_wp2_with (first | (go_at_call 8; refine (refcheck_any _ _ _ _ _).mono ?_; rintro e w1 ⟨rfl, hx⟩; obtain ⟨hcc, hff, hzz⟩ := ecell hx; (try simp only [World.size_alloc] at hzz); (try (have hz0 := Nat.lt_of_succ_le hzz)); (try (have hz1 := Nat.lt_of_succ_lt hz0)); (try (have hz2 := Nat.lt_of_succ_lt hz1)); (try (have hz3 := Nat.lt_of_succ_lt hz2))) | (go_at_call 10; refine (refwords_any _ _ _ _ _).mono ?_; rintro e w1 ⟨rfl, hx⟩; obtain ⟨hcc, hff, hzz⟩ := ecell hx; (try simp only [World.size_alloc] at hzz); (try (have hz0 := Nat.lt_of_succ_le hzz)); (try (have hz1 := Nat.lt_of_succ_lt hz0)); (try (have hz2 := Nat.lt_of_succ_lt hz1)); (try (have hz3 := Nat.lt_of_succ_lt hz2))))
            all_goals go_ret
            all_goals exact ⟨ret_int (by rw [E.out, if_neg (by simp [hb]; omega), if_neg (by omega), hd2]; simp), (by repeat (first | (with_reducible exact Ext.refl _) | (with_reducible assumption) | (with_reducible refine Ext.drew ?_) | (with_reducible refine Ext.alloc ?_ _) | ((with_reducible refine Ext.setCell ?_ ?_ _); rotate_left; (focus (simp; try omega))) | (with_reducible refine Ext.trans ?_ (by assumption))))⟩
          · have hd2 : decide (s ≤ p) = false := by simpa using h12
            cases b
            all_goals go_enter Try.func18, Try.ntmps18
            all_goals go_wp2_with (first | (go_at_call 8; refine (refcheck_any _ _ _ _ _).mono ?_; rintro e w1 ⟨rfl, hx⟩; obtain ⟨hcc, hff, hzz⟩ := ecell hx; (try simp only [World.size_alloc] at hzz); (try (have hz0 := Nat.lt_of_succ_le hzz)); (try (have hz1 := Nat.lt_of_succ_lt hz0)); (try (have hz2 := Nat.lt_of_succ_lt hz1)); (try (have hz3 := Nat.lt_of_succ_lt hz2))) | (go_at_call 10; refine (refwords_any _ _ _ _ _).mono ?_; rintro e w1 ⟨rfl, hx⟩; obtain ⟨hcc, hff, hzz⟩ := ecell hx; (try simp only [World.size_alloc] at hzz); (try (have hz0 := Nat.lt_of_succ_le hzz)); (try (have hz1 := Nat.lt_of_succ_lt hz0)); (try (have hz2 := Nat.lt_of_succ_lt hz1)); (try (have hz3 := Nat.lt_of_succ_lt hz2))))
            all_goals go_ret
            all_goals exact ⟨ret_int (by rw [E.out, if_neg (by simp [hb]; omega), if_neg (by omega), hd2]; simp), (by repeat (first | (with_reducible exact Ext.refl _) | (with_reducible assumption) | (with_reducible refine Ext.drew ?_) | (with_reducible refine Ext.alloc ?_ _) | ((with_reducible refine Ext.setCell ?_ ?_ _); rotate_left; (focus (simp; try omega))) | (with_reducible refine Ext.trans ?_ (by assumption))))⟩
      · go_enter Try.func18, Try.ntmps18
        go_wp2_with (first | (go_at_call 8; refine (refcheck_any _ _ _ _ _).mono ?_; rintro e w1 ⟨rfl, hx⟩; obtain ⟨hcc, hff, hzz⟩ := ecell hx; (try simp only [World.size_alloc] at hzz); (try (have hz0 := Nat.lt_of_succ_le hzz)); (try (have hz1 := Nat.lt_of_succ_lt hz0)); (try (have hz2 := Nat.lt_of_succ_lt hz1)); (try (have hz3 := Nat.lt_of_succ_lt hz2))) | (go_at_call 10; refine (refwords_any _ _ _ _ _).mono ?_; rintro e w1 ⟨rfl, hx⟩; obtain ⟨hcc, hff, hzz⟩ := ecell hx; (try simp only [World.size_alloc] at hzz); (try (have hz0 := Nat.lt_of_succ_le hzz)); (try (have hz1 := Nat.lt_of_succ_lt hz0)); (try (have hz2 := Nat.lt_of_succ_lt hz1)); (try (have hz3 := Nat.lt_of_succ_lt hz2))))
        go_ret
        exact ⟨ret_int (by rw [E.out, if_pos (by omega)]), (by repeat (first | (with_reducible exact Ext.refl _) | (with_reducible assumption) | (with_reducible refine Ext.drew ?_) | (with_reducible refine Ext.alloc ?_ _) | ((with_reducible refine Ext.setCell ?_ ?_ _); rotate_left; (focus (simp; try omega))) | (with_reducible refine Ext.trans ?_ (by assumption))))⟩
    · go_enter Try.func18, Try.ntmps18
      go_wp2_with (first | (go_at_call 8; refine (refcheck_any _ _ _ _ _).mono ?_; rintro e w1 ⟨rfl, hx⟩; obtain ⟨hcc, hff, hzz⟩ := ecell hx; (try simp only [World.size_alloc] at hzz); (try (have hz0 := Nat.lt_of_succ_le hzz)); (try (have hz1 := Nat.lt_of_succ_lt hz0)); (try (have hz2 := Nat.lt_of_succ_lt hz1)); (try (have hz3 := Nat.lt_of_succ_lt hz2))) | (go_at_call 10; refine (refwords_any _ _ _ _ _).mono ?_; rintro e w1 ⟨rfl, hx⟩; obtain ⟨hcc, hff, hzz⟩ := ecell hx; (try simp only [World.size_alloc] at hzz); (try (have hz0 := Nat.lt_of_succ_le hzz)); (try (have hz1 := Nat.lt_of_succ_lt hz0)); (try (have hz2 := Nat.lt_of_succ_lt hz1)); (try (have hz3 := Nat.lt_of_succ_lt hz2))))
      go_ret
      exact ⟨ret_int (by rw [E.out, if_pos (by omega)]), (by repeat (first | (with_reducible exact Ext.refl _) | (with_reducible assumption) | (with_reducible refine Ext.drew ?_) | (with_reducible refine Ext.alloc ?_ _) | ((with_reducible refine Ext.setCell ?_ ?_ _); rotate_left; (focus (simp; try omega))) | (with_reducible refine Ext.trans ?_ (by assumption))))⟩
  · have hb' : cfgB s l t m = false := by simpa using hb
    have E : whereZ s l t m b p = 0 := by rw [where_eq, if_pos (Or.inl hb')]
    rw [E]
    go_enter Try.func18, Try.ntmps18
    go_wp2_with (first | (go_at_call 8; refine (refcheck_any _ _ _ _ _).mono ?_; rintro e w1 ⟨rfl, hx⟩; obtain ⟨hcc, hff, hzz⟩ := ecell hx; (try simp only [World.size_alloc] at hzz); (try (have hz0 := Nat.lt_of_succ_le hzz)); (try (have hz1 := Nat.lt_of_succ_lt hz0)); (try (have hz2 := Nat.lt_of_succ_lt hz1)); (try (have hz3 := Nat.lt_of_succ_lt hz2))) | (go_at_call 10; refine (refwords_any _ _ _ _ _).mono ?_; rintro e w1 ⟨rfl, hx⟩; obtain ⟨hcc, hff, hzz⟩ := ecell hx; (try simp only [World.size_alloc] at hzz); (try (have hz0 := Nat.lt_of_succ_le hzz)); (try (have hz1 := Nat.lt_of_succ_lt hz0)); (try (have hz2 := Nat.lt_of_succ_lt hz1)); (try (have hz3 := Nat.lt_of_succ_lt hz2))))
    go_ret
    exact ⟨rfl, (by repeat (first | (with_reducible exact Ext.refl _) | (with_reducible assumption) | (with_reducible refine Ext.drew ?_) | (with_reducible refine Ext.alloc ?_ _) | ((with_reducible refine Ext.setCell ?_ ?_ _); rotate_left; (focus (simp; try omega))) | (with_reducible refine Ext.trans ?_ (by assumption))))⟩
end Go.Proofs.Ytbdedcgecmbalaa
