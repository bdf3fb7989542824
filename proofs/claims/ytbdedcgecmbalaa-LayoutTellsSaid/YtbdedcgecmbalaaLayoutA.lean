/- The walks of the package layout, and of its reference, but for Where. -/
import Derived.Test.YtbdedcgecmbalaaSpanA
set_option linter.unusedSimpArgs false
set_option linter.unusedVariables false
namespace Go.Proofs.Ytbdedcgecmbalaa
open Go.RowKit

def cfgB (s l t m : Int) : Bool := decide (2 ≤ s ∧ s ≤ 32768 ∧ 1 ≤ m ∧ m ≤ s ∧ 0 ≤ l ∧ l ≤ 32768 ∧ 1 ≤ t ∧ t ≤ 1024)
def wordsZ (s l t m : Int) : Int := if cfgB s l t m then 2 * s + l else 0
def halfA (s l t m : Int) (b : Bool) : Int := if cfgB s l t m then (if b then s else 0) else 0
def halfS (s l t m : Int) : Int := if cfgB s l t m then s else 0
def largeA (s l t m : Int) : Int := if cfgB s l t m then (if l = 0 then 0 else 2 * s) else 0
def largeS (s l t m : Int) : Int := if cfgB s l t m then l else 0
def smallB (s l t m at_ : Int) : Bool := cfgB s l t m && decide (1 ≤ at_ ∧ at_ ≤ m)

theorem cfg_bd {s l t m : Int} (h : cfgB s l t m = true) : 2 ≤ s ∧ s ≤ 32768 ∧ 1 ≤ m ∧ m ≤ s ∧ 0 ≤ l ∧ l ≤ 32768 ∧ 1 ≤ t ∧ t ≤ 1024 := by
  simpa [cfgB] using h

set_option maxHeartbeats 400000 in
theorem check_any (s l t m : Int) (w : World) :
    Calls Try.prog 7 #[.agg #[.int .i64 (s), .int .i64 (l), .int .i64 (t), .int .i64 (m)]] w fun e w' => e = .returned (.bool (cfgB s l t m)) ∧ Ext w w' := by
  go_enter Try.func7, Try.ntmps7
  go_wp2
  all_goals go_ret
  all_goals exact ⟨ret_bool (by unfold cfgB; simp [*]; try omega), (by repeat (first | (with_reducible exact Ext.refl _) | (with_reducible assumption) | (with_reducible refine Ext.drew ?_) | (with_reducible refine Ext.alloc ?_ _) | ((with_reducible refine Ext.setCell ?_ ?_ _); rotate_left; (focus (simp; try omega))) | (with_reducible refine Ext.trans ?_ (by assumption))))⟩

set_option maxHeartbeats 400000 in
theorem refcheck_any (s l t m : Int) (w : World) :
    Calls Try.prog 8 #[.agg #[.int .i64 (s), .int .i64 (l), .int .i64 (t), .int .i64 (m)]] w fun e w' => e = .returned (.bool (cfgB s l t m)) ∧ Ext w w' := by
  go_enter Try.func8, Try.ntmps8
  go_wp2
  all_goals go_ret
  all_goals exact ⟨ret_bool (by unfold cfgB; rw [Bool.eq_iff_iff]; simp; omega), (by repeat (first | (with_reducible exact Ext.refl _) | (with_reducible assumption) | (with_reducible refine Ext.drew ?_) | (with_reducible refine Ext.alloc ?_ _) | ((with_reducible refine Ext.setCell ?_ ?_ _); rotate_left; (focus (simp; try omega))) | (with_reducible refine Ext.trans ?_ (by assumption))))⟩

set_option maxHeartbeats 400000 in
theorem words_any (s l t m : Int) (w : World) :
    Calls Try.prog 9 #[.agg #[.int .i64 (s), .int .i64 (l), .int .i64 (t), .int .i64 (m)]] w fun e w' => e = .returned (.int .i64 (wordsZ s l t m)) ∧ Ext w w' := by
  by_cases hb : cfgB s l t m = true
  · obtain ⟨h1, h2, h3, h4, h5, h6, h7, h8⟩ := cfg_bd hb
    go_enter Try.func9, Try.ntmps9
    go_wp2_with (go_at_call 7; refine (check_any _ _ _ _ _).mono ?_; rintro e w1 ⟨rfl, hx⟩; obtain ⟨hcc, hff, hzz⟩ := ecell hx; (try simp only [World.size_alloc] at hzz); (try (have hz0 := Nat.lt_of_succ_le hzz)); (try (have hz1 := Nat.lt_of_succ_lt hz0)); (try (have hz2 := Nat.lt_of_succ_lt hz1)); (try (have hz3 := Nat.lt_of_succ_lt hz2)))
    go_ret
    exact ⟨ret_int (by simp [wordsZ, hb]), (by repeat (first | (with_reducible exact Ext.refl _) | (with_reducible assumption) | (with_reducible refine Ext.drew ?_) | (with_reducible refine Ext.alloc ?_ _) | ((with_reducible refine Ext.setCell ?_ ?_ _); rotate_left; (focus (simp; try omega))) | (with_reducible refine Ext.trans ?_ (by assumption))))⟩
  · have hb' : cfgB s l t m = false := by simpa using hb
    go_enter Try.func9, Try.ntmps9
    go_wp2_with (go_at_call 7; refine (check_any _ _ _ _ _).mono ?_; rintro e w1 ⟨rfl, hx⟩; obtain ⟨hcc, hff, hzz⟩ := ecell hx; (try simp only [World.size_alloc] at hzz); (try (have hz0 := Nat.lt_of_succ_le hzz)); (try (have hz1 := Nat.lt_of_succ_lt hz0)); (try (have hz2 := Nat.lt_of_succ_lt hz1)); (try (have hz3 := Nat.lt_of_succ_lt hz2)))
    go_ret
    exact ⟨ret_int (by simp [wordsZ, hb']), (by repeat (first | (with_reducible exact Ext.refl _) | (with_reducible assumption) | (with_reducible refine Ext.drew ?_) | (with_reducible refine Ext.alloc ?_ _) | ((with_reducible refine Ext.setCell ?_ ?_ _); rotate_left; (focus (simp; try omega))) | (with_reducible refine Ext.trans ?_ (by assumption))))⟩

set_option maxHeartbeats 400000 in
theorem refwords_any (s l t m : Int) (w : World) :
    Calls Try.prog 10 #[.agg #[.int .i64 (s), .int .i64 (l), .int .i64 (t), .int .i64 (m)]] w fun e w' => e = .returned (.int .i64 (wordsZ s l t m)) ∧ Ext w w' := by
  by_cases hb : cfgB s l t m = true
  · obtain ⟨h1, h2, h3, h4, h5, h6, h7, h8⟩ := cfg_bd hb
    go_enter Try.func10, Try.ntmps10
    go_wp2_with (go_at_call 8; refine (refcheck_any _ _ _ _ _).mono ?_; rintro e w1 ⟨rfl, hx⟩; obtain ⟨hcc, hff, hzz⟩ := ecell hx; (try simp only [World.size_alloc] at hzz); (try (have hz0 := Nat.lt_of_succ_le hzz)); (try (have hz1 := Nat.lt_of_succ_lt hz0)); (try (have hz2 := Nat.lt_of_succ_lt hz1)); (try (have hz3 := Nat.lt_of_succ_lt hz2)))
    go_ret
    exact ⟨ret_int (by simp [wordsZ, hb]; omega), (by repeat (first | (with_reducible exact Ext.refl _) | (with_reducible assumption) | (with_reducible refine Ext.drew ?_) | (with_reducible refine Ext.alloc ?_ _) | ((with_reducible refine Ext.setCell ?_ ?_ _); rotate_left; (focus (simp; try omega))) | (with_reducible refine Ext.trans ?_ (by assumption))))⟩
  · have hb' : cfgB s l t m = false := by simpa using hb
    go_enter Try.func10, Try.ntmps10
    go_wp2_with (go_at_call 8; refine (refcheck_any _ _ _ _ _).mono ?_; rintro e w1 ⟨rfl, hx⟩; obtain ⟨hcc, hff, hzz⟩ := ecell hx; (try simp only [World.size_alloc] at hzz); (try (have hz0 := Nat.lt_of_succ_le hzz)); (try (have hz1 := Nat.lt_of_succ_lt hz0)); (try (have hz2 := Nat.lt_of_succ_lt hz1)); (try (have hz3 := Nat.lt_of_succ_lt hz2)))
    go_ret
    exact ⟨ret_int (by simp [wordsZ, hb']), (by repeat (first | (with_reducible exact Ext.refl _) | (with_reducible assumption) | (with_reducible refine Ext.drew ?_) | (with_reducible refine Ext.alloc ?_ _) | ((with_reducible refine Ext.setCell ?_ ?_ _); rotate_left; (focus (simp; try omega))) | (with_reducible refine Ext.trans ?_ (by assumption))))⟩


theorem parts_yes {s l t m : Int} {b : Bool} (hb : cfgB s l t m = true) : (.agg #[.int .i64 (halfA s l t m b), .int .i64 (halfS s l t m), .int .i64 (halfA s l t m (!b)), .int .i64 (halfS s l t m), .int .i64 (largeA s l t m), .int .i64 (largeS s l t m)] : Value) = Value.agg #[.int .i64 (if b then s else 0), .int .i64 s, .int .i64 (if b then 0 else s), .int .i64 s, .int .i64 (if l = 0 then 0 else 2 * s), .int .i64 l] := by
  cases b <;> simp [halfA, halfS, largeA, largeS, hb]
theorem parts_no {s l t m : Int} {b : Bool} (hb : cfgB s l t m = false) : (.agg #[.int .i64 (halfA s l t m b), .int .i64 (halfS s l t m), .int .i64 (halfA s l t m (!b)), .int .i64 (halfS s l t m), .int .i64 (largeA s l t m), .int .i64 (largeS s l t m)] : Value) = Value.agg #[.int .i64 0, .int .i64 0, .int .i64 0, .int .i64 0, .int .i64 0, .int .i64 0] := by
  cases b <;> simp [halfA, halfS, largeA, largeS, hb]

set_option maxHeartbeats 1000000 in
theorem parts_any (s l t m : Int) (b : Bool) (w : World) :
    Calls Try.prog 32 #[.agg #[.int .i64 (s), .int .i64 (l), .int .i64 (t), .int .i64 (m)], .bool b] w fun e w' => e = .returned (.agg #[.int .i64 (halfA s l t m b), .int .i64 (halfS s l t m), .int .i64 (halfA s l t m (!b)), .int .i64 (halfS s l t m), .int .i64 (largeA s l t m), .int .i64 (largeS s l t m)]) ∧ Ext w w' := by
  by_cases hb : cfgB s l t m = true
  · rw [parts_yes hb]
    obtain ⟨h1, h2, h3, h4, h5, h6, h7, h8⟩ := cfg_bd hb
    by_cases h9 : l = 0
    · subst h9
      cases b
      · go_enter Try.func32, Try.ntmps32
        go_wp2_with (go_at_call 7; refine (check_any _ _ _ _ _).mono ?_; rintro e w1 ⟨rfl, hx⟩; obtain ⟨hcc, hff, hzz⟩ := ecell hx; (try simp only [World.size_alloc] at hzz); (try (have hz0 := Nat.lt_of_succ_le hzz)); (try (have hz1 := Nat.lt_of_succ_lt hz0)); (try (have hz2 := Nat.lt_of_succ_lt hz1)); (try (have hz3 := Nat.lt_of_succ_lt hz2)))
        ((try simp only [Exit.inBlock, Exit.then]); refine bodyPost_ret (v := .agg #[.int .i64 0, .int .i64 s, .int .i64 s, .int .i64 s, .int .i64 0, .int .i64 0]) (by simp only [results, Try.results32]; go_simp) rfl ?_)
        exact ⟨rfl, (by repeat (first | (with_reducible exact Ext.refl _) | (with_reducible assumption) | (with_reducible refine Ext.drew ?_) | (with_reducible refine Ext.alloc ?_ _) | ((with_reducible refine Ext.setCell ?_ ?_ _); rotate_left; (focus (simp; try omega))) | (with_reducible refine Ext.trans ?_ (by assumption))))⟩
      · go_enter Try.func32, Try.ntmps32
        go_wp2_with (go_at_call 7; refine (check_any _ _ _ _ _).mono ?_; rintro e w1 ⟨rfl, hx⟩; obtain ⟨hcc, hff, hzz⟩ := ecell hx; (try simp only [World.size_alloc] at hzz); (try (have hz0 := Nat.lt_of_succ_le hzz)); (try (have hz1 := Nat.lt_of_succ_lt hz0)); (try (have hz2 := Nat.lt_of_succ_lt hz1)); (try (have hz3 := Nat.lt_of_succ_lt hz2)))
        ((try simp only [Exit.inBlock, Exit.then]); refine bodyPost_ret (v := .agg #[.int .i64 s, .int .i64 s, .int .i64 0, .int .i64 s, .int .i64 0, .int .i64 0]) (by simp only [results, Try.results32]; go_simp) rfl ?_)
        exact ⟨rfl, (by repeat (first | (with_reducible exact Ext.refl _) | (with_reducible assumption) | (with_reducible refine Ext.drew ?_) | (with_reducible refine Ext.alloc ?_ _) | ((with_reducible refine Ext.setCell ?_ ?_ _); rotate_left; (focus (simp; try omega))) | (with_reducible refine Ext.trans ?_ (by assumption))))⟩
    · have hl : ((l : Int) == 0) = false := by simpa using h9
      rw [if_neg h9]
      cases b
      · go_enter Try.func32, Try.ntmps32
        go_wp2_with (go_at_call 7; refine (check_any _ _ _ _ _).mono ?_; rintro e w1 ⟨rfl, hx⟩; obtain ⟨hcc, hff, hzz⟩ := ecell hx; (try simp only [World.size_alloc] at hzz); (try (have hz0 := Nat.lt_of_succ_le hzz)); (try (have hz1 := Nat.lt_of_succ_lt hz0)); (try (have hz2 := Nat.lt_of_succ_lt hz1)); (try (have hz3 := Nat.lt_of_succ_lt hz2)))
        ((try simp only [Exit.inBlock, Exit.then]); refine bodyPost_ret (v := .agg #[.int .i64 0, .int .i64 s, .int .i64 s, .int .i64 s, .int .i64 (2 * s), .int .i64 l]) (by simp only [results, Try.results32]; go_simp) rfl ?_)
        exact ⟨rfl, (by repeat (first | (with_reducible exact Ext.refl _) | (with_reducible assumption) | (with_reducible refine Ext.drew ?_) | (with_reducible refine Ext.alloc ?_ _) | ((with_reducible refine Ext.setCell ?_ ?_ _); rotate_left; (focus (simp; try omega))) | (with_reducible refine Ext.trans ?_ (by assumption))))⟩
      · go_enter Try.func32, Try.ntmps32
        go_wp2_with (go_at_call 7; refine (check_any _ _ _ _ _).mono ?_; rintro e w1 ⟨rfl, hx⟩; obtain ⟨hcc, hff, hzz⟩ := ecell hx; (try simp only [World.size_alloc] at hzz); (try (have hz0 := Nat.lt_of_succ_le hzz)); (try (have hz1 := Nat.lt_of_succ_lt hz0)); (try (have hz2 := Nat.lt_of_succ_lt hz1)); (try (have hz3 := Nat.lt_of_succ_lt hz2)))
        ((try simp only [Exit.inBlock, Exit.then]); refine bodyPost_ret (v := .agg #[.int .i64 s, .int .i64 s, .int .i64 0, .int .i64 s, .int .i64 (2 * s), .int .i64 l]) (by simp only [results, Try.results32]; go_simp) rfl ?_)
        exact ⟨rfl, (by repeat (first | (with_reducible exact Ext.refl _) | (with_reducible assumption) | (with_reducible refine Ext.drew ?_) | (with_reducible refine Ext.alloc ?_ _) | ((with_reducible refine Ext.setCell ?_ ?_ _); rotate_left; (focus (simp; try omega))) | (with_reducible refine Ext.trans ?_ (by assumption))))⟩
  · have hb' : cfgB s l t m = false := by simpa using hb
    rw [parts_no hb']
    go_enter Try.func32, Try.ntmps32
    go_wp2_with (go_at_call 7; refine (check_any _ _ _ _ _).mono ?_; rintro e w1 ⟨rfl, hx⟩; obtain ⟨hcc, hff, hzz⟩ := ecell hx; (try simp only [World.size_alloc] at hzz); (try (have hz0 := Nat.lt_of_succ_le hzz)); (try (have hz1 := Nat.lt_of_succ_lt hz0)); (try (have hz2 := Nat.lt_of_succ_lt hz1)); (try (have hz3 := Nat.lt_of_succ_lt hz2)))
    ((try simp only [Exit.inBlock, Exit.then]); refine bodyPost_ret (v := .agg #[.int .i64 0, .int .i64 0, .int .i64 0, .int .i64 0, .int .i64 0, .int .i64 0]) (by simp only [results, Try.results32]; go_simp) rfl ?_)
    exact ⟨rfl, (by repeat (first | (with_reducible exact Ext.refl _) | (with_reducible assumption) | (with_reducible refine Ext.drew ?_) | (with_reducible refine Ext.alloc ?_ _) | ((with_reducible refine Ext.setCell ?_ ?_ _); rotate_left; (focus (simp; try omega))) | (with_reducible refine Ext.trans ?_ (by assumption))))⟩

theorem idx0 (v0 v1 v2 v3 v4 v5 : Value) (w : World) : (Instr.index 51 (.agg #[v0, v1, v2, v3, v4, v5]) (.int .i64 0)).run Try.prog w = .ok (.agg #[v0, v1]) w := by kernel_rfl
theorem idx1 (v0 v1 v2 v3 v4 v5 : Value) (w : World) : (Instr.index 51 (.agg #[v0, v1, v2, v3, v4, v5]) (.int .i64 1)).run Try.prog w = .ok (.agg #[v2, v3]) w := by kernel_rfl
theorem idx2 (v0 v1 v2 v3 v4 v5 : Value) (w : World) : (Instr.index 51 (.agg #[v0, v1, v2, v3, v4, v5]) (.int .i64 2)).run Try.prog w = .ok (.agg #[v4, v5]) w := by kernel_rfl

set_option maxHeartbeats 400000 in
theorem from_any (s l t m : Int) (b : Bool) (w : World) :
    Calls Try.prog 11 #[.agg #[.int .i64 (s), .int .i64 (l), .int .i64 (t), .int .i64 (m)], .bool b] w fun e w' => e = .returned (.agg #[.int .i64 (halfA s l t m b), .int .i64 (halfS s l t m)]) ∧ Ext w w' := by
  have i0 := idx0
  go_enter Try.func11, Try.ntmps11
  go_wp2_with (go_at_call 32; refine (parts_any _ _ _ _ _ _).mono ?_; rintro e w1 ⟨rfl, hx⟩; obtain ⟨hcc, hff, hzz⟩ := ecell hx; (try simp only [World.size_alloc] at hzz); (try (have hz0 := Nat.lt_of_succ_le hzz)); (try (have hz1 := Nat.lt_of_succ_lt hz0)); (try (have hz2 := Nat.lt_of_succ_lt hz1)); (try (have hz3 := Nat.lt_of_succ_lt hz2)))
  ((try simp only [Exit.inBlock, Exit.then]); refine bodyPost_ret (v := .agg #[.int .i64 (halfA s l t m b), .int .i64 (halfS s l t m)]) (by simp only [results, Try.results11]; go_simp) rfl ?_)
  exact ⟨rfl, (by repeat (first | (with_reducible exact Ext.refl _) | (with_reducible assumption) | (with_reducible refine Ext.drew ?_) | (with_reducible refine Ext.alloc ?_ _) | ((with_reducible refine Ext.setCell ?_ ?_ _); rotate_left; (focus (simp; try omega))) | (with_reducible refine Ext.trans ?_ (by assumption))))⟩
set_option maxHeartbeats 400000 in
theorem to_any (s l t m : Int) (b : Bool) (w : World) :
    Calls Try.prog 13 #[.agg #[.int .i64 (s), .int .i64 (l), .int .i64 (t), .int .i64 (m)], .bool b] w fun e w' => e = .returned (.agg #[.int .i64 (halfA s l t m (!b)), .int .i64 (halfS s l t m)]) ∧ Ext w w' := by
  have i0 := idx1
  go_enter Try.func13, Try.ntmps13
  go_wp2_with (go_at_call 32; refine (parts_any _ _ _ _ _ _).mono ?_; rintro e w1 ⟨rfl, hx⟩; obtain ⟨hcc, hff, hzz⟩ := ecell hx; (try simp only [World.size_alloc] at hzz); (try (have hz0 := Nat.lt_of_succ_le hzz)); (try (have hz1 := Nat.lt_of_succ_lt hz0)); (try (have hz2 := Nat.lt_of_succ_lt hz1)); (try (have hz3 := Nat.lt_of_succ_lt hz2)))
  ((try simp only [Exit.inBlock, Exit.then]); refine bodyPost_ret (v := .agg #[.int .i64 (halfA s l t m (!b)), .int .i64 (halfS s l t m)]) (by simp only [results, Try.results13]; go_simp) rfl ?_)
  exact ⟨rfl, (by repeat (first | (with_reducible exact Ext.refl _) | (with_reducible assumption) | (with_reducible refine Ext.drew ?_) | (with_reducible refine Ext.alloc ?_ _) | ((with_reducible refine Ext.setCell ?_ ?_ _); rotate_left; (focus (simp; try omega))) | (with_reducible refine Ext.trans ?_ (by assumption))))⟩
set_option maxHeartbeats 400000 in
theorem large_any (s l t m : Int) (w : World) :
    Calls Try.prog 15 #[.agg #[.int .i64 (s), .int .i64 (l), .int .i64 (t), .int .i64 (m)]] w fun e w' => e = .returned (.agg #[.int .i64 (largeA s l t m), .int .i64 (largeS s l t m)]) ∧ Ext w w' := by
  have i0 := idx2
  go_enter Try.func15, Try.ntmps15
  go_wp2_with (go_at_call 32; refine (parts_any _ _ _ _ _ _).mono ?_; rintro e w1 ⟨rfl, hx⟩; obtain ⟨hcc, hff, hzz⟩ := ecell hx; (try simp only [World.size_alloc] at hzz); (try (have hz0 := Nat.lt_of_succ_le hzz)); (try (have hz1 := Nat.lt_of_succ_lt hz0)); (try (have hz2 := Nat.lt_of_succ_lt hz1)); (try (have hz3 := Nat.lt_of_succ_lt hz2)))
  ((try simp only [Exit.inBlock, Exit.then]); refine bodyPost_ret (v := .agg #[.int .i64 (largeA s l t m), .int .i64 (largeS s l t m)]) (by simp only [results, Try.results15]; go_simp) rfl ?_)
  exact ⟨rfl, (by repeat (first | (with_reducible exact Ext.refl _) | (with_reducible assumption) | (with_reducible refine Ext.drew ?_) | (with_reducible refine Ext.alloc ?_ _) | ((with_reducible refine Ext.setCell ?_ ?_ _); rotate_left; (focus (simp; try omega))) | (with_reducible refine Ext.trans ?_ (by assumption))))⟩

set_option maxHeartbeats 400000 in
theorem small_any (s l t m at_ : Int) (w : World) :
    Calls Try.prog 19 #[.agg #[.int .i64 (s), .int .i64 (l), .int .i64 (t), .int .i64 (m)], .int .i64 at_] w fun e w' => e = .returned (.bool (smallB s l t m at_)) ∧ Ext w w' := by
  by_cases hb : cfgB s l t m = true
  · go_enter Try.func19, Try.ntmps19
    go_wp2_with (go_at_call 7; refine (check_any _ _ _ _ _).mono ?_; rintro e w1 ⟨rfl, hx⟩; obtain ⟨hcc, hff, hzz⟩ := ecell hx; (try simp only [World.size_alloc] at hzz); (try (have hz0 := Nat.lt_of_succ_le hzz)); (try (have hz1 := Nat.lt_of_succ_lt hz0)); (try (have hz2 := Nat.lt_of_succ_lt hz1)); (try (have hz3 := Nat.lt_of_succ_lt hz2)))
    all_goals go_ret
    all_goals exact ⟨ret_bool (by unfold smallB; simp [*]; try omega), (by repeat (first | (with_reducible exact Ext.refl _) | (with_reducible assumption) | (with_reducible refine Ext.drew ?_) | (with_reducible refine Ext.alloc ?_ _) | ((with_reducible refine Ext.setCell ?_ ?_ _); rotate_left; (focus (simp; try omega))) | (with_reducible refine Ext.trans ?_ (by assumption))))⟩
  · have hb' : cfgB s l t m = false := by simpa using hb
    go_enter Try.func19, Try.ntmps19
    go_wp2_with (go_at_call 7; refine (check_any _ _ _ _ _).mono ?_; rintro e w1 ⟨rfl, hx⟩; obtain ⟨hcc, hff, hzz⟩ := ecell hx; (try simp only [World.size_alloc] at hzz); (try (have hz0 := Nat.lt_of_succ_le hzz)); (try (have hz1 := Nat.lt_of_succ_lt hz0)); (try (have hz2 := Nat.lt_of_succ_lt hz1)); (try (have hz3 := Nat.lt_of_succ_lt hz2)))
    go_ret
    exact ⟨ret_bool (by unfold smallB; simp [hb']), (by repeat (first | (with_reducible exact Ext.refl _) | (with_reducible assumption) | (with_reducible refine Ext.drew ?_) | (with_reducible refine Ext.alloc ?_ _) | ((with_reducible refine Ext.setCell ?_ ?_ _); rotate_left; (focus (simp; try omega))) | (with_reducible refine Ext.trans ?_ (by assumption))))⟩
end Go.Proofs.Ytbdedcgecmbalaa
