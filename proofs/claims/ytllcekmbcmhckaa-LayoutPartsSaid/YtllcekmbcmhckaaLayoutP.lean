/- The walks of the package layout, without its reference. -/
import Derived.Test.YtllcekmbcmhckaaSpanA
set_option linter.unusedSimpArgs false
set_option linter.unusedVariables false
namespace Go.Proofs.Ytllcekmbcmhckaa
open Go.RowKit

def cfgB (s l t m : Int) : Bool := decide (2 ≤ s ∧ s ≤ 32768 ∧ 1 ≤ m ∧ m ≤ s ∧ 0 ≤ l ∧ l ≤ 32768 ∧ 1 ≤ t ∧ t ≤ 1024)
def wordsZ (s l t m : Int) : Int := if cfgB s l t m then 2 * s + l else 0
def halfA (s l t m : Int) (b : Bool) : Int := if cfgB s l t m then (if b then s else 0) else 0
def halfS (s l t m : Int) : Int := if cfgB s l t m then s else 0
def largeA (s l t m : Int) : Int := if cfgB s l t m then (if l = 0 then 0 else 2 * s) else 0
def largeS (s l t m : Int) : Int := if cfgB s l t m then l else 0
def smallB (s l t m at_ : Int) : Bool := cfgB s l t m && decide (1 ≤ at_ ∧ at_ ≤ m)

theorem cfg_bd {s l t m : Int} (h : cfgB s l t m = true) : 2 ≤ s ∧ s ≤ 32768 ∧ 1 ≤ m ∧ m ≤ s ∧ 0 ≤ l ∧ l ≤ 32768 ∧ 1 ≤ t ∧ t ≤ 1024 := by
  simpa [cfgB] using h

set_option maxHeartbeats 400000 in
theorem check_any (s l t m : Int) (w : World) :
    Calls Try.prog 33 #[.agg #[.int .i64 (s), .int .i64 (l), .int .i64 (t), .int .i64 (m)]] w fun e w' => e = .returned (.bool (cfgB s l t m)) ∧ Ext w w' := by
  go_enter Try.func33, Try.ntmps33
  go_wp2
  all_goals go_ret
  all_goals exact ⟨ret_bool (by unfold cfgB; simp [*]; try omega), (by repeat (first | (with_reducible exact Ext.refl _) | (with_reducible assumption) | (with_reducible refine Ext.drew ?_) | (with_reducible refine Ext.alloc ?_ _) | ((with_reducible refine Ext.setCell ?_ ?_ _); rotate_left; (focus (simp; try omega))) | (with_reducible refine Ext.trans ?_ (by assumption))))⟩

set_option maxHeartbeats 400000 in
theorem words_any (s l t m : Int) (w : World) :
    Calls Try.prog 35 #[.agg #[.int .i64 (s), .int .i64 (l), .int .i64 (t), .int .i64 (m)]] w fun e w' => e = .returned (.int .i64 (wordsZ s l t m)) ∧ Ext w w' := by
  by_cases hb : cfgB s l t m = true
  · obtain ⟨h1, h2, h3, h4, h5, h6, h7, h8⟩ := cfg_bd hb
    go_enter Try.func35, Try.ntmps35
    go_wp2_with (go_at_call 33; refine (check_any _ _ _ _ _).mono ?_; rintro e w1 ⟨rfl, hx⟩; obtain ⟨hcc, hff, hzz⟩ := ecell hx; (try simp only [World.size_alloc] at hzz); (try (have hz0 := Nat.lt_of_succ_le hzz)); (try (have hz1 := Nat.lt_of_succ_lt hz0)); (try (have hz2 := Nat.lt_of_succ_lt hz1)); (try (have hz3 := Nat.lt_of_succ_lt hz2)))
    go_ret
    exact ⟨ret_int (by simp [wordsZ, hb]), (by repeat (first | (with_reducible exact Ext.refl _) | (with_reducible assumption) | (with_reducible refine Ext.drew ?_) | (with_reducible refine Ext.alloc ?_ _) | ((with_reducible refine Ext.setCell ?_ ?_ _); rotate_left; (focus (simp; try omega))) | (with_reducible refine Ext.trans ?_ (by assumption))))⟩
  · have hb' : cfgB s l t m = false := by simpa using hb
    go_enter Try.func35, Try.ntmps35
    go_wp2_with (go_at_call 33; refine (check_any _ _ _ _ _).mono ?_; rintro e w1 ⟨rfl, hx⟩; obtain ⟨hcc, hff, hzz⟩ := ecell hx; (try simp only [World.size_alloc] at hzz); (try (have hz0 := Nat.lt_of_succ_le hzz)); (try (have hz1 := Nat.lt_of_succ_lt hz0)); (try (have hz2 := Nat.lt_of_succ_lt hz1)); (try (have hz3 := Nat.lt_of_succ_lt hz2)))
    go_ret
    exact ⟨ret_int (by simp [wordsZ, hb']), (by repeat (first | (with_reducible exact Ext.refl _) | (with_reducible assumption) | (with_reducible refine Ext.drew ?_) | (with_reducible refine Ext.alloc ?_ _) | ((with_reducible refine Ext.setCell ?_ ?_ _); rotate_left; (focus (simp; try omega))) | (with_reducible refine Ext.trans ?_ (by assumption))))⟩


theorem parts_yes {s l t m : Int} {b : Bool} (hb : cfgB s l t m = true) : (.agg #[.int .i64 (halfA s l t m b), .int .i64 (halfS s l t m), .int .i64 (halfA s l t m (!b)), .int .i64 (halfS s l t m), .int .i64 (largeA s l t m), .int .i64 (largeS s l t m)] : Value) = Value.agg #[.int .i64 (if b then s else 0), .int .i64 s, .int .i64 (if b then 0 else s), .int .i64 s, .int .i64 (if l = 0 then 0 else 2 * s), .int .i64 l] := by
  cases b <;> simp [halfA, halfS, largeA, largeS, hb]
theorem parts_no {s l t m : Int} {b : Bool} (hb : cfgB s l t m = false) : (.agg #[.int .i64 (halfA s l t m b), .int .i64 (halfS s l t m), .int .i64 (halfA s l t m (!b)), .int .i64 (halfS s l t m), .int .i64 (largeA s l t m), .int .i64 (largeS s l t m)] : Value) = Value.agg #[.int .i64 0, .int .i64 0, .int .i64 0, .int .i64 0, .int .i64 0, .int .i64 0] := by
  cases b <;> simp [halfA, halfS, largeA, largeS, hb]

set_option maxHeartbeats 1000000 in
theorem parts_any (s l t m : Int) (b : Bool) (w : World) :
    Calls Try.prog 66 #[.agg #[.int .i64 (s), .int .i64 (l), .int .i64 (t), .int .i64 (m)], .bool b] w fun e w' => e = .returned (.agg #[.int .i64 (halfA s l t m b), .int .i64 (halfS s l t m), .int .i64 (halfA s l t m (!b)), .int .i64 (halfS s l t m), .int .i64 (largeA s l t m), .int .i64 (largeS s l t m)]) ∧ Ext w w' := by
  by_cases hb : cfgB s l t m = true
  · rw [parts_yes hb]
    obtain ⟨h1, h2, h3, h4, h5, h6, h7, h8⟩ := cfg_bd hb
    by_cases h9 : l = 0
    · subst h9
      cases b
      · go_enter Try.func66, Try.ntmps66
        go_wp2_with (go_at_call 33; refine (check_any _ _ _ _ _).mono ?_; rintro e w1 ⟨rfl, hx⟩; obtain ⟨hcc, hff, hzz⟩ := ecell hx; (try simp only [World.size_alloc] at hzz); (try (have hz0 := Nat.lt_of_succ_le hzz)); (try (have hz1 := Nat.lt_of_succ_lt hz0)); (try (have hz2 := Nat.lt_of_succ_lt hz1)); (try (have hz3 := Nat.lt_of_succ_lt hz2)))
        ((try simp only [Exit.inBlock, Exit.then]); refine bodyPost_ret (v := .agg #[.int .i64 0, .int .i64 s, .int .i64 s, .int .i64 s, .int .i64 0, .int .i64 0]) (by simp only [results, Try.results66]; go_simp) rfl ?_)
        exact ⟨rfl, (by repeat (first | (with_reducible exact Ext.refl _) | (with_reducible assumption) | (with_reducible refine Ext.drew ?_) | (with_reducible refine Ext.alloc ?_ _) | ((with_reducible refine Ext.setCell ?_ ?_ _); rotate_left; (focus (simp; try omega))) | (with_reducible refine Ext.trans ?_ (by assumption))))⟩
      · go_enter Try.func66, Try.ntmps66
        go_wp2_with (go_at_call 33; refine (check_any _ _ _ _ _).mono ?_; rintro e w1 ⟨rfl, hx⟩; obtain ⟨hcc, hff, hzz⟩ := ecell hx; (try simp only [World.size_alloc] at hzz); (try (have hz0 := Nat.lt_of_succ_le hzz)); (try (have hz1 := Nat.lt_of_succ_lt hz0)); (try (have hz2 := Nat.lt_of_succ_lt hz1)); (try (have hz3 := Nat.lt_of_succ_lt hz2)))
        ((try simp only [Exit.inBlock, Exit.then]); refine bodyPost_ret (v := .agg #[.int .i64 s, .int .i64 s, .int .i64 0, .int .i64 s, .int .i64 0, .int .i64 0]) (by simp only [results, Try.results66]; go_simp) rfl ?_)
        exact ⟨rfl, (by repeat (first | (with_reducible exact Ext.refl _) | (with_reducible assumption) | (with_reducible refine Ext.drew ?_) | (with_reducible refine Ext.alloc ?_ _) | ((with_reducible refine Ext.setCell ?_ ?_ _); rotate_left; (focus (simp; try omega))) | (with_reducible refine Ext.trans ?_ (by assumption))))⟩
    · have hl : ((l : Int) == 0) = false := by simpa using h9
      rw [if_neg h9]
      cases b
      · go_enter Try.func66, Try.ntmps66
        go_wp2_with (go_at_call 33; refine (check_any _ _ _ _ _).mono ?_; rintro e w1 ⟨rfl, hx⟩; obtain ⟨hcc, hff, hzz⟩ := ecell hx; (try simp only [World.size_alloc] at hzz); (try (have hz0 := Nat.lt_of_succ_le hzz)); (try (have hz1 := Nat.lt_of_succ_lt hz0)); (try (have hz2 := Nat.lt_of_succ_lt hz1)); (try (have hz3 := Nat.lt_of_succ_lt hz2)))
        ((try simp only [Exit.inBlock, Exit.then]); refine bodyPost_ret (v := .agg #[.int .i64 0, .int .i64 s, .int .i64 s, .int .i64 s, .int .i64 (2 * s), .int .i64 l]) (by simp only [results, Try.results66]; go_simp) rfl ?_)
        exact ⟨rfl, (by repeat (first | (with_reducible exact Ext.refl _) | (with_reducible assumption) | (with_reducible refine Ext.drew ?_) | (with_reducible refine Ext.alloc ?_ _) | ((with_reducible refine Ext.setCell ?_ ?_ _); rotate_left; (focus (simp; try omega))) | (with_reducible refine Ext.trans ?_ (by assumption))))⟩
      · go_enter Try.func66, Try.ntmps66
        go_wp2_with (go_at_call 33; refine (check_any _ _ _ _ _).mono ?_; rintro e w1 ⟨rfl, hx⟩; obtain ⟨hcc, hff, hzz⟩ := ecell hx; (try simp only [World.size_alloc] at hzz); (try (have hz0 := Nat.lt_of_succ_le hzz)); (try (have hz1 := Nat.lt_of_succ_lt hz0)); (try (have hz2 := Nat.lt_of_succ_lt hz1)); (try (have hz3 := Nat.lt_of_succ_lt hz2)))
        ((try simp only [Exit.inBlock, Exit.then]); refine bodyPost_ret (v := .agg #[.int .i64 s, .int .i64 s, .int .i64 0, .int .i64 s, .int .i64 (2 * s), .int .i64 l]) (by simp only [results, Try.results66]; go_simp) rfl ?_)
        exact ⟨rfl, (by repeat (first | (with_reducible exact Ext.refl _) | (with_reducible assumption) | (with_reducible refine Ext.drew ?_) | (with_reducible refine Ext.alloc ?_ _) | ((with_reducible refine Ext.setCell ?_ ?_ _); rotate_left; (focus (simp; try omega))) | (with_reducible refine Ext.trans ?_ (by assumption))))⟩
  · have hb' : cfgB s l t m = false := by simpa using hb
    rw [parts_no hb']
    go_enter Try.func66, Try.ntmps66
    go_wp2_with (go_at_call 33; refine (check_any _ _ _ _ _).mono ?_; rintro e w1 ⟨rfl, hx⟩; obtain ⟨hcc, hff, hzz⟩ := ecell hx; (try simp only [World.size_alloc] at hzz); (try (have hz0 := Nat.lt_of_succ_le hzz)); (try (have hz1 := Nat.lt_of_succ_lt hz0)); (try (have hz2 := Nat.lt_of_succ_lt hz1)); (try (have hz3 := Nat.lt_of_succ_lt hz2)))
    ((try simp only [Exit.inBlock, Exit.then]); refine bodyPost_ret (v := .agg #[.int .i64 0, .int .i64 0, .int .i64 0, .int .i64 0, .int .i64 0, .int .i64 0]) (by simp only [results, Try.results66]; go_simp) rfl ?_)
    exact ⟨rfl, (by repeat (first | (with_reducible exact Ext.refl _) | (with_reducible assumption) | (with_reducible refine Ext.drew ?_) | (with_reducible refine Ext.alloc ?_ _) | ((with_reducible refine Ext.setCell ?_ ?_ _); rotate_left; (focus (simp; try omega))) | (with_reducible refine Ext.trans ?_ (by assumption))))⟩

theorem idx0 (v0 v1 v2 v3 v4 v5 : Value) (w : World) : (Instr.index 66 (.agg #[v0, v1, v2, v3, v4, v5]) (.int .i64 0)).run Try.prog w = .ok (.agg #[v0, v1]) w := by kernel_rfl
theorem idx1 (v0 v1 v2 v3 v4 v5 : Value) (w : World) : (Instr.index 66 (.agg #[v0, v1, v2, v3, v4, v5]) (.int .i64 1)).run Try.prog w = .ok (.agg #[v2, v3]) w := by kernel_rfl
theorem idx2 (v0 v1 v2 v3 v4 v5 : Value) (w : World) : (Instr.index 66 (.agg #[v0, v1, v2, v3, v4, v5]) (.int .i64 2)).run Try.prog w = .ok (.agg #[v4, v5]) w := by kernel_rfl

set_option maxHeartbeats 400000 in
theorem from_any (s l t m : Int) (b : Bool) (w : World) :
    Calls Try.prog 34 #[.agg #[.int .i64 (s), .int .i64 (l), .int .i64 (t), .int .i64 (m)], .bool b] w fun e w' => e = .returned (.agg #[.int .i64 (halfA s l t m b), .int .i64 (halfS s l t m)]) ∧ Ext w w' := by
  have i0 := idx0
  go_enter Try.func34, Try.ntmps34
  go_wp2_with (go_at_call 66; refine (parts_any _ _ _ _ _ _).mono ?_; rintro e w1 ⟨rfl, hx⟩; obtain ⟨hcc, hff, hzz⟩ := ecell hx; (try simp only [World.size_alloc] at hzz); (try (have hz0 := Nat.lt_of_succ_le hzz)); (try (have hz1 := Nat.lt_of_succ_lt hz0)); (try (have hz2 := Nat.lt_of_succ_lt hz1)); (try (have hz3 := Nat.lt_of_succ_lt hz2)))
  ((try simp only [Exit.inBlock, Exit.then]); refine bodyPost_ret (v := .agg #[.int .i64 (halfA s l t m b), .int .i64 (halfS s l t m)]) (by simp only [results, Try.results34]; go_simp) rfl ?_)
  exact ⟨rfl, (by repeat (first | (with_reducible exact Ext.refl _) | (with_reducible assumption) | (with_reducible refine Ext.drew ?_) | (with_reducible refine Ext.alloc ?_ _) | ((with_reducible refine Ext.setCell ?_ ?_ _); rotate_left; (focus (simp; try omega))) | (with_reducible refine Ext.trans ?_ (by assumption))))⟩
set_option maxHeartbeats 400000 in
theorem to_any (s l t m : Int) (b : Bool) (w : World) :
    Calls Try.prog 37 #[.agg #[.int .i64 (s), .int .i64 (l), .int .i64 (t), .int .i64 (m)], .bool b] w fun e w' => e = .returned (.agg #[.int .i64 (halfA s l t m (!b)), .int .i64 (halfS s l t m)]) ∧ Ext w w' := by
  have i0 := idx1
  go_enter Try.func37, Try.ntmps37
  go_wp2_with (go_at_call 66; refine (parts_any _ _ _ _ _ _).mono ?_; rintro e w1 ⟨rfl, hx⟩; obtain ⟨hcc, hff, hzz⟩ := ecell hx; (try simp only [World.size_alloc] at hzz); (try (have hz0 := Nat.lt_of_succ_le hzz)); (try (have hz1 := Nat.lt_of_succ_lt hz0)); (try (have hz2 := Nat.lt_of_succ_lt hz1)); (try (have hz3 := Nat.lt_of_succ_lt hz2)))
  ((try simp only [Exit.inBlock, Exit.then]); refine bodyPost_ret (v := .agg #[.int .i64 (halfA s l t m (!b)), .int .i64 (halfS s l t m)]) (by simp only [results, Try.results37]; go_simp) rfl ?_)
  exact ⟨rfl, (by repeat (first | (with_reducible exact Ext.refl _) | (with_reducible assumption) | (with_reducible refine Ext.drew ?_) | (with_reducible refine Ext.alloc ?_ _) | ((with_reducible refine Ext.setCell ?_ ?_ _); rotate_left; (focus (simp; try omega))) | (with_reducible refine Ext.trans ?_ (by assumption))))⟩
set_option maxHeartbeats 400000 in
theorem large_any (s l t m : Int) (w : World) :
    Calls Try.prog 38 #[.agg #[.int .i64 (s), .int .i64 (l), .int .i64 (t), .int .i64 (m)]] w fun e w' => e = .returned (.agg #[.int .i64 (largeA s l t m), .int .i64 (largeS s l t m)]) ∧ Ext w w' := by
  have i0 := idx2
  go_enter Try.func38, Try.ntmps38
  go_wp2_with (go_at_call 66; refine (parts_any _ _ _ _ _ _).mono ?_; rintro e w1 ⟨rfl, hx⟩; obtain ⟨hcc, hff, hzz⟩ := ecell hx; (try simp only [World.size_alloc] at hzz); (try (have hz0 := Nat.lt_of_succ_le hzz)); (try (have hz1 := Nat.lt_of_succ_lt hz0)); (try (have hz2 := Nat.lt_of_succ_lt hz1)); (try (have hz3 := Nat.lt_of_succ_lt hz2)))
  ((try simp only [Exit.inBlock, Exit.then]); refine bodyPost_ret (v := .agg #[.int .i64 (largeA s l t m), .int .i64 (largeS s l t m)]) (by simp only [results, Try.results38]; go_simp) rfl ?_)
  exact ⟨rfl, (by repeat (first | (with_reducible exact Ext.refl _) | (with_reducible assumption) | (with_reducible refine Ext.drew ?_) | (with_reducible refine Ext.alloc ?_ _) | ((with_reducible refine Ext.setCell ?_ ?_ _); rotate_left; (focus (simp; try omega))) | (with_reducible refine Ext.trans ?_ (by assumption))))⟩

set_option maxHeartbeats 400000 in
theorem small_any (s l t m at_ : Int) (w : World) :
    Calls Try.prog 67 #[.agg #[.int .i64 (s), .int .i64 (l), .int .i64 (t), .int .i64 (m)], .int .i64 at_] w fun e w' => e = .returned (.bool (smallB s l t m at_)) ∧ Ext w w' := by
  by_cases hb : cfgB s l t m = true
  · go_enter Try.func67, Try.ntmps67
    go_wp2_with (go_at_call 33; refine (check_any _ _ _ _ _).mono ?_; rintro e w1 ⟨rfl, hx⟩; obtain ⟨hcc, hff, hzz⟩ := ecell hx; (try simp only [World.size_alloc] at hzz); (try (have hz0 := Nat.lt_of_succ_le hzz)); (try (have hz1 := Nat.lt_of_succ_lt hz0)); (try (have hz2 := Nat.lt_of_succ_lt hz1)); (try (have hz3 := Nat.lt_of_succ_lt hz2)))
    all_goals go_ret
    all_goals exact ⟨ret_bool (by unfold smallB; simp [*]; try omega), (by repeat (first | (with_reducible exact Ext.refl _) | (with_reducible assumption) | (with_reducible refine Ext.drew ?_) | (with_reducible refine Ext.alloc ?_ _) | ((with_reducible refine Ext.setCell ?_ ?_ _); rotate_left; (focus (simp; try omega))) | (with_reducible refine Ext.trans ?_ (by assumption))))⟩
  · have hb' : cfgB s l t m = false := by simpa using hb
    go_enter Try.func67, Try.ntmps67
    go_wp2_with (go_at_call 33; refine (check_any _ _ _ _ _).mono ?_; rintro e w1 ⟨rfl, hx⟩; obtain ⟨hcc, hff, hzz⟩ := ecell hx; (try simp only [World.size_alloc] at hzz); (try (have hz0 := Nat.lt_of_succ_le hzz)); (try (have hz1 := Nat.lt_of_succ_lt hz0)); (try (have hz2 := Nat.lt_of_succ_lt hz1)); (try (have hz3 := Nat.lt_of_succ_lt hz2)))
    go_ret
    exact ⟨ret_bool (by unfold smallB; simp [hb']), (by repeat (first | (with_reducible exact Ext.refl _) | (with_reducible assumption) | (with_reducible refine Ext.drew ?_) | (with_reducible refine Ext.alloc ?_ _) | ((with_reducible refine Ext.setCell ?_ ?_ _); rotate_left; (focus (simp; try omega))) | (with_reducible refine Ext.trans ?_ (by assumption))))⟩

/-- In which part a place is. -/
def whereZ (s l t m : Int) (b : Bool) (p : Int) : Int :=
  if hasB (halfA s l t m b) (halfS s l t m) p then 1 else if hasB (halfA s l t m (!b)) (halfS s l t m) p then 2 else if hasB (largeA s l t m) (largeS s l t m) p then 3 else 0

set_option maxHeartbeats 1000000 in
theorem where_any (s l t m : Int) (b : Bool) (p : Int) (w : World) :
    Calls Try.prog 39 #[.agg #[.int .i64 (s), .int .i64 (l), .int .i64 (t), .int .i64 (m)], .bool b, .int .i64 p] w fun e w' => e = .returned (.int .i64 (whereZ s l t m b p)) ∧ Ext w w' := by
  have i0 := idx0
  have i1 := idx1
  have i2 := idx2
  go_enter Try.func39, Try.ntmps39
  go_wp2_with (go_at_call 66; refine (parts_any _ _ _ _ _ _).mono ?_; rintro e w1 ⟨rfl, hx⟩; obtain ⟨hcc, hff, hzz⟩ := ecell hx; (try simp only [World.size_alloc] at hzz); (try (have hz0 := Nat.lt_of_succ_le hzz)); (try (have hz1 := Nat.lt_of_succ_lt hz0)); (try (have hz2 := Nat.lt_of_succ_lt hz1)); (try (have hz3 := Nat.lt_of_succ_lt hz2)))
  go_loopw [12] (fun i wr => ∃ k : Nat, k ≤ 3 ∧ i = .int .i64 k ∧ Ext w wr ∧ (1 ≤ k → hasB (halfA s l t m b) (halfS s l t m) p = false) ∧ (2 ≤ k → hasB (halfA s l t m (!b)) (halfS s l t m) p = false) ∧ (3 ≤ k → hasB (largeA s l t m) (largeS s l t m) p = false)) (fun i _ => 3 - (intOf i).toNat)
  case atStart => exact ⟨0, by omega, rfl, (by repeat (first | (with_reducible exact Ext.refl _) | (with_reducible assumption) | (with_reducible refine Ext.drew ?_) | (with_reducible refine Ext.alloc ?_ _) | ((with_reducible refine Ext.setCell ?_ ?_ _); rotate_left; (focus (simp; try omega))) | (with_reducible refine Ext.trans ?_ (by assumption)))), by omega, by omega, by omega⟩
  case round =>
    obtain ⟨k, hk, rfl, hxr, q1, q2, q3⟩ := hrel
    have Q1 := Lib.hid q1
    have Q2 := Lib.hid q2
    have Q3 := Lib.hid q3
    clear q1 q2 q3
    obtain rfl | rfl | rfl | rfl : k = 0 ∨ k = 1 ∨ k = 2 ∨ k = 3 := by omega
    · cases hh : hasB (halfA s l t m b) (halfS s l t m) p
      · go_wp2_with (go_at_call 15; refine (has_any _ _ _ _).mono ?_; rintro e w1 ⟨rfl, hx⟩; obtain ⟨hcc, hff, hzz⟩ := ecell hx; (try simp only [World.size_alloc] at hzz); (try (have hz0 := Nat.lt_of_succ_le hzz)); (try (have hz1 := Nat.lt_of_succ_lt hz0)); (try (have hz2 := Nat.lt_of_succ_lt hz1)); (try (have hz3 := Nat.lt_of_succ_lt hz2)))
        go_roundw
        case rel => exact ⟨1, by omega, by go_num, (by repeat (first | (with_reducible exact Ext.refl _) | (with_reducible assumption) | (with_reducible refine Ext.drew ?_) | (with_reducible refine Ext.alloc ?_ _) | ((with_reducible refine Ext.setCell ?_ ?_ _); rotate_left; (focus (simp; try omega))) | (with_reducible refine Ext.trans ?_ (by assumption)))), (by simp [hh]), by omega, by omega⟩
        case measure => simp [intOf]
      · go_wp2_with (go_at_call 15; refine (has_any _ _ _ _).mono ?_; rintro e w1 ⟨rfl, hx⟩; obtain ⟨hcc, hff, hzz⟩ := ecell hx; (try simp only [World.size_alloc] at hzz); (try (have hz0 := Nat.lt_of_succ_le hzz)); (try (have hz1 := Nat.lt_of_succ_lt hz0)); (try (have hz2 := Nat.lt_of_succ_lt hz1)); (try (have hz3 := Nat.lt_of_succ_lt hz2)))
        go_ret
        exact ⟨ret_int (by simp [whereZ, hh]), (by repeat (first | (with_reducible exact Ext.refl _) | (with_reducible assumption) | (with_reducible refine Ext.drew ?_) | (with_reducible refine Ext.alloc ?_ _) | ((with_reducible refine Ext.setCell ?_ ?_ _); rotate_left; (focus (simp; try omega))) | (with_reducible refine Ext.trans ?_ (by assumption))))⟩
    · cases hh : hasB (halfA s l t m (!b)) (halfS s l t m) p
      · go_wp2_with (go_at_call 15; refine (has_any _ _ _ _).mono ?_; rintro e w1 ⟨rfl, hx⟩; obtain ⟨hcc, hff, hzz⟩ := ecell hx; (try simp only [World.size_alloc] at hzz); (try (have hz0 := Nat.lt_of_succ_le hzz)); (try (have hz1 := Nat.lt_of_succ_lt hz0)); (try (have hz2 := Nat.lt_of_succ_lt hz1)); (try (have hz3 := Nat.lt_of_succ_lt hz2)))
        go_roundw
        case rel => exact ⟨2, by omega, by go_num, (by repeat (first | (with_reducible exact Ext.refl _) | (with_reducible assumption) | (with_reducible refine Ext.drew ?_) | (with_reducible refine Ext.alloc ?_ _) | ((with_reducible refine Ext.setCell ?_ ?_ _); rotate_left; (focus (simp; try omega))) | (with_reducible refine Ext.trans ?_ (by assumption)))), fun _ => Q1.out (by omega), (by simp [hh]), by omega⟩
        case measure => simp [intOf]
      · go_wp2_with (go_at_call 15; refine (has_any _ _ _ _).mono ?_; rintro e w1 ⟨rfl, hx⟩; obtain ⟨hcc, hff, hzz⟩ := ecell hx; (try simp only [World.size_alloc] at hzz); (try (have hz0 := Nat.lt_of_succ_le hzz)); (try (have hz1 := Nat.lt_of_succ_lt hz0)); (try (have hz2 := Nat.lt_of_succ_lt hz1)); (try (have hz3 := Nat.lt_of_succ_lt hz2)))
        go_ret
        exact ⟨ret_int (by simp [whereZ, hh, Q1.out (by omega)]), (by repeat (first | (with_reducible exact Ext.refl _) | (with_reducible assumption) | (with_reducible refine Ext.drew ?_) | (with_reducible refine Ext.alloc ?_ _) | ((with_reducible refine Ext.setCell ?_ ?_ _); rotate_left; (focus (simp; try omega))) | (with_reducible refine Ext.trans ?_ (by assumption))))⟩
    · cases hh : hasB (largeA s l t m) (largeS s l t m) p
      · go_wp2_with (go_at_call 15; refine (has_any _ _ _ _).mono ?_; rintro e w1 ⟨rfl, hx⟩; obtain ⟨hcc, hff, hzz⟩ := ecell hx; (try simp only [World.size_alloc] at hzz); (try (have hz0 := Nat.lt_of_succ_le hzz)); (try (have hz1 := Nat.lt_of_succ_lt hz0)); (try (have hz2 := Nat.lt_of_succ_lt hz1)); (try (have hz3 := Nat.lt_of_succ_lt hz2)))
        go_roundw
        case rel => exact ⟨3, by omega, by go_num, (by repeat (first | (with_reducible exact Ext.refl _) | (with_reducible assumption) | (with_reducible refine Ext.drew ?_) | (with_reducible refine Ext.alloc ?_ _) | ((with_reducible refine Ext.setCell ?_ ?_ _); rotate_left; (focus (simp; try omega))) | (with_reducible refine Ext.trans ?_ (by assumption)))), fun _ => Q1.out (by omega), fun _ => Q2.out (by omega), (by simp [hh])⟩
        case measure => simp [intOf]
      · go_wp2_with (go_at_call 15; refine (has_any _ _ _ _).mono ?_; rintro e w1 ⟨rfl, hx⟩; obtain ⟨hcc, hff, hzz⟩ := ecell hx; (try simp only [World.size_alloc] at hzz); (try (have hz0 := Nat.lt_of_succ_le hzz)); (try (have hz1 := Nat.lt_of_succ_lt hz0)); (try (have hz2 := Nat.lt_of_succ_lt hz1)); (try (have hz3 := Nat.lt_of_succ_lt hz2)))
        go_ret
        exact ⟨ret_int (by simp [whereZ, hh, Q1.out (by omega), Q2.out (by omega)]), (by repeat (first | (with_reducible exact Ext.refl _) | (with_reducible assumption) | (with_reducible refine Ext.drew ?_) | (with_reducible refine Ext.alloc ?_ _) | ((with_reducible refine Ext.setCell ?_ ?_ _); rotate_left; (focus (simp; try omega))) | (with_reducible refine Ext.trans ?_ (by assumption))))⟩
    · go_wp2
      go_ret
      exact ⟨ret_int (by simp [whereZ, Q1.out (by omega), Q2.out (by omega), Q3.out (by omega)]), (by repeat (first | (with_reducible exact Ext.refl _) | (with_reducible assumption) | (with_reducible refine Ext.drew ?_) | (with_reducible refine Ext.alloc ?_ _) | ((with_reducible refine Ext.setCell ?_ ?_ _); rotate_left; (focus (simp; try omega))) | (with_reducible refine Ext.trans ?_ (by assumption))))⟩

theorem where_eq (s l t m : Int) (b : Bool) (p : Int) : whereZ s l t m b p = if cfgB s l t m = false ∨ p < 0 ∨ wordsZ s l t m ≤ p then 0 else if 2 * s ≤ p then 3 else if decide (s ≤ p) = b then 1 else 2 := by
  by_cases hb : cfgB s l t m = true
  · obtain ⟨h1, h2, h3, h4, h5, h6, h7, h8⟩ := cfg_bd hb
    unfold whereZ hasB mayB
    simp only [halfA, halfS, largeA, largeS, wordsZ, hb, if_true]
    cases b <;> simp only [Bool.not_false, Bool.not_true, if_true, Bool.false_eq_true, Bool.true_eq_false, false_or, if_false, Bool.and_eq_true, decide_eq_true_eq, decide_eq_false_iff_not]
    all_goals (repeat' split) <;> omega
  · have hb' : cfgB s l t m = false := by simpa using hb
    simp [whereZ, hasB, mayB, halfA, halfS, largeA, largeS, hb']

set_option maxRecDepth 100000 in
set_option maxHeartbeats 1000000 in
theorem awake04_any (w : World) :
    Calls Try.prog 36 #[] w fun e w' => e = .returned (.bool true) ∧ Ext w w' := by
  have e1 : cfgB 4 3 2 3 = true := by decide
  have e2 : wordsZ 4 3 2 3 = 11 := by decide
  have e3 : halfA 4 3 2 3 true = 4 := by decide
  have e4 : halfA 4 3 2 3 false = 0 := by decide
  have e5 : halfS 4 3 2 3 = 4 := by decide
  have e6 : largeA 4 3 2 3 = 8 := by decide
  have e7 : largeS 4 3 2 3 = 3 := by decide
  have e8 : whereZ 4 3 2 3 true 0 = 2 := by decide
  have e9 : whereZ 4 3 2 3 false 10 = 3 := by decide
  have e10 : whereZ 4 3 2 3 false 11 = 0 := by decide
  have e11 : smallB 4 3 2 3 3 = true := by decide
  have e12 : smallB 4 3 2 3 4 = false := by decide
  have e13 : cfgB 0 0 0 0 = false := by decide
  go_enter Try.func36, Try.ntmps36
  go_wp2_with fail
  have k0 := boxed w #[.int .i64 4, .int .i64 3, .int .i64 2, .int .i64 3] 38 0 _ rfl
  have k1 := boxed w #[.int .i64 4, .int .i64 3, .int .i64 2, .int .i64 3] 38 1 _ rfl
  have k2 := boxed w #[.int .i64 4, .int .i64 3, .int .i64 2, .int .i64 3] 38 2 _ rfl
  have k3 := boxed w #[.int .i64 4, .int .i64 3, .int .i64 2, .int .i64 3] 38 3 _ rfl
  have hW : Ext w (w.alloc (.cells #[.int .i64 4, .int .i64 3, .int .i64 2, .int .i64 3] 38)) := (Ext.refl w).alloc _
  generalize w.alloc (.cells #[.int .i64 4, .int .i64 3, .int .i64 2, .int .i64 3] 38) = W at *
  have hs0 : Ext W W := Ext.refl W
  go_wp2_with (first | (go_at_call 33; refine (check_any _ _ _ _ _).mono ?_; rintro e w1 ⟨rfl, hx0⟩; have hx := Ext.trans (a := W) (by with_reducible assumption) hx0; clear hx0) | (go_at_call 35; refine (words_any _ _ _ _ _).mono ?_; rintro e w1 ⟨rfl, hx0⟩; have hx := Ext.trans (a := W) (by with_reducible assumption) hx0; clear hx0) | (go_at_call 34; refine (from_any _ _ _ _ _ _).mono ?_; rintro e w1 ⟨rfl, hx0⟩; have hx := Ext.trans (a := W) (by with_reducible assumption) hx0; clear hx0) | (go_at_call 37; refine (to_any _ _ _ _ _ _).mono ?_; rintro e w1 ⟨rfl, hx0⟩; have hx := Ext.trans (a := W) (by with_reducible assumption) hx0; clear hx0) | (go_at_call 38; refine (large_any _ _ _ _ _).mono ?_; rintro e w1 ⟨rfl, hx0⟩; have hx := Ext.trans (a := W) (by with_reducible assumption) hx0; clear hx0) | (go_at_call 39; refine (where_any _ _ _ _ _ _ _).mono ?_; rintro e w1 ⟨rfl, hx0⟩; have hx := Ext.trans (a := W) (by with_reducible assumption) hx0; clear hx0) | (go_at_call 67; refine (small_any _ _ _ _ _ _).mono ?_; rintro e w1 ⟨rfl, hx0⟩; have hx := Ext.trans (a := W) (by with_reducible assumption) hx0; clear hx0))
  go_ret
  exact ⟨rfl, Ext.trans hW (by assumption)⟩
end Go.Proofs.Ytllcekmbcmhckaa
