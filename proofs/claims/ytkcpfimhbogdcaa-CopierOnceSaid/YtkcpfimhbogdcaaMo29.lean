/- Merged by program (merge.py) out of: Bmp. -/
import Derived.RangeFuncRecord
import Derived.Test.YtkcpfimhbogdcaaMo1
/- The walks of the package bump. -/
set_option linter.unusedSimpArgs false
set_option linter.unusedVariables false
namespace Go.Proofs.Ytkcpfimhbogdcaa
open Go.RowKit

/-- The block of a bump that was made. -/
def BumpAt (w : World) (b : Nat) (a s u : Int) : Prop := w.heap[b]? = some (.cells #[.bool true, .int .i64 a, .int .i64 s, .int .i64 u] 182 (0, 0))
/-- The block of one that was not. -/
def BumpNo (w : World) (b : Nat) : Prop := w.heap[b]? = some (.cells #[.bool false, .int .i64 0, .int .i64 0, .int .i64 0] 182 (0, 0))

theorem BumpAt.cells {w : World} {b : Nat} {a s u : Int} (h : BumpAt w b a s u) : w.cell? ⟨b, 0, none⟩ = some (.bool true) ∧ w.cell? ⟨b, 1, none⟩ = some (.int .i64 a) ∧ w.cell? ⟨b, 2, none⟩ = some (.int .i64 s) ∧ w.cell? ⟨b, 3, none⟩ = some (.int .i64 u) ∧ w.frozen? ⟨b, 3, none⟩ = false := by
  unfold BumpAt at h
  refine ⟨?_, ?_, ?_, ?_, ?_⟩ <;> simp [World.cell?, World.frozen?, h]
theorem BumpNo.cells {w : World} {b : Nat} (h : BumpNo w b) : w.cell? ⟨b, 0, none⟩ = some (.bool false) := by
  unfold BumpNo at h
  simp [World.cell?, h]
theorem BumpAt.drewN {w : World} {b : Nat} {a s u : Int} (h : BumpAt w b a s u) (n : Nat) : BumpAt (w.drewN n) b a s u := h
theorem BumpAt.drew {w : World} {b : Nat} {a s u : Int} (h : BumpAt w b a s u) : BumpAt w.drew b a s u := h
theorem BumpAt.set {w : World} {b : Nat} {a s u : Int} (h : BumpAt w b a s u) (u' : Int) : BumpAt (w.setCell ⟨b, 3, none⟩ (.int .i64 u')) b a s u' := by
  unfold BumpAt at *
  rw [heap_setCell_same w b 3 _ _ _ h]
  rfl
theorem BumpAt.ext {w w' : World} {b : Nat} {a s u : Int} (h : BumpAt w b a s u) (he : Ext w w') : BumpAt w' b a s u := by
  unfold BumpAt at *
  rw [Ext.block he, h]
  rcases Nat.lt_or_ge b w.heap.size with hb | hb
  · exact hb
  · rw [Array.getElem?_eq_none hb] at h; cases h

abbrev Quiet (w w' : World) : Prop := ∃ n, w' = w.drewN n

theorem dead_nil (w : World) : Calls Try.prog 138 #[.pointer none] w fun e w' => e = .returned (.bool true) ∧ Quiet w w' := by
  go_enter Try.func138, Try.ntmps138
  go_wp2
  go_ret
  exact ⟨rfl, 0, rfl⟩
theorem dead_no (w : World) (b : Nat) (h : BumpNo w b) : Calls Try.prog 138 #[.pointer (some ⟨b, 0, none⟩)] w fun e w' => e = .returned (.bool true) ∧ Quiet w w' := by
  have c0 := h.cells
  clear h
  go_enter Try.func138, Try.ntmps138
  go_wp2
  go_ret
  exact ⟨rfl, 0, rfl⟩
theorem dead_at (w : World) (b : Nat) (a s u : Int) (h : BumpAt w b a s u) : Calls Try.prog 138 #[.pointer (some ⟨b, 0, none⟩)] w fun e w' => e = .returned (.bool false) ∧ Quiet w w' := by
  obtain ⟨c0, c1, c2, c3, f3⟩ := h.cells
  clear h
  go_enter Try.func138, Try.ntmps138
  go_wp2
  go_ret
  exact ⟨rfl, 0, rfl⟩

theorem top_at (w : World) (b : Nat) (a s u : Int) (h : BumpAt w b a s u) (h1 : 0 ≤ a) (h2 : a ≤ 1099511627776) (h3 : 0 ≤ u) (h4 : u ≤ s) (h5 : s ≤ 1099511627776) :
    Calls Try.prog 101 #[.pointer (some ⟨b, 0, none⟩)] w fun e w' => e = .returned (.int .i64 (a + u)) ∧ Quiet w w' := by
  obtain ⟨c0, c1, c2, c3, f3⟩ := h.cells
  have H := Lib.hid h
  clear h
  go_enter Try.func101, Try.ntmps101
  go_wp2_with (go_at_call 138; refine (dead_at _ _ _ _ _ (H.out)).mono ?_; rintro e w1 ⟨rfl, n1, rfl⟩)
  go_quiet (fail)
  go_wp2
  go_ret
  exact ⟨rfl, (by first | exact ⟨_, rfl⟩ | (simp only [World.drewN_drewN]; exact ⟨_, rfl⟩))⟩
theorem top_nil (w : World) : Calls Try.prog 101 #[.pointer none] w fun e w' => e = .returned (.int .i64 0) ∧ Quiet w w' := by
  go_enter Try.func101, Try.ntmps101
  go_wp2_with (go_at_call 138; refine (dead_nil _).mono ?_; rintro e w1 ⟨rfl, n1, rfl⟩)
  go_ret
  exact ⟨rfl, (by first | exact ⟨_, rfl⟩ | (simp only [World.drewN_drewN]; exact ⟨_, rfl⟩))⟩
theorem top_no (w : World) (b : Nat) (h : BumpNo w b) : Calls Try.prog 101 #[.pointer (some ⟨b, 0, none⟩)] w fun e w' => e = .returned (.int .i64 0) ∧ Quiet w w' := by
  have H := Lib.hid h
  clear h
  go_enter Try.func101, Try.ntmps101
  go_wp2_with (go_at_call 138; refine (dead_no _ _ H.out).mono ?_; rintro e w1 ⟨rfl, n1, rfl⟩)
  go_ret
  exact ⟨rfl, (by first | exact ⟨_, rfl⟩ | (simp only [World.drewN_drewN]; exact ⟨_, rfl⟩))⟩

theorem take_nil (w : World) (n : Int) : Calls Try.prog 115 #[.pointer none, .int .i64 n] w fun e w' => e = .returned (.tuple #[.int .i64 0, .int .i64 10]) ∧ Quiet w w' := by
  go_enter Try.func115, Try.ntmps115
  go_wp2_with (go_at_call 138; refine (dead_nil _).mono ?_; rintro e w1 ⟨rfl, n1, rfl⟩)
  go_ret2
  exact ⟨rfl, (by first | exact ⟨_, rfl⟩ | (simp only [World.drewN_drewN]; exact ⟨_, rfl⟩))⟩
theorem take_no (w : World) (b : Nat) (n : Int) (h : BumpNo w b) : Calls Try.prog 115 #[.pointer (some ⟨b, 0, none⟩), .int .i64 n] w fun e w' => e = .returned (.tuple #[.int .i64 0, .int .i64 10]) ∧ Quiet w w' := by
  have H := Lib.hid h
  clear h
  go_enter Try.func115, Try.ntmps115
  go_wp2_with (go_at_call 138; refine (dead_no _ _ H.out).mono ?_; rintro e w1 ⟨rfl, n1, rfl⟩)
  go_ret2
  exact ⟨rfl, (by first | exact ⟨_, rfl⟩ | (simp only [World.drewN_drewN]; exact ⟨_, rfl⟩))⟩
theorem take_size (w : World) (b : Nat) (a s u n : Int) (h : BumpAt w b a s u) (h1 : 0 ≤ a) (h2 : a ≤ 1099511627776) (h3 : 0 ≤ u) (h4 : u ≤ s) (h5 : s ≤ 1099511627776) (hn : n < 1) :
    Calls Try.prog 115 #[.pointer (some ⟨b, 0, none⟩), .int .i64 n] w fun e w' => e = .returned (.tuple #[.int .i64 0, .int .i64 7]) ∧ Quiet w w' := by
  obtain ⟨c0, c1, c2, c3, f3⟩ := h.cells
  have H := Lib.hid h
  clear h
  go_enter Try.func115, Try.ntmps115
  go_wp2_with (go_at_call 138; refine (dead_at _ _ _ _ _ (H.out)).mono ?_; rintro e w1 ⟨rfl, n1, rfl⟩)
  go_ret2
  exact ⟨rfl, (by first | exact ⟨_, rfl⟩ | (simp only [World.drewN_drewN]; exact ⟨_, rfl⟩))⟩
theorem take_memory (w : World) (b : Nat) (a s u n : Int) (h : BumpAt w b a s u) (h1 : 0 ≤ a) (h2 : a ≤ 1099511627776) (h3 : 0 ≤ u) (h4 : u ≤ s) (h5 : s ≤ 1099511627776) (hn : 1 ≤ n) (hm : s - u < n) :
    Calls Try.prog 115 #[.pointer (some ⟨b, 0, none⟩), .int .i64 n] w fun e w' => e = .returned (.tuple #[.int .i64 0, .int .i64 9]) ∧ Quiet w w' := by
  obtain ⟨c0, c1, c2, c3, f3⟩ := h.cells
  have H := Lib.hid h
  clear h
  go_enter Try.func115, Try.ntmps115
  go_wp2_with (go_at_call 138; refine (dead_at _ _ _ _ _ (H.out)).mono ?_; rintro e w1 ⟨rfl, n1, rfl⟩)
  go_quiet (fail)
  go_wp2
  go_ret2
  exact ⟨rfl, (by first | exact ⟨_, rfl⟩ | (simp only [World.drewN_drewN]; exact ⟨_, rfl⟩))⟩
theorem take_ok (w : World) (b : Nat) (a s u n : Int) (h : BumpAt w b a s u) (h1 : 0 ≤ a) (h2 : a ≤ 1099511627776) (h3 : 0 ≤ u) (h4 : u ≤ s) (h5 : s ≤ 1099511627776) (hn : 1 ≤ n) (hm : n ≤ s - u) :
    Calls Try.prog 115 #[.pointer (some ⟨b, 0, none⟩), .int .i64 n] w fun e w' => e = .returned (.tuple #[.int .i64 (a + u), .int .i64 0]) ∧ BumpAt w' b a s (u + n) ∧ Only b w w' := by
  obtain ⟨c0, c1, c2, c3, f3⟩ := h.cells
  have H := Lib.hid h
  clear h
  go_enter Try.func115, Try.ntmps115
  go_wp2_with (go_at_call 138; refine (dead_at _ _ _ _ _ (H.out)).mono ?_; rintro e w1 ⟨rfl, n1, rfl⟩)
  go_quiet (fail)
  go_wp2
  go_quiet (fail)
  go_wp2
  go_ret2
  exact ⟨rfl, H.out.set _, ((Only.refl _ _).drewN _).setCell _ _⟩
theorem new_no (a s : Int) (w : World) (h : mayB a s = false) :
    Calls Try.prog 95 #[.agg #[.int .i64 (a), .int .i64 (s)]] w fun e w' => e = .returned (.tuple #[.pointer none, .int .i64 1]) ∧ Ext w w' := by
  go_enter Try.func95, Try.ntmps95
  go_wp2_with (go_at_call 15; refine (may_any _ _ _).mono ?_; rintro e w1 ⟨rfl, hx⟩; obtain ⟨hcc, hff, hzz⟩ := ecell hx; (try simp only [World.size_alloc] at hzz); (try (have hz0 := Nat.lt_of_succ_le hzz)); (try (have hz1 := Nat.lt_of_succ_lt hz0)); (try (have hz2 := Nat.lt_of_succ_lt hz1)); (try (have hz3 := Nat.lt_of_succ_lt hz2)))
  go_ret2
  exact ⟨rfl, (by repeat (first | (with_reducible exact Ext.refl _) | (with_reducible assumption) | (with_reducible refine Ext.drew ?_) | (with_reducible refine Ext.alloc ?_ _) | ((with_reducible refine Ext.setCell ?_ ?_ _); rotate_left; (focus (simp; try omega))) | (with_reducible refine Ext.trans ?_ (by assumption))))⟩
def NewMade (w : World) (a s : Int) (e : Ending) (w' : World) : Prop := ∃ b : Nat, e = .returned (.tuple #[.pointer (some ⟨b, 0, none⟩), .int .i64 0]) ∧ w.heap.size ≤ b ∧ b < w'.heap.size ∧ BumpAt w' b a s 0 ∧ Ext w w'
theorem new_ok (a s : Int) (w : World) (h : mayB a s = true) :
    Calls Try.prog 95 #[.agg #[.int .i64 (a), .int .i64 (s)]] w (NewMade w a s) := by
  go_enter Try.func95, Try.ntmps95
  go_wp2_with (go_at_call 15; refine (may_any _ _ _).mono ?_; rintro e w1 ⟨rfl, hx⟩; obtain ⟨hcc, hff, hzz⟩ := ecell hx; (try simp only [World.size_alloc] at hzz); (try (have hz0 := Nat.lt_of_succ_le hzz)); (try (have hz1 := Nat.lt_of_succ_lt hz0)); (try (have hz2 := Nat.lt_of_succ_lt hz1)); (try (have hz3 := Nat.lt_of_succ_lt hz2)))
  go_ret2
  exact ⟨w1.heap.size, rfl, by omega, by simp, World.alloc_heap_new _ _, (by repeat (first | (with_reducible exact Ext.refl _) | (with_reducible assumption) | (with_reducible refine Ext.drew ?_) | (with_reducible refine Ext.alloc ?_ _) | ((with_reducible refine Ext.setCell ?_ ?_ _); rotate_left; (focus (simp; try omega))) | (with_reducible refine Ext.trans ?_ (by assumption))))⟩
end Go.Proofs.Ytkcpfimhbogdcaa

