/- Parts of words: mask, Put and Get where they are asked within bounds. -/
import Derived.Test.YtkcpfimhbogdcaaBitP
import Derived.Test.YtkcpfimhbogdcaaSeg
set_option linter.unusedSimpArgs false
set_option linter.unusedVariables false
namespace Go.Proofs.Ytkcpfimhbogdcaa
open Go.RowKit

theorem part_is (at_ n : Nat) (h1 : 1 ≤ n) (h2 : at_ + n ≤ 64) (W : World) : Calls Try.prog 159 #[.int .i64 at_, .int .i64 n] W fun e w' => e = .returned (.bool true) ∧ Ext W w' := by
  have d1 : decide ((0 : Int) ≤ (at_ : Int)) = true := by simp
  have d2 : decide ((at_ : Int) < 64) = true := by simp; omega
  have d3 : decide ((1 : Int) ≤ (n : Int)) = true := by simp; omega
  go_enter Try.func159, Try.ntmps159
  go_wp2_with fail
  go_ret
  exact ⟨ret_bool (by simp; omega), Ext.refl _⟩
theorem wrap_pow (n : Nat) (h : n < 64) : IntKind.u64.wrap ((2 : Int) ^ n) = ((2 ^ n : Nat) : Int) := by
  have h64 : 2 ^ n ≤ 2 ^ 63 := Nat.pow_le_pow_right (by omega) (by omega)
  rw [IntKind.wrap_u64, show (2 : Int) ^ n = ((2 ^ n : Nat) : Int) by simp]
  generalize 2 ^ n = m at *
  omega
theorem pow_pos' (n : Nat) : 1 ≤ 2 ^ n := Nat.one_le_two_pow
theorem mask_is (n : Nat) (h : n < 64) (W : World) : Calls Try.prog 160 #[.int .i64 n] W fun e w' => e = .returned (.int .u64 ((2 ^ n - 1 : Nat) : Int)) ∧ Ext W w' := by
  have d1 : decide ((64 : Int) ≤ (n : Int)) = false := by simp; omega
  go_enter Try.func160, Try.ntmps160
  go_wp2_with fail
  go_ret
  refine ⟨?_, Ext.refl _⟩
  rw [wrap_pow n h]
  have h64 : 2 ^ n ≤ 2 ^ 63 := Nat.pow_le_pow_right (by omega) (by omega)
  have := pow_pos' n
  rw [IntKind.wrap_u64]
  generalize 2 ^ n = m at *
  exact ret_int (by omega)
theorem get_is (w at_ n : Nat) (h1 : 1 ≤ n) (hn : n < 64) (h2 : at_ + n ≤ 64) (hw : w < 18446744073709551616) (W : World) : Calls Try.prog 127 #[.int .u64 w, .int .i64 at_, .int .i64 n] W fun e w' => e = .returned (.tuple #[.int .u64 ((w / 2 ^ at_ % 2 ^ n : Nat) : Int), .bool true]) ∧ Ext W w' := by
  have hW := Ext.refl W
  go_enter Try.func127, Try.ntmps127
  go_wp2_with ((go_at_call 159; refine (part_is at_ n h1 h2 _).mono ?_; rintro e w1 ⟨rfl, hx0⟩; have hx := Ext.trans (a := W) (by with_reducible assumption) hx0; clear hx0))
  clear hW
  (refine wp_region_seg (W := W) [] [(0, true), (1, true), (2, true), (3, true), (4, false), (5, true), (6, true), (7, true)] [] (by kernel_rfl) (by kernel_rfl) (by intro c a d v w h; cases d <;> exact h) (by with_reducible assumption) ?_; simp only [opsOf, List.map_cons, List.map_nil, List.getD_cons_zero, List.getD_cons_succ])
  ((first | refine seg_cons ?_ | refine seg_last ?_); (repeat (go_big_quiet_step (first | (go_at_call 160; with_reducible exact Calls.ext_of (mask_is n hn _))))); refine wpQuiet_nil ?_; intro w1 hx)
  go_wp2_with fail
  go_ret2
  refine ⟨?_, hx⟩
  have h3 := and_mask (w / 2 ^ at_) n (Nat.lt_of_le_of_lt (Nat.div_le_self _ _) hw) (by omega)
  have h4 : ((w / 2 ^ at_ : Nat) : Int) = (w : Int) / 2 ^ at_ := by simp
  rw [h4] at h3
  rw [h3]; rfl
theorem put_is (w at_ n x : Nat) (h1 : 1 ≤ n) (hn : n < 64) (h2 : at_ + n ≤ 64) (hw : w < 2 ^ at_) (hx0 : x < 2 ^ n) (W : World) : Calls Try.prog 157 #[.int .u64 w, .int .i64 at_, .int .i64 n, .int .u64 x] W fun e w' => e = .returned (.tuple #[.int .u64 ((w + 2 ^ at_ * x : Nat) : Int), .bool true]) ∧ Ext W w' := by
  have hW := Ext.refl W
  have ha := andNot_mask x n hx0 (by omega)
  go_enter Try.func157, Try.ntmps157
  go_wp2_with (first | (go_at_call 159; refine (part_is at_ n h1 h2 _).mono ?_; rintro e w1 ⟨rfl, hx0⟩; have hx := Ext.trans (a := W) (by with_reducible assumption) hx0; clear hx0) | (go_at_call 160; refine (mask_is n hn _).mono ?_; rintro e w1 ⟨rfl, hx0⟩; have hx := Ext.trans (a := W) (by with_reducible assumption) hx0; clear hx0))
  (refine wp_region_seg (W := W) [] [(0, true), (1, true), (3, true), (6, true), (7, true), (8, true), (2, false), (4, true), (5, true), (9, true), (10, true), (11, true)] [] (by kernel_rfl) (by kernel_rfl) (by intro c a d v w h; cases d <;> exact h) (by with_reducible assumption) ?_; simp only [opsOf, List.map_cons, List.map_nil, List.getD_cons_zero, List.getD_cons_succ])
  ((first | refine seg_cons ?_ | refine seg_last ?_); (repeat (go_big_quiet_step (first | (go_at_call 160; with_reducible exact Calls.ext_of (mask_is n hn _))))); refine wpQuiet_nil ?_; intro w1 hx)
  go_wp2_with fail
  go_ret2
  refine ⟨?_, hx⟩
  have hp : 2 ^ at_ * 2 ^ n ≤ 2 ^ 64 := by rw [← Nat.pow_add]; exact Nat.pow_le_pow_right (by omega) h2
  have hq := pow_pos' n
  have hr := pow_pos' at_
  have hm : ∀ y : Nat, y < 2 ^ n → 2 ^ at_ * y + 2 ^ at_ ≤ 2 ^ 64 := fun y hy => by
    have : 2 ^ at_ * (y + 1) ≤ 2 ^ at_ * 2 ^ n := Nat.mul_le_mul_left _ hy
    rw [Nat.mul_add, Nat.mul_one] at this
    omega
  have hwr : ∀ y : Nat, y < 2 ^ n → IntKind.u64.wrap ((y : Int) * 2 ^ at_) = ((2 ^ at_ * y : Nat) : Int) := fun y hy => by
    have h5 := hm y hy
    rw [IntKind.wrap_u64, show (y : Int) * 2 ^ at_ = ((2 ^ at_ * y : Nat) : Int) by rw [Nat.mul_comm]; simp]
    generalize 2 ^ at_ * y = m at *
    omega
  have e1 := hm (2 ^ n - 1) (by omega)
  have e2 := hm x hx0
  rw [hwr (2 ^ n - 1) (by omega), hwr x hx0, andNot_high w (2 ^ n - 1) at_ hw (by omega) (by omega), or_high w x at_ hw (by omega)]
  rfl
end Go.Proofs.Ytkcpfimhbogdcaa
