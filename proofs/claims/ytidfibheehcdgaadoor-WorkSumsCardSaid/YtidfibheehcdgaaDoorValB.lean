/- The walks of the package value, and of its reference: Dec, Ref. -/
import Derived.Test.YtidfibheehcdgaaDoorValA
set_option linter.unusedSimpArgs false
set_option linter.unusedVariables false
namespace Go.Proofs.YtidfibheehcdgaaDoor
open Go.RowKit

/-- A word's value. -/
def decT (w : Int) : Int := if w % 4 = 1 then 1 else if w % 4 = 2 ∧ w / 4 ≤ 1099511627776 then 2 else 0
def decX (w : Int) : Int := if w % 4 = 1 then (if w < 9223372036854775808 then w / 4 else w / 4 - 4611686018427387904) else if w % 4 = 2 ∧ w / 4 ≤ 1099511627776 then w / 4 else 0
def decE (w : Int) : Int := if w % 4 = 1 ∨ (w % 4 = 2 ∧ w / 4 ≤ 1099511627776) ∨ w = 0 then 0 else 3
theorem ret_dec {a b c a' b' c' : Int} (h1 : a = a') (h2 : b = b') (h3 : c = c') : Ending.returned (.tuple #[.agg #[.int .i64 a, .int .i64 b], .int .i64 c]) = .returned (.tuple #[.agg #[.int .i64 a', .int .i64 b'], .int .i64 c']) := by rw [h1, h2, h3]
theorem wrap_s (x : Int) : IntKind.i64.wrap x = (x + 9223372036854775808) % 18446744073709551616 - 9223372036854775808 := by rw [IntKind.wrap_i64]

set_option maxHeartbeats 1000000 in
theorem dec_any (v : Int) (w : World) (h0 : 0 ≤ v) (h1 : v < 18446744073709551616) :
    Calls Tryd.prog 22 #[.int .u64 v] w fun e w' => e = .returned (.tuple #[.agg #[.int .i64 (decT v), .int .i64 (decX v)], .int .i64 (decE v)]) ∧ Ext w w' := by
  have hand := and_3 v h0 h1
  have HA := Lib.hid hand
  clear hand
  go_enter Tryd.func22, Tryd.ntmps22
  go_wp2
  all_goals rw [HA.out] at *
  all_goals simp only [beq_iff_eq, beq_eq_false_iff_ne, decide_eq_true_eq, decide_eq_false_iff_not, bne_iff_ne, ne_eq] at *
  · ((try simp only [Exit.inBlock, Exit.then]); refine bodyPost_ret (v := .tuple #[.agg #[.int .i64 1, .int .i64 (wrap64 v / 4)], .int .i64 0]) (by simp only [results, Tryd.results22]; go_simp) rfl ?_)
    exact ⟨ret_dec (by simp only [decT]; omega) (by simp only [decX, wrap64]; omega) (by simp only [decE]; omega), (by repeat (first | (with_reducible exact Ext.refl _) | (with_reducible assumption) | (with_reducible refine Ext.drew ?_) | (with_reducible refine Ext.alloc ?_ _) | ((with_reducible refine Ext.setCell ?_ ?_ _); rotate_left; (focus (simp; try omega))) | (with_reducible refine Ext.trans ?_ (by assumption))))⟩
  · ((try simp only [Exit.inBlock, Exit.then]); refine bodyPost_ret (v := .tuple #[.agg #[.int .i64 2, .int .i64 (v / 4)], .int .i64 0]) (by simp only [results, Tryd.results22]; go_simp) rfl ?_)
    exact ⟨ret_dec (by simp only [decT]; omega) (by simp only [decX]; omega) (by simp only [decE]; omega), (by repeat (first | (with_reducible exact Ext.refl _) | (with_reducible assumption) | (with_reducible refine Ext.drew ?_) | (with_reducible refine Ext.alloc ?_ _) | ((with_reducible refine Ext.setCell ?_ ?_ _); rotate_left; (focus (simp; try omega))) | (with_reducible refine Ext.trans ?_ (by assumption))))⟩
  · ((try simp only [Exit.inBlock, Exit.then]); refine bodyPost_ret (v := .tuple #[.agg #[.int .i64 0, .int .i64 0], .int .i64 3]) (by simp only [results, Tryd.results22]; go_simp) rfl ?_)
    exact ⟨ret_dec (by simp only [decT]; omega) (by simp only [decX]; omega) (by simp only [decE]; omega), (by repeat (first | (with_reducible exact Ext.refl _) | (with_reducible assumption) | (with_reducible refine Ext.drew ?_) | (with_reducible refine Ext.alloc ?_ _) | ((with_reducible refine Ext.setCell ?_ ?_ _); rotate_left; (focus (simp; try omega))) | (with_reducible refine Ext.trans ?_ (by assumption))))⟩
  · ((try simp only [Exit.inBlock, Exit.then]); refine bodyPost_ret (v := .tuple #[.agg #[.int .i64 0, .int .i64 0], .int .i64 0]) (by simp only [results, Tryd.results22]; go_simp) rfl ?_)
    exact ⟨ret_dec (by simp only [decT]; omega) (by simp only [decX]; omega) (by simp only [decE]; omega), (by repeat (first | (with_reducible exact Ext.refl _) | (with_reducible assumption) | (with_reducible refine Ext.drew ?_) | (with_reducible refine Ext.alloc ?_ _) | ((with_reducible refine Ext.setCell ?_ ?_ _); rotate_left; (focus (simp; try omega))) | (with_reducible refine Ext.trans ?_ (by assumption))))⟩
  · ((try simp only [Exit.inBlock, Exit.then]); refine bodyPost_ret (v := .tuple #[.agg #[.int .i64 0, .int .i64 0], .int .i64 3]) (by simp only [results, Tryd.results22]; go_simp) rfl ?_)
    exact ⟨ret_dec (by simp only [decT]; omega) (by simp only [decX]; omega) (by simp only [decE]; omega), (by repeat (first | (with_reducible exact Ext.refl _) | (with_reducible assumption) | (with_reducible refine Ext.drew ?_) | (with_reducible refine Ext.alloc ?_ _) | ((with_reducible refine Ext.setCell ?_ ?_ _); rotate_left; (focus (simp; try omega))) | (with_reducible refine Ext.trans ?_ (by assumption))))⟩
  · ((try simp only [Exit.inBlock, Exit.then]); refine bodyPost_ret (v := .tuple #[.agg #[.int .i64 0, .int .i64 0], .int .i64 3]) (by simp only [results, Tryd.results22]; go_simp) rfl ?_)
    exact ⟨ret_dec (by simp only [decT]; omega) (by simp only [decX]; omega) (by simp only [decE]; omega), (by repeat (first | (with_reducible exact Ext.refl _) | (with_reducible assumption) | (with_reducible refine Ext.drew ?_) | (with_reducible refine Ext.alloc ?_ _) | ((with_reducible refine Ext.setCell ?_ ?_ _); rotate_left; (focus (simp; try omega))) | (with_reducible refine Ext.trans ?_ (by assumption))))⟩

set_option maxHeartbeats 1000000 in
theorem refdec_any (v : Int) (w : World) (h0 : 0 ≤ v) (h1 : v < 18446744073709551616) :
    Calls Tryd.prog 23 #[.int .u64 v] w fun e w' => e = .returned (.tuple #[.agg #[.int .i64 (decT v), .int .i64 (decX v)], .int .i64 (decE v)]) ∧ Ext w w' := by
  go_enter Tryd.func23, Tryd.ntmps23
  go_wp2
  all_goals simp only [beq_iff_eq, beq_eq_false_iff_ne, decide_eq_true_eq, decide_eq_false_iff_not, bne_iff_ne, ne_eq] at *
  · ((try simp only [Exit.inBlock, Exit.then]); refine bodyPost_ret (v := .tuple #[.agg #[.int .i64 0, .int .i64 (0)], .int .i64 0]) (by simp only [results, Tryd.results23]; go_simp) rfl ?_)
    exact ⟨ret_dec (by simp only [decT]; omega) (by simp only [decX]; omega) (by simp only [decE]; omega), (by repeat (first | (with_reducible exact Ext.refl _) | (with_reducible assumption) | (with_reducible refine Ext.drew ?_) | (with_reducible refine Ext.alloc ?_ _) | ((with_reducible refine Ext.setCell ?_ ?_ _); rotate_left; (focus (simp; try omega))) | (with_reducible refine Ext.trans ?_ (by assumption))))⟩
  · ((try simp only [Exit.inBlock, Exit.then]); refine bodyPost_ret (v := .tuple #[.agg #[.int .i64 1, .int .i64 (v / 4)], .int .i64 0]) (by simp only [results, Tryd.results23]; go_simp) rfl ?_)
    exact ⟨ret_dec (by simp only [decT]; omega) (by simp only [decX]; omega) (by simp only [decE]; omega), (by repeat (first | (with_reducible exact Ext.refl _) | (with_reducible assumption) | (with_reducible refine Ext.drew ?_) | (with_reducible refine Ext.alloc ?_ _) | ((with_reducible refine Ext.setCell ?_ ?_ _); rotate_left; (focus (simp; try omega))) | (with_reducible refine Ext.trans ?_ (by assumption))))⟩
  · ((try simp only [Exit.inBlock, Exit.then]); refine bodyPost_ret (v := .tuple #[.agg #[.int .i64 1, .int .i64 (-(4611686018427387904 - v / 4))], .int .i64 0]) (by simp only [results, Tryd.results23]; go_simp) rfl ?_)
    exact ⟨ret_dec (by simp only [decT]; omega) (by simp only [decX]; omega) (by simp only [decE]; omega), (by repeat (first | (with_reducible exact Ext.refl _) | (with_reducible assumption) | (with_reducible refine Ext.drew ?_) | (with_reducible refine Ext.alloc ?_ _) | ((with_reducible refine Ext.setCell ?_ ?_ _); rotate_left; (focus (simp; try omega))) | (with_reducible refine Ext.trans ?_ (by assumption))))⟩
  · ((try simp only [Exit.inBlock, Exit.then]); refine bodyPost_ret (v := .tuple #[.agg #[.int .i64 2, .int .i64 (v / 4)], .int .i64 0]) (by simp only [results, Tryd.results23]; go_simp) rfl ?_)
    exact ⟨ret_dec (by simp only [decT]; omega) (by simp only [decX]; omega) (by simp only [decE]; omega), (by repeat (first | (with_reducible exact Ext.refl _) | (with_reducible assumption) | (with_reducible refine Ext.drew ?_) | (with_reducible refine Ext.alloc ?_ _) | ((with_reducible refine Ext.setCell ?_ ?_ _); rotate_left; (focus (simp; try omega))) | (with_reducible refine Ext.trans ?_ (by assumption))))⟩
  · ((try simp only [Exit.inBlock, Exit.then]); refine bodyPost_ret (v := .tuple #[.agg #[.int .i64 0, .int .i64 (0)], .int .i64 3]) (by simp only [results, Tryd.results23]; go_simp) rfl ?_)
    exact ⟨ret_dec (by simp only [decT]; omega) (by simp only [decX]; omega) (by simp only [decE]; omega), (by repeat (first | (with_reducible exact Ext.refl _) | (with_reducible assumption) | (with_reducible refine Ext.drew ?_) | (with_reducible refine Ext.alloc ?_ _) | ((with_reducible refine Ext.setCell ?_ ?_ _); rotate_left; (focus (simp; try omega))) | (with_reducible refine Ext.trans ?_ (by assumption))))⟩
  · ((try simp only [Exit.inBlock, Exit.then]); refine bodyPost_ret (v := .tuple #[.agg #[.int .i64 0, .int .i64 (0)], .int .i64 3]) (by simp only [results, Tryd.results23]; go_simp) rfl ?_)
    exact ⟨ret_dec (by simp only [decT]; omega) (by simp only [decX]; omega) (by simp only [decE]; omega), (by repeat (first | (with_reducible exact Ext.refl _) | (with_reducible assumption) | (with_reducible refine Ext.drew ?_) | (with_reducible refine Ext.alloc ?_ _) | ((with_reducible refine Ext.setCell ?_ ?_ _); rotate_left; (focus (simp; try omega))) | (with_reducible refine Ext.trans ?_ (by assumption))))⟩

/-- Where a word leads. -/
def refX (w : Int) : Int := if decT w = 2 then decX w else 0
def refB (w : Int) : Bool := decT w == 2
theorem dec_bd {w : Int} (h0 : 0 ≤ w) (h1 : w < 18446744073709551616) : (decT w = 0 ∨ decT w = 1 ∨ decT w = 2) ∧ -2305843009213693952 ≤ decX w ∧ decX w ≤ 2305843009213693951 ∧ (decE w = 0 ∨ (decE w = 3 ∧ decT w = 0)) := by
  simp only [decT, decX, decE]
  refine ⟨?_, ?_, ?_, ?_⟩ <;> (repeat' split) <;> omega
theorem ret_ref {a c : Int} {b d : Bool} (h1 : a = c) (h2 : b = d) : Ending.returned (.tuple #[.int .i64 a, .bool b]) = .returned (.tuple #[.int .i64 c, .bool d]) := by rw [h1, h2]

set_option maxHeartbeats 1000000 in
theorem vref_any (v : Int) (w : World) (h0 : 0 ≤ v) (h1 : v < 18446744073709551616) :
    Calls Tryd.prog 24 #[.int .u64 v] w fun e w' => e = .returned (.tuple #[.int .i64 (refX v), .bool (refB v)]) ∧ Ext w w' := by
  obtain ⟨hT, hX1, hX2, hE⟩ := dec_bd h0 h1
  have e1 : refX v = if decT v = 2 then decX v else 0 := rfl
  have e2 : refB v = (decT v == 2) := rfl
  have H1 := Lib.hid e1
  have H2 := Lib.hid e2
  clear e1 e2
  go_enter Tryd.func24, Tryd.ntmps24
  go_wp2_with fail
  refine (dec_any v _ h0 h1).mono ?_
  rintro e W ⟨rfl, hx⟩
  generalize decT v = t at *
  generalize decX v = x at *
  generalize decE v = er at *
  have hX := hx.alloc (.cells #[.int .i64 t, .int .i64 x] 39)
  go_wp2_with fail
  all_goals go_ret2
  all_goals simp only [beq_iff_eq, beq_eq_false_iff_ne, decide_eq_true_eq, decide_eq_false_iff_not, bne_iff_ne, bne_eq_false_iff_eq, ne_eq] at *
  · exact ⟨ret_ref (by rw [H1.out, if_neg (by omega)]) (by rw [H2.out]; simp; omega), hX⟩
  · exact ⟨ret_ref (by rw [H1.out, if_pos (by omega)]) (by rw [H2.out]; simp; omega), hX⟩
  · exact ⟨ret_ref (by rw [H1.out, if_neg (by omega)]) (by rw [H2.out]; simp; omega), hX⟩

set_option maxHeartbeats 1000000 in
theorem refvref_any (v : Int) (w : World) (h0 : 0 ≤ v) (h1 : v < 18446744073709551616) :
    Calls Tryd.prog 25 #[.int .u64 v] w fun e w' => e = .returned (.tuple #[.int .i64 (refX v), .bool (refB v)]) ∧ Ext w w' := by
  obtain ⟨hT, hX1, hX2, hE⟩ := dec_bd h0 h1
  have e1 : refX v = if decT v = 2 then decX v else 0 := rfl
  have e2 : refB v = (decT v == 2) := rfl
  have H1 := Lib.hid e1
  have H2 := Lib.hid e2
  clear e1 e2
  go_enter Tryd.func25, Tryd.ntmps25
  go_wp2_with fail
  refine (refdec_any v _ h0 h1).mono ?_
  rintro e W ⟨rfl, hx⟩
  generalize decT v = t at *
  generalize decX v = x at *
  generalize decE v = er at *
  have hX := hx.alloc (.cells #[.int .i64 t, .int .i64 x] 39)
  go_wp2_with fail
  all_goals go_ret2
  all_goals simp only [beq_iff_eq, beq_eq_false_iff_ne, decide_eq_true_eq, decide_eq_false_iff_not, bne_iff_ne, bne_eq_false_iff_eq, ne_eq] at *
  · exact ⟨ret_ref (by rw [H1.out, if_pos (by omega)]) (by rw [H2.out]; simp; omega), hX⟩
  · exact ⟨ret_ref (by rw [H1.out, if_neg (by omega)]) (by rw [H2.out]; simp; omega), hX⟩
end Go.Proofs.YtidfibheehcdgaaDoor
