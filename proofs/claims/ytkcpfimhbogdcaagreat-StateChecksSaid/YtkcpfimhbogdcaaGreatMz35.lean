/- Merged by program (merge.py) out of: AwF. -/
import Derived.Test.YtkcpfimhbogdcaaGreatMz33
/- awake of the laws of heaps, walked. (Printed by mkaw15.py.) -/
set_option linter.unusedSimpArgs false
set_option linter.unusedVariables false
namespace Go.Proofs.YtkcpfimhbogdcaaGreat
open Go.RowKit Go.Shelf
set_option maxRecDepth 100000
set_option maxHeartbeats 1000000
theorem awake15_any (V : World) : Calls Tryz.prog 5 #[] V fun e w' => e = .returned (.bool true) ∧ Ext V w' := by
  go_enter Tryz.func5, Tryz.ntmps5
  go_wp2_with fail
  refine (awnew V).mono ?_
  rintro e w1 ⟨wA1, wc1, tA1, tc1, fA1, fc1, sA1, sc1, rfl, ho, hx⟩
  have hB1 := pers_new w1 #[.int .i64 4, .int .i64 3, .int .i64 2, .int .i64 3, .bool false, .slice wA1 11 wc1, .int .i64 0, .slice tA1 0 tc1, .slice fA1 1 fc1, .slice sA1 2 sc1] 28 _ rfl
  have HX := Lib.hid (hx.alloc (.cells #[.int .i64 4, .int .i64 3, .int .i64 2, .int .i64 3, .bool false, .slice wA1 11 wc1, .int .i64 0, .slice tA1 0 tc1, .slice fA1 1 fc1, .slice sA1 2 sc1] 28))
  have H1 : Pers (w1.alloc (.cells #[.int .i64 4, .int .i64 3, .int .i64 2, .int .i64 3, .bool false, .slice wA1 11 wc1, .int .i64 0, .slice tA1 0 tc1, .slice fA1 1 fc1, .slice sA1 2 sc1] 28)) (fun w => StAt w (awD wA1 aw15w wc1 0 tA1 tc1 fA1 fc1 sA1 aw15s sc1)) := fun w k => ho.at.ext (((Ext.refl w1).alloc _).trans k)
  clear ho hx
  go_wp2_with fail
  generalize w1.alloc (.cells #[.int .i64 4, .int .i64 3, .int .i64 2, .int .i64 3, .bool false, .slice wA1 11 wc1, .int .i64 0, .slice tA1 0 tc1, .slice fA1 1 fc1, .slice sA1 2 sc1] 28) = W1 at *
  generalize w1.heap.size = B1 at *
  refine (awcopy (by decide) W1 H1.here).mono ?_
  rintro e w2 ⟨wA2, wc2, tA2, tc2, fA2, fc2, sA2, sc2, rfl, ho, hx⟩
  (replace hB1 := hB1.re hx; replace H1 := H1.re hx; replace HX := Lib.hid (HX.out.trans hx))
  clear hx
  have k1 := (cells_of hB1.here).1
  have q := lt_of_heap hB1.here
  go_wp2_with fail
  have hB2 := pers_new w2 #[.int .i64 4, .int .i64 3, .int .i64 2, .int .i64 3, .bool false, .slice wA2 11 wc2, .int .i64 1, .slice tA2 0 tc2, .slice fA2 1 fc2, .slice sA2 2 sc2] 28 _ rfl
  have hy := (Ext.refl w2).alloc (.cells #[.int .i64 4, .int .i64 3, .int .i64 2, .int .i64 3, .bool false, .slice wA2 11 wc2, .int .i64 1, .slice tA2 0 tc2, .slice fA2 1 fc2, .slice sA2 2 sc2] 28)
  have H2 : Pers (w2.alloc (.cells #[.int .i64 4, .int .i64 3, .int .i64 2, .int .i64 3, .bool false, .slice wA2 11 wc2, .int .i64 1, .slice tA2 0 tc2, .slice fA2 1 fc2, .slice sA2 2 sc2] 28)) (fun w => StAt w (awD wA2 aw15w wc2 1 tA2 tc2 fA2 fc2 sA2 aw15s sc2)) := fun w k => StAt.ext ⟨ho.at.w, ho.at.t, ho.at.f, ho.at.s⟩ (hy.trans k)
  (replace hB1 := hB1.re hy; replace H1 := H1.re hy; replace HX := Lib.hid (HX.out.trans hy))
  clear hy k1 q ho
  generalize w2.alloc (.cells #[.int .i64 4, .int .i64 3, .int .i64 2, .int .i64 3, .bool false, .slice wA2 11 wc2, .int .i64 1, .slice tA2 0 tc2, .slice fA2 1 fc2, .slice sA2 2 sc2] 28) = W2 at *
  generalize w2.heap.size = B2 at *
  refine (awobjects (by decide) 0 aw15_a (by rw [aw15_vals.2.1]; rfl) W2 (H1.at (Ext.refl _))).mono ?_
  rintro e w3 ⟨lA, lc, rfl, hx⟩
  (replace hB1 := hB1.re hx; replace hB2 := hB2.re hx; replace H1 := H1.re hx; replace H2 := H2.re hx; replace HX := Lib.hid (HX.out.trans hx))
  clear hx
  have k1 := (cells_of hB1.here).1
  go_wp2_with fail
  clear k1
  refine (awcopy (by decide) w3 H1.here).mono ?_
  rintro e w4 ⟨wA3, wc3, tA3, tc3, fA3, fc3, sA3, sc3, rfl, ho, hx⟩
  obtain ⟨g, rfl, hg1, hg2⟩ := own_some ho.w (show aw15w ≠ [] by decide)
  have c0 := own_cellAt u64Cells (by decide) ho.w rfl 0 0 (show 0 < aw15w.length by decide) _ rfl
  have c1 := own_cellAt u64Cells (by decide) ho.w rfl 1 0 (show 1 < aw15w.length by decide) _ rfl
  have cf := own_frozen ho.w
  simp only [Nat.zero_mul, Nat.one_mul, Nat.zero_add, Nat.add_zero] at c0 c1
  go_wp2_with fail
  have ho2 := ((ho.setW rfl 0 3).setW rfl 1 38)
  have hy := ((hx.setCell (p := ⟨g, 0, none⟩) hg1 (.int .u64 3)).setCell (p := ⟨g, 1, none⟩) hg1 (.int .u64 38)).alloc (.cells #[.int .i64 4, .int .i64 3, .int .i64 2, .int .i64 3, .bool false, .slice (some ⟨g, 0, none⟩) 11 wc3, .int .i64 1, .slice tA3 0 tc3, .slice fA3 1 fc3, .slice sA3 2 sc3] 28)
  have hB3 := pers_new ((w4.setCell ⟨g, 0, none⟩ (.int .u64 3)).setCell ⟨g, 1, none⟩ (.int .u64 38)) #[.int .i64 4, .int .i64 3, .int .i64 2, .int .i64 3, .bool false, .slice (some ⟨g, 0, none⟩) 11 wc3, .int .i64 1, .slice tA3 0 tc3, .slice fA3 1 fc3, .slice sA3 2 sc3] 28 w4.heap.size (by simp)
  have H3 : Pers (((w4.setCell ⟨g, 0, none⟩ (.int .u64 3)).setCell ⟨g, 1, none⟩ (.int .u64 38)).alloc (.cells #[.int .i64 4, .int .i64 3, .int .i64 2, .int .i64 3, .bool false, .slice (some ⟨g, 0, none⟩) 11 wc3, .int .i64 1, .slice tA3 0 tc3, .slice fA3 1 fc3, .slice sA3 2 sc3] 28)) (fun w => StAt w (awD (some ⟨g, 0, none⟩) aw15u wc3 1 tA3 tc3 fA3 fc3 sA3 aw15s sc3)) := fun w k => StAt.ext ⟨ho2.at.w, ho2.at.t, ho2.at.f, ho2.at.s⟩ (((Ext.refl _).alloc _).trans k)
  (replace hB1 := hB1.re hy; replace hB2 := hB2.re hy; replace H1 := H1.re hy; replace H2 := H2.re hy; replace HX := Lib.hid (HX.out.trans hy))
  clear hy hx ho ho2 c0 c1 cf hg1 hg2
  generalize ((w4.setCell ⟨g, 0, none⟩ (.int .u64 3)).setCell ⟨g, 1, none⟩ (.int .u64 38)).alloc (.cells #[.int .i64 4, .int .i64 3, .int .i64 2, .int .i64 3, .bool false, .slice (some ⟨g, 0, none⟩) 11 wc3, .int .i64 1, .slice tA3 0 tc3, .slice fA3 1 fc3, .slice sA3 2 sc3] 28) = W4 at *
  generalize w4.heap.size = B3 at *
  refine (awcopy (ws := aw15u) (sl := aw15s) (by decide) W4 H3.here).mono ?_
  rintro e w6 ⟨wA4, wc4, tA4, tc4, fA4, fc4, sA4, sc4, rfl, ho, hx⟩
  obtain ⟨g4, rfl, hg1, hg2⟩ := own_some ho.s (show aw15s ≠ [] by decide)
  have c0 := own_cellAt slotCells (by decide) ho.s rfl 0 0 (show 0 < aw15s.length by decide) _ rfl
  have c1 := own_cellAt slotCells (by decide) ho.s rfl 0 1 (show 0 < aw15s.length by decide) _ rfl
  have c2 := own_cellAt slotCells (by decide) ho.s rfl 0 2 (show 0 < aw15s.length by decide) _ rfl
  have cf := own_frozen ho.s
  simp only [Nat.zero_mul, Nat.one_mul, Nat.zero_add, Nat.add_zero] at c0 c1 c2
  have q4 : B3 < g4 := Nat.lt_of_lt_of_le (lt_of_heap hB3.here) hg1
  have hb3 := hB3.re hx
  have k3 := (cells_of hb3.here).1
  have q3 := lt_of_heap hb3.here
  go_wp2_with fail
  have ho2 := ((ho.setS rfl 0 0 (show 0 < aw15s.length by decide) (by decide) (true, 0, 0) (.bool true) rfl).setS rfl 0 1 (show 0 < (aw15s.set 0 (true, 0, 0)).length by decide) (by decide) (true, 0, 0) (.int .i64 0) rfl).setS rfl 0 2 (show 0 < ((aw15s.set 0 (true, 0, 0)).set 0 (true, 0, 0)).length by decide) (by decide) (true, 0, 18) (.int .u64 18) rfl
  simp only [Nat.zero_mul, Nat.zero_add, Nat.add_zero] at ho2
  have hy := (((hx.setCell (p := ⟨g4, 0, none⟩) hg1 (.bool true)).setCell (p := ⟨g4, 1, none⟩) hg1 (.int .i64 0)).setCell (p := ⟨g4, 2, none⟩) hg1 (.int .u64 18)).alloc (.cells #[.int .i64 4, .int .i64 3, .int .i64 2, .int .i64 3, .bool false, .slice wA4 11 wc4, .int .i64 1, .slice tA4 0 tc4, .slice fA4 1 fc4, .slice (some ⟨g4, 0, none⟩) 2 sc4] 28)
  have hB4 := pers_new (((w6.setCell ⟨g4, 0, none⟩ (.bool true)).setCell ⟨g4, 1, none⟩ (.int .i64 0)).setCell ⟨g4, 2, none⟩ (.int .u64 18)) #[.int .i64 4, .int .i64 3, .int .i64 2, .int .i64 3, .bool false, .slice wA4 11 wc4, .int .i64 1, .slice tA4 0 tc4, .slice fA4 1 fc4, .slice (some ⟨g4, 0, none⟩) 2 sc4] 28 w6.heap.size (by simp)
  have H4 : Pers ((((w6.setCell ⟨g4, 0, none⟩ (.bool true)).setCell ⟨g4, 1, none⟩ (.int .i64 0)).setCell ⟨g4, 2, none⟩ (.int .u64 18)).alloc (.cells #[.int .i64 4, .int .i64 3, .int .i64 2, .int .i64 3, .bool false, .slice wA4 11 wc4, .int .i64 1, .slice tA4 0 tc4, .slice fA4 1 fc4, .slice (some ⟨g4, 0, none⟩) 2 sc4] 28)) (fun w => StAt w (awD wA4 aw15u wc4 1 tA4 tc4 fA4 fc4 (some ⟨g4, 0, none⟩) aw15v sc4)) := fun w k => StAt.ext ⟨ho2.at.w, ho2.at.t, ho2.at.f, ho2.at.s⟩ (((Ext.refl _).alloc _).trans k)
  (replace hB1 := hB1.re hy; replace hB2 := hB2.re hy; replace hB3 := hB3.re hy; replace H1 := H1.re hy; replace H2 := H2.re hy; replace H3 := H3.re hy; replace HX := Lib.hid (HX.out.trans hy))
  clear hy hx ho ho2 c0 c1 c2 cf hg1 hg2 hb3 k3 q3 q4
  generalize (((w6.setCell ⟨g4, 0, none⟩ (.bool true)).setCell ⟨g4, 1, none⟩ (.int .i64 0)).setCell ⟨g4, 2, none⟩ (.int .u64 18)).alloc (.cells #[.int .i64 4, .int .i64 3, .int .i64 2, .int .i64 3, .bool false, .slice wA4 11 wc4, .int .i64 1, .slice tA4 0 tc4, .slice fA4 1 fc4, .slice (some ⟨g4, 0, none⟩) 2 sc4] 28) = W6 at *
  generalize w6.heap.size = B4 at *
  refine (awhead (ws := aw15u) (sl := aw15s) (by decide) aw15_vals.2.2.2.1 aw15_vals.2.2.2.2 W6 H3.here).mono ?_
  rintro e w7 ⟨hk, hr, hm, hc, rfl, hx⟩
  (replace hB1 := hB1.re hx; replace hB2 := hB2.re hx; replace hB3 := hB3.re hx; replace hB4 := hB4.re hx; replace H1 := H1.re hx; replace H2 := H2.re hx; replace H3 := H3.re hx; replace H4 := H4.re hx; replace HX := Lib.hid (HX.out.trans hx))
  clear hx
  have k3 := (cells_of hB3.here).1
  have q3 := lt_of_heap hB3.here
  go_wp2_with fail
  have hy := (Ext.refl w7).alloc (.cells #[.int .i64 hk, .int .i64 0, .int .i64 hr, .bool hm, .int .i64 hc] 36)
  have hB5 := pers_new w7 #[.int .i64 hk, .int .i64 0, .int .i64 hr, .bool hm, .int .i64 hc] 36 _ rfl
  (replace hB1 := hB1.re hy; replace hB2 := hB2.re hy; replace hB3 := hB3.re hy; replace hB4 := hB4.re hy; replace H1 := H1.re hy; replace H2 := H2.re hy; replace H3 := H3.re hy; replace H4 := H4.re hy; replace HX := Lib.hid (HX.out.trans hy))
  clear hy k3 q3
  generalize w7.alloc (.cells #[.int .i64 hk, .int .i64 0, .int .i64 hr, .bool hm, .int .i64 hc] 36) = W7 at *
  generalize w7.heap.size = B5 at *
  refine (awobjects (ws := aw15u) (sl := aw15s) (by decide) 1 aw15_c (by rw [aw15_vals.2.2.1]; rfl) W7 H3.here).mono ?_
  rintro e w8 ⟨mA, mc, rfl, hx⟩
  (replace hB1 := hB1.re hx; replace hB2 := hB2.re hx; replace hB3 := hB3.re hx; replace hB4 := hB4.re hx; replace hB5 := hB5.re hx; replace H1 := H1.re hx; replace H2 := H2.re hx; replace H3 := H3.re hx; replace H4 := H4.re hx; replace HX := Lib.hid (HX.out.trans hx))
  clear hx
  have hf : SpansAt w8 fA1 [(8, 3)] := H1.here.f
  obtain ⟨lb, off, rfl, hc⟩ := RowAt.get hf (by simp)
  obtain ⟨s0, s1⟩ := spans_cell hc (k := 0) (by simp)
  simp only [Nat.zero_mul, Nat.add_zero, List.getD_cons_zero] at s0 s1
  replace s0 := pers_cell s0
  replace s1 := pers_cell s1
  clear hf hc
  have g1 := hB1.cells
  have g2 := hB2.cells
  have g3 := hB3.cells
  have g4 := hB4.cells
  have g5 := hB5.cells
  ((first | refine at_baseC (W := w8) ?_ | refine at_base (W := w8) ?_); intro uq; (try go_wp2_with fail))
  have hx8 := uq.2
  simp only [List.append]
  (refine wp_region_seg (W := w8) [([(0, true), (1, true), (2, true), (3, true), (4, true), (5, true), (6, true), (7, true), (8, false), (9, true), (10, true), (11, true), (12, true), (13, false), (14, true), (15, true), (16, true), (17, true), (18, true), (19, true), (20, true), (21, true), (22, false), (23, true), (24, true), (25, true), (26, true), (27, false), (28, true), (29, true), (30, true), (31, true), (32, false), (33, true), (34, true), (35, true), (36, true), (37, true), (38, true), (39, true), (40, true), (41, true), (42, true), (43, true), (44, true), (45, true), (46, true), (47, true), (48, true), (49, true), (50, false), (51, true), (52, true), (53, true), (54, true), (55, false), (56, true), (57, true), (58, true), (59, true), (60, true), (61, false), (62, true), (63, true), (64, true), (65, true), (66, true)], 67)] [(68, false), (69, true), (70, true), (71, true), (72, false), (73, true), (74, true), (75, true)] [] (by kernel_rfl) (by kernel_rfl) (by intro c a d v w h; cases d <;> first | exact h | cases h.1) (by with_reducible assumption) ?_; simp only [opsOf, List.map_cons, List.map_nil, List.getD_cons_zero, List.getD_cons_succ])
  ((first | refine seg_cons ?_ | refine seg_last ?_); (repeat (go_big_quiet_step (first | (go_at_call 10; with_reducible exact Calls.ext_of (awcheck (ws := aw15w) (sl := aw15s) (by decide) 0 aw15_a _ (H1.at (by repeat (first | (with_reducible exact Ext.refl _) | (with_reducible exact ExtOf.ext _) | (with_reducible assumption) | (with_reducible refine Ext.drew ?_) | (with_reducible refine Ext.alloc ?_ _)))))) | (go_at_call 10; with_reducible exact Calls.ext_of (awcheck (ws := aw15w) (sl := aw15s) (by decide) 4 aw15_b _ (H2.at (by repeat (first | (with_reducible exact Ext.refl _) | (with_reducible exact ExtOf.ext _) | (with_reducible assumption) | (with_reducible refine Ext.drew ?_) | (with_reducible refine Ext.alloc ?_ _)))))) | (go_at_call 10; with_reducible exact Calls.ext_of (awcheck (ws := aw15u) (sl := aw15s) (by decide) 0 aw15_c _ (H3.at (by repeat (first | (with_reducible exact Ext.refl _) | (with_reducible exact ExtOf.ext _) | (with_reducible assumption) | (with_reducible refine Ext.drew ?_) | (with_reducible refine Ext.alloc ?_ _)))))) | (go_at_call 10; with_reducible exact Calls.ext_of (awcheck (ws := aw15u) (sl := aw15v) (by decide) 9 aw15_d _ (H4.at (by repeat (first | (with_reducible exact Ext.refl _) | (with_reducible exact ExtOf.ext _) | (with_reducible assumption) | (with_reducible refine Ext.drew ?_) | (with_reducible refine Ext.alloc ?_ _)))))) | (go_at_call 13; with_reducible exact Calls.ext_of (awused 1 aw15_vals.1 _)) | (go_at_call 17; with_reducible exact Calls.ext_of (awsame (ws := aw15w) (sl := aw15s) (ws2 := aw15w) (sl2 := aw15s) (top := 0) (top2 := 1) (by decide) (by decide) false (by decide) _ (H1.at (by repeat (first | (with_reducible exact Ext.refl _) | (with_reducible exact ExtOf.ext _) | (with_reducible assumption) | (with_reducible refine Ext.drew ?_) | (with_reducible refine Ext.alloc ?_ _)))) (H2.at (by repeat (first | (with_reducible exact Ext.refl _) | (with_reducible exact ExtOf.ext _) | (with_reducible assumption) | (with_reducible refine Ext.drew ?_) | (with_reducible refine Ext.alloc ?_ _))))))))); refine wpQuiet_nil ?_; intro w1 hx)
  ((refine seg_step ?_ ?_; (focus rfl); intro K hK; go_simp); refine (awcopy (ws := aw15w) (sl := aw15s) (by decide) _ (H1.at (by repeat (first | (with_reducible exact Ext.refl _) | (with_reducible exact ExtOf.ext _) | (with_reducible assumption) | (with_reducible refine Ext.drew ?_) | (with_reducible refine Ext.alloc ?_ _))))).mono ?_; rintro e w9 ⟨wA9, wc9, tA9, tc9, fA9, fc9, sA9, sc9, rfl, ho, hx2⟩; refine hK w9 _ _ (hx.trans hx2) (Ext.refl _) ?_; have hz2 := hx.size; replace hx2 := hx.trans hx2; replace H1 := H1.re hx2; clear hK K hx)
  replace HX := Lib.hid (HX.out.trans hx2)
  have H9 := ho.at.pers
  clear ho hx2 g1 g2 g3 g4 g5 s0 s1 hx8
  ((first | refine seg_cons ?_ | refine seg_last ?_); (repeat (go_big_quiet_step (first | (go_at_call 17; with_reducible exact Calls.ext_of (awsame (ws := aw15w) (sl := aw15s) (ws2 := aw15w) (sl2 := aw15s) (top := 0) (top2 := 0) (by decide) (by decide) true (by decide) _ (H1.at (by repeat (first | (with_reducible exact Ext.refl _) | (with_reducible exact ExtOf.ext _) | (with_reducible assumption) | (with_reducible refine Ext.drew ?_) | (with_reducible refine Ext.alloc ?_ _)))) (H9.at (by repeat (first | (with_reducible exact Ext.refl _) | (with_reducible exact ExtOf.ext _) | (with_reducible assumption) | (with_reducible refine Ext.drew ?_) | (with_reducible refine Ext.alloc ?_ _)))))) | (go_at_call 10; with_reducible exact Calls.ext_of (awzero _))))); refine wpQuiet_nil ?_; intro w1 hx)
  (obtain ⟨uq, rfl⟩ : ∃ u : ExtOf w9, w1 = u.1 := ⟨⟨w1, hx⟩, rfl⟩; clear hx; go_wp2_with fail)
  go_ret
  exact ⟨rfl, HX.out.trans (ExtOf.ext _)⟩
end Go.Proofs.YtkcpfimhbogdcaaGreat

