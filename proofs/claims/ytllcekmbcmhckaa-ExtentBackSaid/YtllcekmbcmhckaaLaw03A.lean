/- The walk of layer 3's awake, and of the laws SpanTells and SpanGaps. -/
import Derived.Test.YtllcekmbcmhckaaGapsW
import Derived.Test.YtllcekmbcmhckaaRefGap
import Derived.Test.YtllcekmbcmhckaaSeg
set_option linter.unusedSimpArgs false
set_option linter.unusedVariables false
namespace Go.Proofs.Ytllcekmbcmhckaa
open Go.RowKit

/-- The contracts with the spans and their number under names. -/
theorem join_c (A : Option Addr) (cap : Nat) (xs zs : List (Int × Int)) (n m : Nat) (V : World) (hn : xs.length = n) (hz : joinL xs = zs) (hm : zs.length = m) (hlen : n ≤ 1000000) (hl : SpansAt V A xs) :
    Calls Try.prog 29 #[.slice A n cap] V fun e w' => ∃ A2 cap2, e = .returned (.slice A2 m cap2) ∧ SpansAt w' A2 zs ∧ Ext V w' := by
  subst hn hz hm
  exact (join_any A cap xs V hlen hl).mono fun e w' h => h.open
theorem gaps_c (a s : Int) (A : Option Addr) (cap : Nat) (xs zs : List (Int × Int)) (n m : Nat) (V : World) (hn : xs.length = n) (hz : GapsOf a s xs zs) (hm : zs.length = m) (hlen : n ≤ 1000000) (hl : SpansAt V A xs) :
    Calls Try.prog 31 #[.agg #[.int .i64 (a), .int .i64 (s)], .slice A n cap] V fun e w' => ∃ A2 cap2, e = .returned (.slice A2 m cap2) ∧ SpansAt w' A2 zs ∧ Ext V w' := by
  subst hn hm
  refine (gaps_any a s A cap xs V hlen hl).mono fun e w' ⟨ys, hg, h⟩ => ?_
  obtain rfl := Canon.unique hg hz
  exact h.open
theorem sort_c (A : Option Addr) (cap : Nat) (xs zs : List (Int × Int)) (n m : Nat) (V : World) (hn : xs.length = n) (hz : sortS xs = zs) (hm : zs.length = m) (hlen : n ≤ 1000000) (hl : SpansAt V A xs) :
    Calls Try.prog 23 #[.slice A n cap] V fun e w' => ∃ A2 cap2, e = .returned (.slice A2 m cap2) ∧ SpansAt w' A2 zs ∧ Ext V w' := by
  subst hn hz hm
  exact (sort_any A cap xs V hlen hl).mono fun e w' h => h.open
theorem total_c (A : Option Addr) (cap : Nat) (xs : List (Int × Int)) (n : Nat) (t : Int) (V : World) (hn : xs.length = n) (ht : totalL xs = t) (hlen : n ≤ 1000000) (hl : SpansAt V A xs) :
    Calls Try.prog 25 #[.slice A n cap] V fun e w' => e = .returned (.int .i64 t) ∧ Ext V w' := by
  subst hn ht
  exact total_any A cap xs V (by omega) hl
theorem apart_c (A : Option Addr) (cap : Nat) (xs : List (Int × Int)) (n : Nat) (b : Bool) (V : World) (hn : xs.length = n) (hb : apartB xs = b) (hlen : n ≤ 1000000) (hl : SpansAt V A xs) :
    Calls Try.prog 27 #[.slice A n cap] V fun e w' => e = .returned (.bool b) ∧ Ext V w' := by
  subst hn hb
  exact apart_any A cap xs V hlen hl
theorem SpansAt.at {W : World} {A : Option Addr} {zs : List (Int × Int)} (h : SpansAt W A zs) (hne : 0 < zs.length) :
    ∃ b off, A = some ⟨b, off, none⟩ ∧ ∀ i, i < zs.length → ∀ w', Ext W w' → w'.cell? ⟨b, off + i * 2, none⟩ = some (.int .i64 (zs.getD i (0, 0)).1) ∧ w'.cell? ⟨b, off + i * 2 + 1, none⟩ = some (.int .i64 (zs.getD i (0, 0)).2) := by
  obtain ⟨b, off, hA, hc⟩ := h.get hne
  refine ⟨b, off, hA, fun i hi w' hx => ?_⟩
  obtain ⟨h1, h2⟩ := spans_cell hc hi
  exact ⟨hx.cell h1, hx.cell h2⟩

theorem meets_is (a s c d : Int) (b : Bool) (h : meetsB a s c d = b) (w : World) : Calls Try.prog 17 #[.agg #[.int .i64 (a), .int .i64 (s)], .agg #[.int .i64 (c), .int .i64 (d)]] w fun e w' => e = .returned (.bool b) ∧ Ext w w' := by
  rw [← h]; exact meets_any a s c d w
theorem within_is (a s c d : Int) (b : Bool) (h : withinB a s c d = b) (w : World) : Calls Try.prog 19 #[.agg #[.int .i64 (a), .int .i64 (s)], .agg #[.int .i64 (c), .int .i64 (d)]] w fun e w' => e = .returned (.bool b) ∧ Ext w w' := by
  rw [← h]; exact within_any a s c d w
theorem has_is (a s p : Int) (b : Bool) (h : hasB a s p = b) (w : World) : Calls Try.prog 15 #[.agg #[.int .i64 (a), .int .i64 (s)], .int .i64 p] w fun e w' => e = .returned (.bool b) ∧ Ext w w' := by
  rw [← h]; exact has_any a s p w
def awL : List (Int × Int) := [(5, 1), (0, 2), (2, 1)]
theorem aw_sort : sortS awL = [(0, 2), (2, 1), (5, 1)] := (sortS_unique (l := awL) (by decide) (by decide)).symm
theorem aw_join : joinL awL = [(0, 3), (5, 1)] := by
  unfold joinL
  rw [aw_sort]
  decide
theorem aw_gaps : GapsOf 0 6 [(0, 3), (5, 1)] [(3, 2)] := by
  refine ⟨by simp, by simp, fun p => ?_⟩
  simp [LeftB, hasB, mayB, coveredB, InS]
  omega
theorem aw_total : totalL awL = 4 := by decide
theorem aw_apart : apartB awL = true := by decide

set_option maxRecDepth 100000 in
set_option maxHeartbeats 4000000 in
theorem awake03_any (w : World) : Calls Try.prog 21 #[] w fun e w' => e = .returned (.bool true) ∧ Ext w w' := by
  go_enter Try.func21, Try.ntmps21
  go_wp2_with fail
  have hL : SpansAt (w.alloc (.cells #[.int .i64 5, .int .i64 1, .int .i64 0, .int .i64 2, .int .i64 2, .int .i64 1] 23)) (some ⟨w.heap.size, 0, none⟩) awL := row_lit w _ rfl spanCells (by decide)
  have hW : Ext w (w.alloc (.cells #[.int .i64 5, .int .i64 1, .int .i64 0, .int .i64 2, .int .i64 2, .int .i64 1] 23)) := (Ext.refl w).alloc _
  generalize w.alloc (.cells #[.int .i64 5, .int .i64 1, .int .i64 0, .int .i64 2, .int .i64 2, .int .i64 1] 23) = W at *
  obtain ⟨b, off, hb, hc⟩ := hL.at (by decide)
  obtain ⟨rfl, rfl⟩ : w.heap.size = b ∧ 0 = off := by simpa using hb
  have c0 := fun w' h => (hc 0 (by decide) w' h).1
  have c1 := fun w' h => (hc 0 (by decide) w' h).2
  have c4 := fun w' h => (hc 2 (by decide) w' h).1
  have c5 := fun w' h => (hc 2 (by decide) w' h).2
  simp only [awL, List.getD_cons_zero, List.getD_cons_succ, Nat.zero_mul, Nat.zero_add, Nat.reduceMul, Nat.reduceAdd] at c0 c1 c4 c5
  have HL := Lib.hid hL
  clear hL hc hb
  refine (join_c _ 3 awL [(0, 3), (5, 1)] 3 2 W rfl aw_join rfl (by omega) HL.out).mono ?_
  rintro e W1 ⟨A1, cap1, rfl, hj, hx1⟩
  obtain ⟨b1, o1, rfl, hc⟩ := hj.at (by decide)
  have d0 := fun w' h => (hc 0 (by decide) w' h).1
  have d1 := fun w' h => (hc 0 (by decide) w' h).2
  simp only [List.getD_cons_zero, List.getD_cons_succ, Nat.zero_mul, Nat.add_zero] at d0 d1
  have HJ := Lib.hid hj
  clear hj hc
  go_wp2_with fail
  refine (gaps_c 0 6 _ cap1 [(0, 3), (5, 1)] [(3, 2)] 2 1 W1 rfl aw_gaps rfl (by omega) HJ.out).mono ?_
  rintro e W2 ⟨A2, cap2, rfl, hg, hx2⟩
  obtain ⟨b2, o2, rfl, hc⟩ := hg.at (by decide)
  have e0 := fun w' h => (hc 0 (by decide) w' h).1
  have e1 := fun w' h => (hc 0 (by decide) w' h).2
  simp only [List.getD_cons_zero, List.getD_cons_succ, Nat.zero_mul, Nat.add_zero] at e0 e1
  clear hg hc
  have hs0 : Ext W2 W2 := Ext.refl W2
  have hs1 : Ext W1 W2 := hx2
  have hs2 : Ext W W2 := hx1.trans hx2
  clear hx1 hx2
  have l0 := fun u : ExtOf W2 => c0 u.1 (hs2.trans u.2)
  have l1 := fun u : ExtOf W2 => c1 u.1 (hs2.trans u.2)
  have l4 := fun u : ExtOf W2 => c4 u.1 (hs2.trans u.2)
  have l5 := fun u : ExtOf W2 => c5 u.1 (hs2.trans u.2)
  have m0 := fun u : ExtOf W2 => d0 u.1 (hs1.trans u.2)
  have m1 := fun u : ExtOf W2 => d1 u.1 (hs1.trans u.2)
  have n0 := fun u : ExtOf W2 => e0 u.1 u.2
  have n1 := fun u : ExtOf W2 => e1 u.1 u.2
  have HL2 : Hid (∀ u : ExtOf W2, SpansAt u.1 (some ⟨w.heap.size, 0, none⟩) awL) := Lib.hid fun u => HL.out.ext (hs2.trans u.2)
  go_wp2_with fail
  simp only [List.append]
  (refine wp_region_seg (W := W2) [([(0, true), (1, false), (2, true), (3, true), (4, true), (5, true), (6, true), (7, true), (8, true), (9, true), (10, true), (11, true), (12, false), (13, true), (14, true), (15, true), (16, true), (17, true), (18, true), (19, true), (20, true), (21, true), (22, true), (23, true), (24, false), (25, true), (26, true), (27, true), (28, true), (29, false), (30, true), (31, true), (32, true)], 33)] [(34, true), (35, true), (36, true), (37, true), (38, true), (39, true), (40, true), (41, true), (42, true), (43, true), (44, false), (45, true), (46, true), (47, true), (48, true), (49, true), (50, false), (51, true), (52, true), (53, true), (54, true), (55, true), (56, true), (57, true), (58, true), (59, true), (60, false), (61, true), (62, true), (63, true), (64, false), (65, true), (66, true), (67, true)] [] (by kernel_rfl) (by kernel_rfl) (by intro c a d v w h; cases d <;> exact h) (by with_reducible assumption) ?_; simp only [opsOf, List.map_cons, List.map_nil, List.getD_cons_zero, List.getD_cons_succ])
  ((first | refine seg_cons ?_ | refine seg_last ?_); (repeat (go_big_quiet_step (first | (go_at_call 25; with_reducible exact Calls.ext_of (total_c _ 3 awL 3 4 _ rfl aw_total (by omega) (HL2.out _))) | (go_at_call 27; with_reducible exact Calls.ext_of (apart_c _ 3 awL 3 true _ rfl aw_apart (by omega) (HL2.out _)))))); refine wpQuiet_nil ?_; intro w1 hx)
  (refine seg_step ?_ ?_; (focus rfl); intro K hK; go_simp)
  refine (sort_c _ 3 awL [(0, 2), (2, 1), (5, 1)] 3 3 w1 rfl aw_sort rfl (by omega) (HL2.out ⟨w1, hx⟩)).mono ?_
  rintro e W3 ⟨A3, cap3, rfl, hq, hx3⟩
  obtain ⟨b3, o3, rfl, hc⟩ := hq.at (by decide)
  have f1 := fun w' h => (hc 0 (by decide) w' h).2
  simp only [List.getD_cons_zero, Nat.zero_mul, Nat.add_zero] at f1
  have hs3 : Ext W2 W3 := hx.trans hx3
  refine hK W3 _ _ hs3 (Ext.refl _) ?_
  clear hK K hc hq hx hx3
  replace l0 := fun u : ExtOf W3 => c0 u.1 ((hs2.trans hs3).trans u.2)
  replace l1 := fun u : ExtOf W3 => c1 u.1 ((hs2.trans hs3).trans u.2)
  replace l4 := fun u : ExtOf W3 => c4 u.1 ((hs2.trans hs3).trans u.2)
  replace l5 := fun u : ExtOf W3 => c5 u.1 ((hs2.trans hs3).trans u.2)
  replace m0 := fun u : ExtOf W3 => d0 u.1 ((hs1.trans hs3).trans u.2)
  replace m1 := fun u : ExtOf W3 => d1 u.1 ((hs1.trans hs3).trans u.2)
  have q1 := fun u : ExtOf W3 => f1 u.1 u.2
  clear c0 c1 c4 c5 d0 d1 e0 e1 f1 n0 n1
  ((first | refine seg_cons ?_ | refine seg_last ?_); (repeat (go_big_quiet_step (first | (go_at_call 17; with_reducible exact Calls.ext_of (meets_is 5 1 4 2 true (by decide) _)) | (go_at_call 15; with_reducible exact Calls.ext_of (has_is 5 1 6 false (by decide) _)) | (go_at_call 19; with_reducible exact Calls.ext_of (within_is 2 1 0 3 true (by decide) _)) | (go_at_call 13; with_reducible exact Calls.ext_of (may_is 0 0 false (by decide) _))))); refine wpQuiet_nil ?_; intro w1 hx)
  go_wp2_with fail
  go_ret
  exact ⟨rfl, hW.trans (hs2.trans (hs3.trans hx))⟩
end Go.Proofs.Ytllcekmbcmhckaa
