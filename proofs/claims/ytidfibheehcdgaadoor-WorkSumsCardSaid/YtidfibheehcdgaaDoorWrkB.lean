/- The walk of work.Add. -/
import Derived.Test.YtidfibheehcdgaaDoorWrkA
set_option linter.unusedSimpArgs false
set_option linter.unusedVariables false
namespace Go.Proofs.YtidfibheehcdgaaDoor
open Go.RowKit

abbrev wc (a b c d e : Int) : Array Value := #[.int .i64 a, .int .i64 b, .int .i64 c, .int .i64 d, .int .i64 e]
abbrev wp5 (B : Nat) : Array Value := #[.pointer (some ⟨B, 0, none⟩), .pointer (some ⟨B, 1, none⟩), .pointer (some ⟨B, 2, none⟩), .pointer (some ⟨B, 3, none⟩), .pointer (some ⟨B, 4, none⟩)]
/-- The first k numbers are added up. -/
def arrK (k : Nat) (a b c d e p q r s t : Int) : Array Value := wc (if 0 < k then p else a) (if 1 < k then q else b) (if 2 < k then r else c) (if 3 < k then s else d) (if 4 < k then t else e)
theorem heap_alloc3 (w : World) (o0 o1 o2 : Obj) : ((((w.alloc o0).alloc o1).alloc o2).heap[w.heap.size]? = some o0) ∧ ((((w.alloc o0).alloc o1).alloc o2).heap[w.heap.size + 1]? = some o1) ∧ ((((w.alloc o0).alloc o1).alloc o2).heap[w.heap.size + 1 + 1]? = some o2) ∧ (((w.alloc o0).alloc o1).alloc o2).heap.size = w.heap.size + 3 := by
  have s0 : (w.alloc o0).heap.size = w.heap.size + 1 := by simp
  have s1 : ((w.alloc o0).alloc o1).heap.size = w.heap.size + 1 + 1 := by simp
  have x1 : Ext (w.alloc o0) ((w.alloc o0).alloc o1) := (Ext.refl _).alloc _
  have x2 : Ext ((w.alloc o0).alloc o1) (((w.alloc o0).alloc o1).alloc o2) := (Ext.refl _).alloc _
  refine ⟨((x1.trans x2).block (k := w.heap.size) (by omega)).trans (heap_alloc_new w o0), ?_, ?_, by simp⟩
  · rw [x2.block (k := w.heap.size + 1) (by omega), ← s0]; exact heap_alloc_new _ o1
  · rw [← s1]; exact heap_alloc_new _ o2
theorem heap_alloc2 (w : World) (o0 o1 : Obj) : ((w.alloc o0).alloc o1).heap[w.heap.size]? = some o0 ∧ ((w.alloc o0).alloc o1).heap[w.heap.size + 1]? = some o1 ∧ ((w.alloc o0).alloc o1).heap.size = w.heap.size + 2 := by
  have s0 : (w.alloc o0).heap.size = w.heap.size + 1 := by simp
  have x1 : Ext (w.alloc o0) ((w.alloc o0).alloc o1) := (Ext.refl _).alloc _
  refine ⟨(x1.block (k := w.heap.size) (by omega)).trans (heap_alloc_new w o0), ?_, by simp⟩
  rw [← s0]; exact heap_alloc_new _ o1
theorem cell_of {w : World} {b i : Nat} {cs : Array Value} {t : TypeId} {v : Value} (h : w.heap[b]? = some (.cells cs t (0, 0))) (hv : cs[i]? = some v) : w.cell? ⟨b, i, none⟩ = some v := by
  simp [World.cell?, h, hv]

theorem plus_is (a b z : Int) (ha : I64 a) (hb : I64 b) (hz : plusZ a b = z) (w : World) :
    Calls Tryd.prog 42 #[.int .i64 a, .int .i64 b] w fun e w' => e = .returned (.int .i64 z) ∧ w = w' := by subst hz; exact plus_any a b ha hb w
theorem lt_of_heapW {W : World} {k : Nat} {o : Obj} (h : W.heap[k]? = some o) : k < W.heap.size := (Array.getElem?_eq_some_iff.1 h).1
set_option maxRecDepth 100000 in
set_option maxHeartbeats 4000000 in
theorem wadd_any (a b c d e a' b' c' d' e' : Int) (ha : I64 a ∧ I64 b ∧ I64 c ∧ I64 d ∧ I64 e) (hb : I64 a' ∧ I64 b' ∧ I64 c' ∧ I64 d' ∧ I64 e') (w : World) :
    Calls Tryd.prog 31 #[.agg #[.int .i64 a, .int .i64 b, .int .i64 c, .int .i64 d, .int .i64 e], .agg #[.int .i64 a', .int .i64 b', .int .i64 c', .int .i64 d', .int .i64 e']] w fun r w' =>
      r = .returned (.agg #[.int .i64 (plusZ a a'), .int .i64 (plusZ b b'), .int .i64 (plusZ c c'), .int .i64 (plusZ d d'), .int .i64 (plusZ e e')]) ∧ Ext w w' := by
  obtain ⟨p, hp⟩ : ∃ z, plusZ a a' = z := ⟨_, rfl⟩
  obtain ⟨q, hq⟩ : ∃ z, plusZ b b' = z := ⟨_, rfl⟩
  obtain ⟨r, hr⟩ : ∃ z, plusZ c c' = z := ⟨_, rfl⟩
  obtain ⟨s, hs⟩ : ∃ z, plusZ d d' = z := ⟨_, rfl⟩
  obtain ⟨t, ht⟩ : ∃ z, plusZ e e' = z := ⟨_, rfl⟩
  have HA := Lib.hid ha
  have HB := Lib.hid hb
  have HP := Lib.hid hp
  have HQ := Lib.hid hq
  have HR := Lib.hid hr
  have HS := Lib.hid hs
  have HT := Lib.hid ht
  rw [hp, hq, hr, hs, ht]
  clear ha hb hp hq hr hs ht
  obtain ⟨g0, g1, g2, gs⟩ := heap_alloc3 w (.cells (wc a b c d e) 51) (.cells (wc a' b' c' d' e') 51) (.cells (wc 0 0 0 0 0) 51)
  have hW : Ext w (((w.alloc (.cells (wc a b c d e) 51)).alloc (.cells (wc a' b' c' d' e') 51)).alloc (.cells (wc 0 0 0 0 0) 51)) := (((Ext.refl w).alloc _).alloc _).alloc _
  have HG0 := Lib.hid g0
  have HG1 := Lib.hid g1
  have HG2 := Lib.hid g2
  have HGS := Lib.hid gs
  clear g0 g1 g2 gs
  go_enter Tryd.func31, Tryd.ntmps31
  go_wp2_with fail
  generalize ((w.alloc (.cells (wc a b c d e) 51)).alloc (.cells (wc a' b' c' d' e') 51)).alloc (.cells (wc 0 0 0 0 0) 51) = W at *
  refine (numbers_any w.heap.size W (by rw [HGS.out]; omega)).mono ?_
  rintro e1 W1 ⟨rfl, hx1⟩
  go_wp2_with fail
  refine (numbers_any (w.heap.size + 1) W1 (by have := HGS.out; have := hx1.size; omega)).mono ?_
  rintro e1 W2 ⟨rfl, hx2⟩
  replace hx2 := hx1.trans hx2
  obtain ⟨y0, y1, ys⟩ := heap_alloc2 W2 (.cells (wp5 w.heap.size) 64) (.cells (wp5 (w.heap.size + 1)) 64)
  have hx3 := (hx2.alloc (.cells (wp5 w.heap.size) 64)).alloc (.cells (wp5 (w.heap.size + 1)) 64)
  have hsz2 : w.heap.size + 3 ≤ W2.heap.size := by have := HGS.out; have := hx2.size; omega
  have HY0 := Lib.hid y0
  have HY1 := Lib.hid y1
  have HYS := Lib.hid ys
  clear hx1 hx2 y0 y1 ys
  go_wp2_with fail
  generalize (W2.alloc (.cells (wp5 w.heap.size) 64)).alloc (.cells (wp5 (w.heap.size + 1)) 64) = W3 at *
  generalize hX : W2.heap.size = X at *
  generalize hH : w.heap.size = H at *
  have HHH := Lib.hid hH
  clear hX hH
  have K0 := Lib.hid ((hx3.block (k := H) (by have := HGS.out; omega)).trans HG0.out)
  have K1 := Lib.hid ((hx3.block (k := H + 1) (by have := HGS.out; omega)).trans HG1.out)
  have K2 := Lib.hid ((hx3.block (k := H + 1 + 1) (by have := HGS.out; omega)).trans HG2.out)
  have HX := Lib.hid (hW.trans hx3)
  clear hW hx3 HG0 HG1 HG2
  go_loopw [7, 10] (fun _ i wr => ∃ k : Nat, k ≤ 5 ∧ i = .int .i64 k ∧ Only H W3 wr ∧ Hid (wr.heap[H]? = some (.cells (arrK k a b c d e p q r s t) 51 (0, 0)))) (fun _ i _ => 5 - (intOf i).toNat)
  case atStart => exact ⟨0, by omega, rfl, Only.refl _ _, Lib.hid (by exact K0.out)⟩
  case round =>
    obtain ⟨k, hk, rfl, ho, hq⟩ := hrel
    have hH1 : wr.heap[H + 1]? = some (.cells (wc a' b' c' d' e') 51 (0, 0)) := (ho.block (H + 1) (by have := lt_of_heapW K1.out; omega) (by intro h; injection h with h; omega)).trans K1.out
    have hH2 : wr.heap[H + 1 + 1]? = some (.cells (wc 0 0 0 0 0) 51 (0, 0)) := (ho.block (H + 1 + 1) (by have := lt_of_heapW K2.out; omega) (by intro h; injection h with h; omega)).trans K2.out
    have hX0 : wr.heap[X]? = some (.cells (wp5 H) 64 (0, 0)) := (ho.block X (by have := lt_of_heapW HY0.out; omega) (by intro h; injection h with h; omega)).trans HY0.out
    have hX1 : wr.heap[X + 1]? = some (.cells (wp5 (H + 1)) 64 (0, 0)) := (ho.block (X + 1) (by have := lt_of_heapW HY1.out; omega) (by intro h; injection h with h; omega)).trans HY1.out
    have L1 := Lib.hid hH1
    have L2 := Lib.hid hH2
    have M0 := Lib.hid hX0
    have M1 := Lib.hid hX1
    clear hH1 hH2 hX0 hX1
    have hs0 : Ext wr wr := Ext.refl wr
    have hk6 : k = 0 ∨ k = 1 ∨ k = 2 ∨ k = 3 ∨ k = 4 ∨ k = 5 := by omega
    rcases hk6 with rfl | rfl | rfl | rfl | rfl | rfl
    · have l0 := fun u : ExtOf wr => u.2.cell (cell_of (i := 0) M0.out rfl)
      have l1 := fun u : ExtOf wr => u.2.cell (cell_of (i := 0) M1.out rfl)
      have l2 : ∀ u : ExtOf wr, u.1.cell? ⟨H, 0, none⟩ = some (.int .i64 a) := fun u => u.2.cell (cell_of (i := 0) hq.out rfl)
      have l3 : ∀ u : ExtOf wr, u.1.cell? ⟨H + 1, 0, none⟩ = some (.int .i64 a') := fun u => u.2.cell (cell_of (i := 0) L1.out rfl)
      go_wp2_with fail
      (refine wp_region_ext_tail (W := wr) 15 (by kernel_rfl) (by kernel_rfl) (by with_reducible assumption) ?_; simp only [List.take_succ_cons, List.take_zero, List.drop_succ_cons, List.drop_zero]; (repeat (go_big_quiet_step (first | (go_at_call 42; with_reducible exact Calls.ext_of ((plus_is a a' p (HA.out.1) (HB.out.1) HP.out _).mono (fun e w' h => ⟨h.1, h.2 ▸ Ext.refl _⟩)))))); refine wpQuiet_nil ?_; intro w1 hx)
      have hb1 := (hx.block (lt_of_heapW hq.out)).trans hq.out
      have hc1 : w1.cell? ⟨H, 0, none⟩ = some (.int .i64 a) := cell_of (i := 0) hb1 rfl
      have hf1 : w1.frozen? ⟨H, 0, none⟩ = false := frozen_of_row w1 _ 0 _ _ hb1
      have HS1 : Hid ((w1.setCell ⟨H, 0, none⟩ (.int .i64 p)).heap[H]? = some (.cells (arrK 1 a b c d e p q r s t) 51 (0, 0))) := Lib.hid (by
        rw [heap_setCell_same w1 H 0 _ _ _ hb1]; rfl)
      have HO := Lib.hid ((ho.trans (Only.of_ext hx)).setCell 0 (.int .i64 p))
      clear l0 l1 l2 l3 hb1
      go_wp2_with fail
      go_roundw
      case rel => exact ⟨1, by omega, by first | rfl | go_num, HO.out, HS1⟩
      case measure => simp [intOf]
    · have l0 := fun u : ExtOf wr => u.2.cell (cell_of (i := 1) M0.out rfl)
      have l1 := fun u : ExtOf wr => u.2.cell (cell_of (i := 1) M1.out rfl)
      have l2 : ∀ u : ExtOf wr, u.1.cell? ⟨H, 1, none⟩ = some (.int .i64 b) := fun u => u.2.cell (cell_of (i := 1) hq.out rfl)
      have l3 : ∀ u : ExtOf wr, u.1.cell? ⟨H + 1, 1, none⟩ = some (.int .i64 b') := fun u => u.2.cell (cell_of (i := 1) L1.out rfl)
      go_wp2_with fail
      (refine wp_region_ext_tail (W := wr) 15 (by kernel_rfl) (by kernel_rfl) (by with_reducible assumption) ?_; simp only [List.take_succ_cons, List.take_zero, List.drop_succ_cons, List.drop_zero]; (repeat (go_big_quiet_step (first | (go_at_call 42; with_reducible exact Calls.ext_of ((plus_is b b' q (HA.out.2.1) (HB.out.2.1) HQ.out _).mono (fun e w' h => ⟨h.1, h.2 ▸ Ext.refl _⟩)))))); refine wpQuiet_nil ?_; intro w1 hx)
      have hb1 := (hx.block (lt_of_heapW hq.out)).trans hq.out
      have hc1 : w1.cell? ⟨H, 1, none⟩ = some (.int .i64 b) := cell_of (i := 1) hb1 rfl
      have hf1 : w1.frozen? ⟨H, 1, none⟩ = false := frozen_of_row w1 _ 1 _ _ hb1
      have HS1 : Hid ((w1.setCell ⟨H, 1, none⟩ (.int .i64 q)).heap[H]? = some (.cells (arrK 2 a b c d e p q r s t) 51 (0, 0))) := Lib.hid (by
        rw [heap_setCell_same w1 H 1 _ _ _ hb1]; rfl)
      have HO := Lib.hid ((ho.trans (Only.of_ext hx)).setCell 1 (.int .i64 q))
      clear l0 l1 l2 l3 hb1
      go_wp2_with fail
      go_roundw
      case rel => exact ⟨2, by omega, by first | rfl | go_num, HO.out, HS1⟩
      case measure => simp [intOf]
    · have l0 := fun u : ExtOf wr => u.2.cell (cell_of (i := 2) M0.out rfl)
      have l1 := fun u : ExtOf wr => u.2.cell (cell_of (i := 2) M1.out rfl)
      have l2 : ∀ u : ExtOf wr, u.1.cell? ⟨H, 2, none⟩ = some (.int .i64 c) := fun u => u.2.cell (cell_of (i := 2) hq.out rfl)
      have l3 : ∀ u : ExtOf wr, u.1.cell? ⟨H + 1, 2, none⟩ = some (.int .i64 c') := fun u => u.2.cell (cell_of (i := 2) L1.out rfl)
      go_wp2_with fail
      (refine wp_region_ext_tail (W := wr) 15 (by kernel_rfl) (by kernel_rfl) (by with_reducible assumption) ?_; simp only [List.take_succ_cons, List.take_zero, List.drop_succ_cons, List.drop_zero]; (repeat (go_big_quiet_step (first | (go_at_call 42; with_reducible exact Calls.ext_of ((plus_is c c' r (HA.out.2.2.1) (HB.out.2.2.1) HR.out _).mono (fun e w' h => ⟨h.1, h.2 ▸ Ext.refl _⟩)))))); refine wpQuiet_nil ?_; intro w1 hx)
      have hb1 := (hx.block (lt_of_heapW hq.out)).trans hq.out
      have hc1 : w1.cell? ⟨H, 2, none⟩ = some (.int .i64 c) := cell_of (i := 2) hb1 rfl
      have hf1 : w1.frozen? ⟨H, 2, none⟩ = false := frozen_of_row w1 _ 2 _ _ hb1
      have HS1 : Hid ((w1.setCell ⟨H, 2, none⟩ (.int .i64 r)).heap[H]? = some (.cells (arrK 3 a b c d e p q r s t) 51 (0, 0))) := Lib.hid (by
        rw [heap_setCell_same w1 H 2 _ _ _ hb1]; rfl)
      have HO := Lib.hid ((ho.trans (Only.of_ext hx)).setCell 2 (.int .i64 r))
      clear l0 l1 l2 l3 hb1
      go_wp2_with fail
      go_roundw
      case rel => exact ⟨3, by omega, by first | rfl | go_num, HO.out, HS1⟩
      case measure => simp [intOf]
    · have l0 := fun u : ExtOf wr => u.2.cell (cell_of (i := 3) M0.out rfl)
      have l1 := fun u : ExtOf wr => u.2.cell (cell_of (i := 3) M1.out rfl)
      have l2 : ∀ u : ExtOf wr, u.1.cell? ⟨H, 3, none⟩ = some (.int .i64 d) := fun u => u.2.cell (cell_of (i := 3) hq.out rfl)
      have l3 : ∀ u : ExtOf wr, u.1.cell? ⟨H + 1, 3, none⟩ = some (.int .i64 d') := fun u => u.2.cell (cell_of (i := 3) L1.out rfl)
      go_wp2_with fail
      (refine wp_region_ext_tail (W := wr) 15 (by kernel_rfl) (by kernel_rfl) (by with_reducible assumption) ?_; simp only [List.take_succ_cons, List.take_zero, List.drop_succ_cons, List.drop_zero]; (repeat (go_big_quiet_step (first | (go_at_call 42; with_reducible exact Calls.ext_of ((plus_is d d' s (HA.out.2.2.2.1) (HB.out.2.2.2.1) HS.out _).mono (fun e w' h => ⟨h.1, h.2 ▸ Ext.refl _⟩)))))); refine wpQuiet_nil ?_; intro w1 hx)
      have hb1 := (hx.block (lt_of_heapW hq.out)).trans hq.out
      have hc1 : w1.cell? ⟨H, 3, none⟩ = some (.int .i64 d) := cell_of (i := 3) hb1 rfl
      have hf1 : w1.frozen? ⟨H, 3, none⟩ = false := frozen_of_row w1 _ 3 _ _ hb1
      have HS1 : Hid ((w1.setCell ⟨H, 3, none⟩ (.int .i64 s)).heap[H]? = some (.cells (arrK 4 a b c d e p q r s t) 51 (0, 0))) := Lib.hid (by
        rw [heap_setCell_same w1 H 3 _ _ _ hb1]; rfl)
      have HO := Lib.hid ((ho.trans (Only.of_ext hx)).setCell 3 (.int .i64 s))
      clear l0 l1 l2 l3 hb1
      go_wp2_with fail
      go_roundw
      case rel => exact ⟨4, by omega, by first | rfl | go_num, HO.out, HS1⟩
      case measure => simp [intOf]
    · have l0 := fun u : ExtOf wr => u.2.cell (cell_of (i := 4) M0.out rfl)
      have l1 := fun u : ExtOf wr => u.2.cell (cell_of (i := 4) M1.out rfl)
      have l2 : ∀ u : ExtOf wr, u.1.cell? ⟨H, 4, none⟩ = some (.int .i64 e) := fun u => u.2.cell (cell_of (i := 4) hq.out rfl)
      have l3 : ∀ u : ExtOf wr, u.1.cell? ⟨H + 1, 4, none⟩ = some (.int .i64 e') := fun u => u.2.cell (cell_of (i := 4) L1.out rfl)
      go_wp2_with fail
      (refine wp_region_ext_tail (W := wr) 15 (by kernel_rfl) (by kernel_rfl) (by with_reducible assumption) ?_; simp only [List.take_succ_cons, List.take_zero, List.drop_succ_cons, List.drop_zero]; (repeat (go_big_quiet_step (first | (go_at_call 42; with_reducible exact Calls.ext_of ((plus_is e e' t (HA.out.2.2.2.2) (HB.out.2.2.2.2) HT.out _).mono (fun e w' h => ⟨h.1, h.2 ▸ Ext.refl _⟩)))))); refine wpQuiet_nil ?_; intro w1 hx)
      have hb1 := (hx.block (lt_of_heapW hq.out)).trans hq.out
      have hc1 : w1.cell? ⟨H, 4, none⟩ = some (.int .i64 e) := cell_of (i := 4) hb1 rfl
      have hf1 : w1.frozen? ⟨H, 4, none⟩ = false := frozen_of_row w1 _ 4 _ _ hb1
      have HS1 : Hid ((w1.setCell ⟨H, 4, none⟩ (.int .i64 t)).heap[H]? = some (.cells (arrK 5 a b c d e p q r s t) 51 (0, 0))) := Lib.hid (by
        rw [heap_setCell_same w1 H 4 _ _ _ hb1]; rfl)
      have HO := Lib.hid ((ho.trans (Only.of_ext hx)).setCell 4 (.int .i64 t))
      clear l0 l1 l2 l3 hb1
      go_wp2_with fail
      go_roundw
      case rel => exact ⟨5, by omega, by first | rfl | go_num, HO.out, HS1⟩
      case measure => simp [intOf]
    · have z0 : wr.cell? ⟨H, 0, none⟩ = some (.int .i64 p) := cell_of (i := 0) hq.out rfl
      have z1 : wr.cell? ⟨H, 1, none⟩ = some (.int .i64 q) := cell_of (i := 1) hq.out rfl
      have z2 : wr.cell? ⟨H, 2, none⟩ = some (.int .i64 r) := cell_of (i := 2) hq.out rfl
      have z3 : wr.cell? ⟨H, 3, none⟩ = some (.int .i64 s) := cell_of (i := 3) hq.out rfl
      have z4 : wr.cell? ⟨H, 4, none⟩ = some (.int .i64 t) := cell_of (i := 4) hq.out rfl
      have y0 : wr.cell? ⟨H + 1 + 1, 0, none⟩ = some (.int .i64 0) := cell_of (i := 0) L2.out rfl
      have y1 : wr.cell? ⟨H + 1 + 1, 1, none⟩ = some (.int .i64 0) := cell_of (i := 1) L2.out rfl
      have y2 : wr.cell? ⟨H + 1 + 1, 2, none⟩ = some (.int .i64 0) := cell_of (i := 2) L2.out rfl
      have y3 : wr.cell? ⟨H + 1 + 1, 3, none⟩ = some (.int .i64 0) := cell_of (i := 3) L2.out rfl
      have y4 : wr.cell? ⟨H + 1 + 1, 4, none⟩ = some (.int .i64 0) := cell_of (i := 4) L2.out rfl
      have f0 : wr.frozen? ⟨H + 1 + 1, 0, none⟩ = false := frozen_of_row wr _ 0 _ _ L2.out
      have f1 : wr.frozen? ⟨H + 1 + 1, 1, none⟩ = false := frozen_of_row wr _ 1 _ _ L2.out
      have f2 : wr.frozen? ⟨H + 1 + 1, 2, none⟩ = false := frozen_of_row wr _ 2 _ _ L2.out
      have f3 : wr.frozen? ⟨H + 1 + 1, 3, none⟩ = false := frozen_of_row wr _ 3 _ _ L2.out
      have f4 : wr.frozen? ⟨H + 1 + 1, 4, none⟩ = false := frozen_of_row wr _ 4 _ _ L2.out
      have HE := Lib.hid (ho.ext HX.out (by rw [HHH.out]; exact Nat.le_refl _))
      have hge : w.heap.size ≤ H + 1 + 1 := by rw [HHH.out]; omega
      have HGE := Lib.hid hge
      clear hge
      go_wp2_with fail
      ((try simp only [Exit.inBlock, Exit.then]); refine bodyPost_ret (v := .agg #[.int .i64 p, .int .i64 q, .int .i64 r, .int .i64 s, .int .i64 t]) (by simp only [results, Tryd.results31]; go_simp) rfl ?_)
      refine ⟨?_, (((((HE.out.setCell (p := ⟨H + 1 + 1, 0, none⟩) HGE.out _).setCell (p := ⟨H + 1 + 1, 1, none⟩) HGE.out _).setCell (p := ⟨H + 1 + 1, 2, none⟩) HGE.out _).setCell (p := ⟨H + 1 + 1, 3, none⟩) HGE.out _).setCell (p := ⟨H + 1 + 1, 4, none⟩) HGE.out _)⟩
      first | rfl | (rw [HP.out, HQ.out, HR.out, HS.out, HT.out])
end Go.Proofs.YtidfibheehcdgaaDoor
