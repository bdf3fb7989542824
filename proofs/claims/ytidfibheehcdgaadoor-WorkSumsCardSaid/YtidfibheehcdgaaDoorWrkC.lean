/- The walk of work.Text. -/
import Derived.Test.YtidfibheehcdgaaDoorWrkB
import Derived.Test.YtidfibheehcdgaaDoorOwn
set_option linter.unusedSimpArgs false
set_option linter.unusedVariables false
namespace Go.Proofs.YtidfibheehcdgaaDoor
open Go.RowKit

def strC (l : List UInt8) : List Value := [.string ⟨l.toArray⟩]
theorem strCells : Cells 1 strC := ⟨fun _ => rfl, fun x u h => by simp [strC] at h; subst h; rfl⟩
theorem strInfo0 : (Tryd.prog.info? 9).map (fun i => (i.zero, i.size, i.bytes)) = some (some (.string ⟨#[]⟩), 1, 16) := by kernel_rfl
theorem info_parts {x : Option TypeInfo} {z : Option Value} {n b : Nat} (h : x.map (fun i => (i.zero, i.size, i.bytes)) = some (z, n, b)) : ∃ i, x = some i ∧ i.zero = z ∧ i.size = n ∧ i.bytes = b := by
  cases x with
  | none => simp at h
  | some i => simp at h; exact ⟨i, rfl, h.1, h.2.1, h.2.2⟩
theorem strInfo : Info Tryd.prog 69 9 1 16 :=
  ⟨Tryd.underlying69, by obtain ⟨i0, hi, hz0, hz1, hz2⟩ := info_parts strInfo0; exact ⟨i0, _, hi, hz0, hz1, hz2, rfl⟩, by decide⟩
theorem index_ptr5 (B i : Nat) (hi : i < 5) (w : World) : (Instr.index 64 (.agg (wp5 B)) (.int .i64 (i : Int))).run Tryd.prog w = .ok (.pointer (some ⟨B, i, none⟩)) w := by
  have : i = 0 ∨ i = 1 ∨ i = 2 ∨ i = 3 ∨ i = 4 := by omega
  rcases this with rfl | rfl | rfl | rfl | rfl <;> (unfold Instr.index wp5; go_simp; try rfl)
def nameL : List (List UInt8) := [[119, 111, 114, 100, 115], [111, 98, 106, 101, 99, 116, 115], [102, 105, 101, 108, 100, 115], [109, 97, 114, 107, 101, 100], [115, 116, 101, 112, 115]]
def pieceL (a b c d e : Int) : List (List UInt8) := List.zipWith (fun n x => n ++ [32] ++ Lib.itoa x) nameL [a, b, c, d, e]

theorem map_back (ps : List (List UInt8)) : (ps.map ((fun x : ByteArray => x.data.toList) ∘ fun l => ⟨l.toArray⟩)) = ps := by
  conv => rhs; rw [← List.map_id ps]
  exact List.map_congr_left fun x _ => rfl
theorem itoa_u (n : Int) (l : List UInt8) (hn : I64 n) (hl : Lib.itoa n = l) (w : World) (ht : TabP w) :
    Calls Tryd.prog 35 #[.int .i64 n] w fun e w' => e = .returned (.string ⟨l.toArray⟩) ∧ Ext w w' := by
  subst hl
  refine (Tryd.strconv_Itoa n hn.1 hn.2 w ht).mono ?_
  rintro e w' ⟨rfl, k, os, rfl⟩
  exact ⟨rfl, below_grown k os⟩
set_option maxRecDepth 100000 in
set_option maxHeartbeats 4000000 in
theorem wtext_any (a b c d e : Int) (ha : I64 a ∧ I64 b ∧ I64 c ∧ I64 d ∧ I64 e) (res : List UInt8) (hres : Lib.join (pieceL a b c d e) [44, 32] = res) (hlen : res.length ≤ 1000) (w : World) (ht : TabP w) :
    Calls Tryd.prog 39 #[.agg #[.int .i64 a, .int .i64 b, .int .i64 c, .int .i64 d, .int .i64 e]] w fun r w' => r = .returned (.string ⟨res.toArray⟩) ∧ Ext w w' := by
  have HI := Lib.hid ha
  have HRES := Lib.hid hres
  have HT := Lib.hid ht
  clear ha hres ht
  obtain ⟨g0, g1, gs⟩ := heap_alloc2 w (.cells (wc a b c d e) 51) (.cells #[.string { data := #[119, 111, 114, 100, 115] }, .string { data := #[111, 98, 106, 101, 99, 116, 115] }, .string { data := #[102, 105, 101, 108, 100, 115] }, .string { data := #[109, 97, 114, 107, 101, 100] }, .string { data := #[115, 116, 101, 112, 115] }] 68)
  have hW : Ext w ((w.alloc (.cells (wc a b c d e) 51)).alloc (.cells #[.string { data := #[119, 111, 114, 100, 115] }, .string { data := #[111, 98, 106, 101, 99, 116, 115] }, .string { data := #[102, 105, 101, 108, 100, 115] }, .string { data := #[109, 97, 114, 107, 101, 100] }, .string { data := #[115, 116, 101, 112, 115] }] 68)) := ((Ext.refl w).alloc _).alloc _
  have HG0 := Lib.hid g0
  have HG1 := Lib.hid g1
  have HGS := Lib.hid gs
  clear g0 g1 gs
  go_enter Tryd.func39, Tryd.ntmps39
  go_wp2_with fail
  generalize (w.alloc (.cells (wc a b c d e) 51)).alloc (.cells #[.string { data := #[119, 111, 114, 100, 115] }, .string { data := #[111, 98, 106, 101, 99, 116, 115] }, .string { data := #[102, 105, 101, 108, 100, 115] }, .string { data := #[109, 97, 114, 107, 101, 100] }, .string { data := #[115, 116, 101, 112, 115] }] 68) = W at *
  refine (numbers_any w.heap.size W (by rw [HGS.out]; omega)).mono ?_
  rintro e1 W3 ⟨rfl, hx3⟩
  have K0 := Lib.hid ((hx3.block (k := w.heap.size) (by have := HGS.out; omega)).trans HG0.out)
  have K1 := Lib.hid ((hx3.block (k := w.heap.size + 1) (by have := HGS.out; omega)).trans HG1.out)
  have HX := Lib.hid (hW.trans hx3)
  obtain ⟨ps, hps⟩ : ∃ ps, pieceL a b c d e = ps := ⟨_, rfl⟩
  have HPS := Lib.hid hps
  have HPL := Lib.hid (show ps.length = 5 by rw [← hps]; rfl)
  have HTW := Lib.hid (HT.out.ext HX.out)
  clear hps hW hx3 HG0 HG1
  go_wp2_with fail
  generalize hH : w.heap.size = H at *
  have HHH := Lib.hid hH
  clear hH
  go_loopw [4, 5, 6, 9] (fun v _ _ i wr => ∃ k : Nat, k ≤ 5 ∧ i = .int .i64 k ∧ Ext W3 wr ∧ Hid (∃ A cap, v = .slice A k cap ∧ Own 9 1 strC wr W3.heap.size v (ps.take k))) (fun _ _ _ i _ => 5 - (intOf i).toNat)
  case atStart => exact ⟨0, by omega, rfl, Ext.refl _, Lib.hid ⟨none, 0, rfl, Own.nil _ _ _ _ _⟩⟩
  case round =>
    obtain ⟨k, hk, rfl, hxr, hv⟩ := hrel
    obtain ⟨A, cap, rfl, ho⟩ := hv.out
    have HO := Lib.hid ho
    clear ho hv
    have hs0 : Ext wr wr := Ext.refl wr
    have hk6 : k = 0 ∨ k = 1 ∨ k = 2 ∨ k = 3 ∨ k = 4 ∨ k = 5 := by omega
    rcases hk6 with rfl | rfl | rfl | rfl | rfl | rfl
    · have hix : ∀ w' : World, (Instr.index 64 (.agg (wp5 H)) (.int .i64 0)).run Tryd.prog w' = .ok (.pointer (some ⟨H, 0, none⟩)) w' := index_ptr5 H 0 (by omega)
      have l0 : ∀ u : ExtOf wr, u.1.cell? ⟨H + 1, 0, none⟩ = some (.string { data := #[119, 111, 114, 100, 115] }) := fun u => u.2.cell (hxr.cell (cell_of (i := 0) K1.out rfl))
      have l1 : ∀ u : ExtOf wr, u.1.cell? ⟨H, 0, none⟩ = some (.int .i64 a) := fun u => u.2.cell (hxr.cell (cell_of (i := 0) K0.out rfl))
      have HTU : Hid (∀ u : ExtOf wr, TabP u.1) := Lib.hid fun u => (HTW.out.ext hxr).ext u.2
      have hli := Lib.itoa_length_le a (HI.out.1).1 (HI.out.1).2
      have HPK : Hid (ps.take 1 = ps.take 0 ++ [[119, 111, 114, 100, 115] ++ [32] ++ Lib.itoa a]) := Lib.hid (by rw [← HPS.out]; rfl)
      obtain ⟨li, hlii⟩ : ∃ li, Lib.itoa a = li := ⟨_, rfl⟩
      rw [hlii] at hli HPK
      have HLI := Lib.hid hlii
      clear hlii
      have HKL : Hid ((ps.take 0).length = 0) := Lib.hid (by rw [List.length_take, HPL.out]; rfl)
      go_wp2_with fail
      (refine wp_region_ord (W := wr) [(0, true), (1, true), (2, true), (3, true), (4, true), (5, true), (6, false), (7, true), (8, false), (9, true)] [10] [11, 12] (by kernel_rfl) (by kernel_rfl) (by intro c a d v w h; cases d <;> exact h) (by with_reducible assumption) ?_; simp only [opsOf, List.map_cons, List.map_nil, List.getD_cons_zero, List.getD_cons_succ]; (repeat (go_big_quiet_step (first | (go_at_call 35; with_reducible exact Calls.ext_of (itoa_u a li (HI.out.1) HLI.out _ (HTU.out _)))))); refine wpQuiet_nil ?_; intro w1 hx; (repeat (refine mid_step (by rfl) ?_; intro K hK; go_simp; refine hK _ _ (by repeat (first | (with_reducible exact Ext.refl _) | (with_reducible assumption) | (with_reducible refine Ext.drew ?_) | (with_reducible refine Ext.alloc ?_ _))) ?_; clear hK K)); refine mid_nil ?_)
      have hle : W3.heap.size ≤ w1.heap.size := (hxr.trans hx).size
      go_wp2_with (at_builtin; refine wpList_app_lit rfl (.tmp 13) (.tmp 23) 69 rfl strInfo strCells rfl (by exact HO.out.ext hx) [[119, 111, 114, 100, 115] ++ [32] ++ li] 1 _ (by simp [strC, cat_list]) 1 1 (by rw [HKL.out]; rfl) rfl _ rfl (by first | rfl | simp) (by omega) (by simp [maxLen]) hle ?_; intro A1 cap1 w2 hown1 hgr1 hat1; have HO1 := Lib.hid hown1; have HX1 : Hid (Ext W3 w2) := Lib.hid (HO.out.below (Ext.alloc (hxr.trans hx) _) (by exact hgr1) (by simp; omega)); clear hown1 hgr1 hat1)
      go_roundw
      case rel => exact ⟨1, by omega, by first | rfl | go_num, HX1.out, Lib.hid ⟨A1, cap1, rfl, by rw [HPK.out]; exact HO1.out⟩⟩
      case measure => simp [intOf]
    · have hix : ∀ w' : World, (Instr.index 64 (.agg (wp5 H)) (.int .i64 1)).run Tryd.prog w' = .ok (.pointer (some ⟨H, 1, none⟩)) w' := index_ptr5 H 1 (by omega)
      have l0 : ∀ u : ExtOf wr, u.1.cell? ⟨H + 1, 1, none⟩ = some (.string { data := #[111, 98, 106, 101, 99, 116, 115] }) := fun u => u.2.cell (hxr.cell (cell_of (i := 1) K1.out rfl))
      have l1 : ∀ u : ExtOf wr, u.1.cell? ⟨H, 1, none⟩ = some (.int .i64 b) := fun u => u.2.cell (hxr.cell (cell_of (i := 1) K0.out rfl))
      have HTU : Hid (∀ u : ExtOf wr, TabP u.1) := Lib.hid fun u => (HTW.out.ext hxr).ext u.2
      have hli := Lib.itoa_length_le b (HI.out.2.1).1 (HI.out.2.1).2
      have HPK : Hid (ps.take 2 = ps.take 1 ++ [[111, 98, 106, 101, 99, 116, 115] ++ [32] ++ Lib.itoa b]) := Lib.hid (by rw [← HPS.out]; rfl)
      obtain ⟨li, hlii⟩ : ∃ li, Lib.itoa b = li := ⟨_, rfl⟩
      rw [hlii] at hli HPK
      have HLI := Lib.hid hlii
      clear hlii
      have HKL : Hid ((ps.take 1).length = 1) := Lib.hid (by rw [List.length_take, HPL.out]; rfl)
      go_wp2_with fail
      (refine wp_region_ord (W := wr) [(0, true), (1, true), (2, true), (3, true), (4, true), (5, true), (6, false), (7, true), (8, false), (9, true)] [10] [11, 12] (by kernel_rfl) (by kernel_rfl) (by intro c a d v w h; cases d <;> exact h) (by with_reducible assumption) ?_; simp only [opsOf, List.map_cons, List.map_nil, List.getD_cons_zero, List.getD_cons_succ]; (repeat (go_big_quiet_step (first | (go_at_call 35; with_reducible exact Calls.ext_of (itoa_u b li (HI.out.2.1) HLI.out _ (HTU.out _)))))); refine wpQuiet_nil ?_; intro w1 hx; (repeat (refine mid_step (by rfl) ?_; intro K hK; go_simp; refine hK _ _ (by repeat (first | (with_reducible exact Ext.refl _) | (with_reducible assumption) | (with_reducible refine Ext.drew ?_) | (with_reducible refine Ext.alloc ?_ _))) ?_; clear hK K)); refine mid_nil ?_)
      have hle : W3.heap.size ≤ w1.heap.size := (hxr.trans hx).size
      go_wp2_with (at_builtin; refine wpList_app_lit rfl (.tmp 13) (.tmp 23) 69 rfl strInfo strCells rfl (by exact HO.out.ext hx) [[111, 98, 106, 101, 99, 116, 115] ++ [32] ++ li] 1 _ (by simp [strC, cat_list]) 2 1 (by rw [HKL.out]; rfl) rfl _ rfl (by first | rfl | simp) (by omega) (by simp [maxLen]) hle ?_; intro A1 cap1 w2 hown1 hgr1 hat1; have HO1 := Lib.hid hown1; have HX1 : Hid (Ext W3 w2) := Lib.hid (HO.out.below (Ext.alloc (hxr.trans hx) _) (by exact hgr1) (by simp; omega)); clear hown1 hgr1 hat1)
      go_roundw
      case rel => exact ⟨2, by omega, by first | rfl | go_num, HX1.out, Lib.hid ⟨A1, cap1, rfl, by rw [HPK.out]; exact HO1.out⟩⟩
      case measure => simp [intOf]
    · have hix : ∀ w' : World, (Instr.index 64 (.agg (wp5 H)) (.int .i64 2)).run Tryd.prog w' = .ok (.pointer (some ⟨H, 2, none⟩)) w' := index_ptr5 H 2 (by omega)
      have l0 : ∀ u : ExtOf wr, u.1.cell? ⟨H + 1, 2, none⟩ = some (.string { data := #[102, 105, 101, 108, 100, 115] }) := fun u => u.2.cell (hxr.cell (cell_of (i := 2) K1.out rfl))
      have l1 : ∀ u : ExtOf wr, u.1.cell? ⟨H, 2, none⟩ = some (.int .i64 c) := fun u => u.2.cell (hxr.cell (cell_of (i := 2) K0.out rfl))
      have HTU : Hid (∀ u : ExtOf wr, TabP u.1) := Lib.hid fun u => (HTW.out.ext hxr).ext u.2
      have hli := Lib.itoa_length_le c (HI.out.2.2.1).1 (HI.out.2.2.1).2
      have HPK : Hid (ps.take 3 = ps.take 2 ++ [[102, 105, 101, 108, 100, 115] ++ [32] ++ Lib.itoa c]) := Lib.hid (by rw [← HPS.out]; rfl)
      obtain ⟨li, hlii⟩ : ∃ li, Lib.itoa c = li := ⟨_, rfl⟩
      rw [hlii] at hli HPK
      have HLI := Lib.hid hlii
      clear hlii
      have HKL : Hid ((ps.take 2).length = 2) := Lib.hid (by rw [List.length_take, HPL.out]; rfl)
      go_wp2_with fail
      (refine wp_region_ord (W := wr) [(0, true), (1, true), (2, true), (3, true), (4, true), (5, true), (6, false), (7, true), (8, false), (9, true)] [10] [11, 12] (by kernel_rfl) (by kernel_rfl) (by intro c a d v w h; cases d <;> exact h) (by with_reducible assumption) ?_; simp only [opsOf, List.map_cons, List.map_nil, List.getD_cons_zero, List.getD_cons_succ]; (repeat (go_big_quiet_step (first | (go_at_call 35; with_reducible exact Calls.ext_of (itoa_u c li (HI.out.2.2.1) HLI.out _ (HTU.out _)))))); refine wpQuiet_nil ?_; intro w1 hx; (repeat (refine mid_step (by rfl) ?_; intro K hK; go_simp; refine hK _ _ (by repeat (first | (with_reducible exact Ext.refl _) | (with_reducible assumption) | (with_reducible refine Ext.drew ?_) | (with_reducible refine Ext.alloc ?_ _))) ?_; clear hK K)); refine mid_nil ?_)
      have hle : W3.heap.size ≤ w1.heap.size := (hxr.trans hx).size
      go_wp2_with (at_builtin; refine wpList_app_lit rfl (.tmp 13) (.tmp 23) 69 rfl strInfo strCells rfl (by exact HO.out.ext hx) [[102, 105, 101, 108, 100, 115] ++ [32] ++ li] 1 _ (by simp [strC, cat_list]) 3 1 (by rw [HKL.out]; rfl) rfl _ rfl (by first | rfl | simp) (by omega) (by simp [maxLen]) hle ?_; intro A1 cap1 w2 hown1 hgr1 hat1; have HO1 := Lib.hid hown1; have HX1 : Hid (Ext W3 w2) := Lib.hid (HO.out.below (Ext.alloc (hxr.trans hx) _) (by exact hgr1) (by simp; omega)); clear hown1 hgr1 hat1)
      go_roundw
      case rel => exact ⟨3, by omega, by first | rfl | go_num, HX1.out, Lib.hid ⟨A1, cap1, rfl, by rw [HPK.out]; exact HO1.out⟩⟩
      case measure => simp [intOf]
    · have hix : ∀ w' : World, (Instr.index 64 (.agg (wp5 H)) (.int .i64 3)).run Tryd.prog w' = .ok (.pointer (some ⟨H, 3, none⟩)) w' := index_ptr5 H 3 (by omega)
      have l0 : ∀ u : ExtOf wr, u.1.cell? ⟨H + 1, 3, none⟩ = some (.string { data := #[109, 97, 114, 107, 101, 100] }) := fun u => u.2.cell (hxr.cell (cell_of (i := 3) K1.out rfl))
      have l1 : ∀ u : ExtOf wr, u.1.cell? ⟨H, 3, none⟩ = some (.int .i64 d) := fun u => u.2.cell (hxr.cell (cell_of (i := 3) K0.out rfl))
      have HTU : Hid (∀ u : ExtOf wr, TabP u.1) := Lib.hid fun u => (HTW.out.ext hxr).ext u.2
      have hli := Lib.itoa_length_le d (HI.out.2.2.2.1).1 (HI.out.2.2.2.1).2
      have HPK : Hid (ps.take 4 = ps.take 3 ++ [[109, 97, 114, 107, 101, 100] ++ [32] ++ Lib.itoa d]) := Lib.hid (by rw [← HPS.out]; rfl)
      obtain ⟨li, hlii⟩ : ∃ li, Lib.itoa d = li := ⟨_, rfl⟩
      rw [hlii] at hli HPK
      have HLI := Lib.hid hlii
      clear hlii
      have HKL : Hid ((ps.take 3).length = 3) := Lib.hid (by rw [List.length_take, HPL.out]; rfl)
      go_wp2_with fail
      (refine wp_region_ord (W := wr) [(0, true), (1, true), (2, true), (3, true), (4, true), (5, true), (6, false), (7, true), (8, false), (9, true)] [10] [11, 12] (by kernel_rfl) (by kernel_rfl) (by intro c a d v w h; cases d <;> exact h) (by with_reducible assumption) ?_; simp only [opsOf, List.map_cons, List.map_nil, List.getD_cons_zero, List.getD_cons_succ]; (repeat (go_big_quiet_step (first | (go_at_call 35; with_reducible exact Calls.ext_of (itoa_u d li (HI.out.2.2.2.1) HLI.out _ (HTU.out _)))))); refine wpQuiet_nil ?_; intro w1 hx; (repeat (refine mid_step (by rfl) ?_; intro K hK; go_simp; refine hK _ _ (by repeat (first | (with_reducible exact Ext.refl _) | (with_reducible assumption) | (with_reducible refine Ext.drew ?_) | (with_reducible refine Ext.alloc ?_ _))) ?_; clear hK K)); refine mid_nil ?_)
      have hle : W3.heap.size ≤ w1.heap.size := (hxr.trans hx).size
      go_wp2_with (at_builtin; refine wpList_app_lit rfl (.tmp 13) (.tmp 23) 69 rfl strInfo strCells rfl (by exact HO.out.ext hx) [[109, 97, 114, 107, 101, 100] ++ [32] ++ li] 1 _ (by simp [strC, cat_list]) 4 1 (by rw [HKL.out]; rfl) rfl _ rfl (by first | rfl | simp) (by omega) (by simp [maxLen]) hle ?_; intro A1 cap1 w2 hown1 hgr1 hat1; have HO1 := Lib.hid hown1; have HX1 : Hid (Ext W3 w2) := Lib.hid (HO.out.below (Ext.alloc (hxr.trans hx) _) (by exact hgr1) (by simp; omega)); clear hown1 hgr1 hat1)
      go_roundw
      case rel => exact ⟨4, by omega, by first | rfl | go_num, HX1.out, Lib.hid ⟨A1, cap1, rfl, by rw [HPK.out]; exact HO1.out⟩⟩
      case measure => simp [intOf]
    · have hix : ∀ w' : World, (Instr.index 64 (.agg (wp5 H)) (.int .i64 4)).run Tryd.prog w' = .ok (.pointer (some ⟨H, 4, none⟩)) w' := index_ptr5 H 4 (by omega)
      have l0 : ∀ u : ExtOf wr, u.1.cell? ⟨H + 1, 4, none⟩ = some (.string { data := #[115, 116, 101, 112, 115] }) := fun u => u.2.cell (hxr.cell (cell_of (i := 4) K1.out rfl))
      have l1 : ∀ u : ExtOf wr, u.1.cell? ⟨H, 4, none⟩ = some (.int .i64 e) := fun u => u.2.cell (hxr.cell (cell_of (i := 4) K0.out rfl))
      have HTU : Hid (∀ u : ExtOf wr, TabP u.1) := Lib.hid fun u => (HTW.out.ext hxr).ext u.2
      have hli := Lib.itoa_length_le e (HI.out.2.2.2.2).1 (HI.out.2.2.2.2).2
      have HPK : Hid (ps.take 5 = ps.take 4 ++ [[115, 116, 101, 112, 115] ++ [32] ++ Lib.itoa e]) := Lib.hid (by rw [← HPS.out]; rfl)
      obtain ⟨li, hlii⟩ : ∃ li, Lib.itoa e = li := ⟨_, rfl⟩
      rw [hlii] at hli HPK
      have HLI := Lib.hid hlii
      clear hlii
      have HKL : Hid ((ps.take 4).length = 4) := Lib.hid (by rw [List.length_take, HPL.out]; rfl)
      go_wp2_with fail
      (refine wp_region_ord (W := wr) [(0, true), (1, true), (2, true), (3, true), (4, true), (5, true), (6, false), (7, true), (8, false), (9, true)] [10] [11, 12] (by kernel_rfl) (by kernel_rfl) (by intro c a d v w h; cases d <;> exact h) (by with_reducible assumption) ?_; simp only [opsOf, List.map_cons, List.map_nil, List.getD_cons_zero, List.getD_cons_succ]; (repeat (go_big_quiet_step (first | (go_at_call 35; with_reducible exact Calls.ext_of (itoa_u e li (HI.out.2.2.2.2) HLI.out _ (HTU.out _)))))); refine wpQuiet_nil ?_; intro w1 hx; (repeat (refine mid_step (by rfl) ?_; intro K hK; go_simp; refine hK _ _ (by repeat (first | (with_reducible exact Ext.refl _) | (with_reducible assumption) | (with_reducible refine Ext.drew ?_) | (with_reducible refine Ext.alloc ?_ _))) ?_; clear hK K)); refine mid_nil ?_)
      have hle : W3.heap.size ≤ w1.heap.size := (hxr.trans hx).size
      go_wp2_with (at_builtin; refine wpList_app_lit rfl (.tmp 13) (.tmp 23) 69 rfl strInfo strCells rfl (by exact HO.out.ext hx) [[115, 116, 101, 112, 115] ++ [32] ++ li] 1 _ (by simp [strC, cat_list]) 5 1 (by rw [HKL.out]; rfl) rfl _ rfl (by first | rfl | simp) (by omega) (by simp [maxLen]) hle ?_; intro A1 cap1 w2 hown1 hgr1 hat1; have HO1 := Lib.hid hown1; have HX1 : Hid (Ext W3 w2) := Lib.hid (HO.out.below (Ext.alloc (hxr.trans hx) _) (by exact hgr1) (by simp; omega)); clear hown1 hgr1 hat1)
      go_roundw
      case rel => exact ⟨5, by omega, by first | rfl | go_num, HX1.out, Lib.hid ⟨A1, cap1, rfl, by rw [HPK.out]; exact HO1.out⟩⟩
      case measure => simp [intOf]
    · have HP5 : Hid (ps.take 5 = ps) := Lib.hid (List.take_of_length_le (by rw [HPL.out]; omega))
      obtain ⟨A2, cap2, he2, hrow2, -, hbl2, hcp2, -⟩ := HO.out.form strCells (by decide)
      have h5 : (ps.take 5).length = 5 := by rw [HP5.out, HPL.out]
      rw [h5] at he2 hcp2
      injection he2 with e1 e2 e3
      subst e1 e3
      obtain ⟨bk, o, rfl, hc⟩ := hrow2.get (by omega)
      have HLT := Lib.hid (hbl2 _ rfl)
      have HC := Lib.hid hc
      have HCAP := Lib.hid hcp2
      clear hrow2 hbl2 hc hcp2 h5 e2
      go_wp2_with fail
      have hj := Tryd.strings_Join bk o cap (ps.map fun l => ⟨l.toArray⟩) ⟨([44, 32] : List UInt8).toArray⟩ wr (by
        intro j x hx
        simp only [List.getElem?_map, Option.map_eq_some_iff] at hx
        obtain ⟨l, hl, rfl⟩ := hx
        have := HC.out j l (by rw [HP5.out]; exact hl) 0 _ rfl
        simpa using this) HLT.out.2.1 (by simp [HPL.out]) (by simp [HPL.out]; exact HCAP.out) (by
        rw [List.map_map, show (ps.map ((fun x : ByteArray => x.data.toList) ∘ fun l => ⟨l.toArray⟩)) = ps from map_back ps, ← HPS.out, HRES.out]; omega)
      rw [List.length_map, HPL.out, List.map_map, show (ps.map ((fun x : ByteArray => x.data.toList) ∘ fun l => ⟨l.toArray⟩)) = ps from map_back ps, ← HPS.out, show (ByteArray.mk ([44, 32] : List UInt8).toArray).data.toList = [44, 32] from rfl, HRES.out] at hj
      refine hj.mono ?_
      rintro e1 w5 ⟨rfl, hx5⟩
      clear hj
      go_wp2_with fail
      go_ret
      exact ⟨rfl, HX.out.trans (hxr.trans hx5)⟩
end Go.Proofs.YtidfibheehcdgaaDoor
