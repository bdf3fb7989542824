/- Merged by program (merge.py) out of: StV. -/
import Derived.Test.YtkcpfimhbogdcaaMs19
/- New heaps: the reference. -/
set_option linter.unusedSimpArgs false
set_option linter.unusedVariables false
namespace Go.Proofs.Ytkcpfimhbogdcaa
open Go.RowKit Go.Shelf
set_option maxRecDepth 100000
set_option maxHeartbeats 8000000
theorem refcheck_is {s l t m : Int} {b : Bool} (h : cfgB s l t m = b) (w : World) : Calls Try.prog 80 #[.agg #[.int .i64 (s), .int .i64 (l), .int .i64 (t), .int .i64 (m)]] w fun e w' => e = .returned (.bool b) ∧ Ext w w' := by
  rw [← h]; exact refcheck_any s l t m w
theorem refwords_is {s l t m n : Int} (h : wordsZ s l t m = n) (w : World) : Calls Try.prog 81 #[.agg #[.int .i64 (s), .int .i64 (l), .int .i64 (t), .int .i64 (m)]] w fun e w' => e = .returned (.int .i64 n) ∧ Ext w w' := by
  rw [← h]; exact refwords_any s l t m w
theorem reflarge_is {s l t m x y : Int} (h1 : largeA s l t m = x) (h2 : largeS s l t m = y) (w : World) : Calls Try.prog 82 #[.agg #[.int .i64 (s), .int .i64 (l), .int .i64 (t), .int .i64 (m)]] w fun e w' => e = .returned (.agg #[.int .i64 (x), .int .i64 (y)]) ∧ Ext w w' := by
  rw [← h1, ← h2]; exact reflarge_any s l t m w
theorem refnew_no (c0 c1 c2 c3 : Int) (hb : cfgB c0 c1 c2 c3 = false) (V : World) : Calls Try.prog 27 #[.agg #[.int .i64 (c0), .int .i64 (c1), .int .i64 (c2), .int .i64 (c3)]] V (RetNew V (newS c0 c1 c2 c3) (newE c0 c1 c2 c3)) := by
  have hS := pers_new2 V #[.int .i64 c0, .int .i64 c1, .int .i64 c2, .int .i64 c3] 53 _ rfl (.cells #[.int .i64 0, .int .i64 0, .int .i64 0, .int .i64 0, .bool false, .slice none 0 0, .int .i64 0, .slice none 0 0, .slice none 0 0, .slice none 0 0] 56)
  have hR := pers_new (V.alloc (.cells #[.int .i64 c0, .int .i64 c1, .int .i64 c2, .int .i64 c3] 53)) #[.int .i64 0, .int .i64 0, .int .i64 0, .int .i64 0, .bool false, .slice none 0 0, .int .i64 0, .slice none 0 0, .slice none 0 0, .slice none 0 0] 56 (V.heap.size + 1) (by simp)
  have HX := Lib.hid (((Ext.refl V).alloc (.cells #[.int .i64 c0, .int .i64 c1, .int .i64 c2, .int .i64 c3] 53)).alloc (.cells #[.int .i64 0, .int .i64 0, .int .i64 0, .int .i64 0, .bool false, .slice none 0 0, .int .i64 0, .slice none 0 0, .slice none 0 0, .slice none 0 0] 56))
  have HVR : Hid (V.heap.size ≤ V.heap.size + 1) := Lib.hid (by omega)
  have HB := Lib.hid hb
  have HN : Hid (newS c0 c1 c2 c3 = ⟨0, 0, 0, 0, false, none, [], 0, 0, none, [], 0, none, [], 0, none, [], 0⟩ ∧ newE c0 c1 c2 c3 = 1) := Lib.hid (by simp [newS, newE, hb])
  clear hb
  go_enter Try.func27, Try.ntmps27
  go_wp2_with fail
  generalize (V.alloc (.cells #[.int .i64 c0, .int .i64 c1, .int .i64 c2, .int .i64 c3] 53)).alloc (.cells #[.int .i64 0, .int .i64 0, .int .i64 0, .int .i64 0, .bool false, .slice none 0 0, .int .i64 0, .slice none 0 0, .slice none 0 0, .slice none 0 0] 56) = W at *
  generalize V.heap.size + 1 = R at *
  have gS := hS.cells
  have gR := hR.cells
  have fR := hR.frees
  have lR := hR.lt
  ((first | refine at_baseC (W := W) ?_ | refine at_base (W := W) ?_); intro uq; (try go_wp2_with fail))
  (refine (refcheck_is HB.out _).mono ?_; rintro e wq ⟨rfl, hx⟩; replace hx := Ext.trans (a := W) (by repeat (first | (with_reducible exact Ext.refl _) | (with_reducible exact ExtOf.ext _) | (with_reducible assumption) | (with_reducible refine Ext.drew ?_) | (with_reducible refine Ext.alloc ?_ _))) hx; obtain ⟨uq, rfl⟩ : ∃ u : ExtOf W, wq = u.1 := ⟨⟨wq, hx⟩, rfl⟩; clear hx; go_wp2_with fail)
  ((try simp only [Exit.inBlock, Exit.then]); refine bodyPost_ret (v := .tuple #[.agg #[.int .i64 0, .int .i64 0, .int .i64 0, .int .i64 0, .bool false, .slice none 0 0, .int .i64 0, .slice none 0 0, .slice none 0 0, .slice none 0 0], .int .i64 1]) (by simp only [results, Try.results27]; go_simp) rfl ?_)
  refine ⟨⟨0, 0, 0, 0, false, none, [], 0, 0, none, [], 0, none, [], 0, none, [], 0⟩, by rw [HN.out.2]; rfl, ⟨Own.nil _ _ _ _ _, Own.nil _ _ _ _ _, Own.nil _ _ _ _ _, Own.nil _ _ _ _ _⟩, by rw [HN.out.1]; rfl, ext10x (HX.out.trans uq.2) HVR.out _ _ _ _ _ _ _ _ _ _⟩
theorem refnew_yes (c0 c1 c2 c3 : Int) (hb : cfgB c0 c1 c2 c3 = true) (V : World) : Calls Try.prog 27 #[.agg #[.int .i64 (c0), .int .i64 (c1), .int .i64 (c2), .int .i64 (c3)]] V (RetNew V (newS c0 c1 c2 c3) (newE c0 c1 c2 c3)) := by
  obtain ⟨h1, h2, h3, h4, h5, h6, h7, h8⟩ := cfg_bd hb
  obtain ⟨m, rfl⟩ := Int.eq_ofNat_of_zero_le (show 0 ≤ c2 by omega)
  obtain ⟨n, hn⟩ : ∃ n : Nat, wordsZ c0 c1 m c3 = n := ⟨(2 * c0 + c1).toNat, by simp only [wordsZ, hb, if_true]; omega⟩
  have HNB : Hid (n ≤ 98304) := Lib.hid (by simp only [wordsZ, hb, if_true] at hn; omega)
  have HNW : Hid (newS c0 c1 m c3 = ⟨c0, c1, m, c3, false, none, List.replicate n 0, 0, 0, none, [], 0, none, newFr c0 c1 m c3, 0, none, List.replicate m (false, 0, 0), 0⟩ ∧ newE c0 c1 m c3 = 0) := Lib.hid (by simp [newS, newE, hb, hn])
  have HFR : Hid (newFr c0 c1 m c3 = if largeS c0 c1 m c3 = 0 then [] else [(largeA c0 c1 m c3, largeS c0 c1 m c3)]) := Lib.hid rfl
  have hmay := may_large hb
  obtain ⟨la, hla⟩ : ∃ x, largeA c0 c1 m c3 = x := ⟨_, rfl⟩
  obtain ⟨ls, hls⟩ : ∃ x, largeS c0 c1 m c3 = x := ⟨_, rfl⟩
  rw [hla, hls] at HFR hmay
  have HM1 : Hid (1 ≤ m ∧ m ≤ 1024) := Lib.hid (by omega)
  have HN := Lib.hid hn
  have HB := Lib.hid hb
  have HLA := Lib.hid hla
  have HLS := Lib.hid hls
  obtain ⟨mb, hmb⟩ : ∃ b, decide (ls ≠ 0) = b := ⟨_, rfl⟩
  have HD : Hid (decide ((0 : Int) < c1) = mb) := Lib.hid (by rw [← hmb, ← hls]; simp only [largeS, hb, if_true]; rw [decide_eq_decide]; omega)
  rw [hmb] at hmay
  have HMB := Lib.hid hmb
  have HMAY := Lib.hid hmay
  clear h1 h2 h3 h4 h5 h6 h7 h8 hn hb hla hls hmb hmay
  have hS := pers_new2 V #[.int .i64 c0, .int .i64 c1, .int .i64 m, .int .i64 c3] 53 _ rfl (.cells #[.int .i64 0, .int .i64 0, .int .i64 0, .int .i64 0, .bool false, .slice none 0 0, .int .i64 0, .slice none 0 0, .slice none 0 0, .slice none 0 0] 56)
  have hR := pers_new (V.alloc (.cells #[.int .i64 c0, .int .i64 c1, .int .i64 m, .int .i64 c3] 53)) #[.int .i64 0, .int .i64 0, .int .i64 0, .int .i64 0, .bool false, .slice none 0 0, .int .i64 0, .slice none 0 0, .slice none 0 0, .slice none 0 0] 56 (V.heap.size + 1) (by simp)
  have HXV := Lib.hid (((Ext.refl V).alloc (.cells #[.int .i64 c0, .int .i64 c1, .int .i64 m, .int .i64 c3] 53)).alloc (.cells #[.int .i64 0, .int .i64 0, .int .i64 0, .int .i64 0, .bool false, .slice none 0 0, .int .i64 0, .slice none 0 0, .slice none 0 0, .slice none 0 0] 56))
  have HVR : Hid (V.heap.size ≤ V.heap.size + 1) := Lib.hid (by omega)
  go_enter Try.func27, Try.ntmps27
  go_wp2_with fail
  generalize (V.alloc (.cells #[.int .i64 c0, .int .i64 c1, .int .i64 m, .int .i64 c3] 53)).alloc (.cells #[.int .i64 0, .int .i64 0, .int .i64 0, .int .i64 0, .bool false, .slice none 0 0, .int .i64 0, .slice none 0 0, .slice none 0 0, .slice none 0 0] 56) = W at *
  generalize V.heap.size + 1 = R at *
  have gS := hS.cells
  ((first | refine at_baseC (W := W) ?_ | refine at_base (W := W) ?_); intro uq; (try go_wp2_with fail))
  (refine (refcheck_is HB.out _).mono ?_; rintro e wq ⟨rfl, hx⟩; replace hx := Ext.trans (a := W) (by repeat (first | (with_reducible exact Ext.refl _) | (with_reducible exact ExtOf.ext _) | (with_reducible assumption) | (with_reducible refine Ext.drew ?_) | (with_reducible refine Ext.alloc ?_ _))) hx; obtain ⟨uq, rfl⟩ : ∃ u : ExtOf W, wq = u.1 := ⟨⟨wq, hx⟩, rfl⟩; clear hx; go_wp2_with fail)
  have hu := uq.2
  refine wp_norm (Behind fun a' w' => ∃ A, Hid (Own 64 1 u64C w' V.heap.size (.slice A n n) (List.replicate n 0)) ∧ ∃ A2, Hid (Own 66 3 slotC w' V.heap.size (.slice A2 m m) (List.replicate m (false, 0, 0))) ∧ ∃ X, Hid (w'.heap[X]? = some (.cells #[.int .i64 c0, .int .i64 c1, .int .i64 m, .int .i64 c3, .bool false, .slice A n n, .int .i64 0, .slice none 0 0, .slice none 0 0, .slice A2 m m] 56 (0, 0))) ∧ Hid (Ext W w') ∧ Hid (W.heap.size ≤ X) ∧ a' = { tmps := #[.agg #[.int .i64 c0, .int .i64 c1, .int .i64 m, .int .i64 c3], .pointer (some ⟨V.heap.size, 0, none⟩), .pointer (some ⟨R, 0, none⟩), .int .i64 0, .pointer (some ⟨X, 0, none⟩), .agg #[.int .i64 c0, .int .i64 c1, .int .i64 m, .int .i64 c3], .bool true, .bool false, undef, .agg #[.int .i64 c0, .int .i64 c1, .int .i64 m, .int .i64 c3], .agg #[.int .i64 c0, .int .i64 c1, .int .i64 m, .int .i64 c3], .int .i64 n, .slice A n n, .pointer (some ⟨V.heap.size, 2, none⟩), .int .i64 m, .slice A2 m m, .agg #[.int .i64 c0, .int .i64 c1, .int .i64 m, .int .i64 c3, .bool false, .slice A n n, .int .i64 0, .slice none 0 0, .slice none 0 0, .slice A2 m m], undef, undef, undef, undef, undef, undef, undef, undef], defers := [] }) ?_ ?_
  · refine wp_region_tree (fun w' => ∃ u : ExtOf W, w' = u.1) [0, 1, 4, 5] 5 [(2, [(3, [(6, [(7, [(8, ())]), (8, [(7, ())])]), (8, [(6, [(7, ())])])]), (6, [(3, [(7, [(8, ())]), (8, [(7, ())])]), (8, [(3, [(7, ())])])]), (8, [(3, [(6, [(7, ())])]), (6, [(3, [(7, ())])])])]), (6, [(2, [(3, [(7, [(8, ())]), (8, [(7, ())])]), (8, [(3, [(7, ())])])]), (8, [(2, [(3, [(7, ())])])])]), (8, [(2, [(3, [(6, [(7, ())])]), (6, [(3, [(7, ())])])]), (6, [(2, [(3, [(7, ())])])])])] [9] (by kernel_rfl) (by kernel_rfl) (by intro c a d v w h; cases h.1) ⟨⟨_, hu.drew⟩, rfl⟩ ?_
    simp only [opsOf, List.map_cons, List.map_nil, List.getD_cons_zero, List.getD_cons_succ]
    (repeat (go_big_quiet_step (fail)))
    refine wpQuiet_nil ?_
    have HX := Lib.hid hu.drew
    have HZ : Hid (V.heap.size ≤ W.heap.size) := Lib.hid HXV.out.size
    clear hu gS
    generalize uq.1.drew = wN at *
    ((first | refine tr_one ?_ | refine tr_two ?_ ?_ | refine tr_three ?_ ?_ ?_) <;> (refine op_step (by rfl) ?_; intro K hK; first | (go_simp; refine (refwords_is HN.out _).mono ?_; rintro e wN ⟨rfl, hy⟩; refine hK _ _ (ext_uS (HX.out.trans hy)) ?_; clear hK K; (try replace HO := Lib.hid (HO.out.ext hy)); (try replace HO2 := Lib.hid (HO2.out.ext hy)); (try replace HBK := Lib.hid ((hy.block (lt_of_heap HBK.out)).trans HBK.out)); replace HX := Lib.hid (HX.out.trans hy); clear hy) | (refine wp_makeU (.tmp 11) rfl n (by rfl) (by have := HNB.out; omega) ?_; intro wN ho hy; refine hK _ _ (ext_uS (HX.out.trans hy)) ?_; clear hK K; have HO := Lib.hid (ho.mono (B' := V.heap.size) (by have := HX.out.size; have := HZ.out; omega)); clear ho; (try replace HO2 := Lib.hid (HO2.out.ext hy)); (try replace HBK := Lib.hid ((hy.block (lt_of_heap HBK.out)).trans HBK.out)); replace HX := Lib.hid (HX.out.trans hy); clear hy) | (refine wp_makeSl (.tmp 14) rfl m (by rfl) (by have := HM1.out; omega) ?_; intro wN ho hy; refine hK _ _ (ext_uS (HX.out.trans hy)) ?_; clear hK K; have HO2 := Lib.hid (ho.mono (B' := V.heap.size) (by have := HX.out.size; have := HZ.out; omega)); clear ho; (try replace HO := Lib.hid (HO.out.ext hy)); (try replace HBK := Lib.hid ((hy.block (lt_of_heap HBK.out)).trans HBK.out)); replace HX := Lib.hid (HX.out.trans hy); clear hy) | (go_simp; refine hK _ _ (ext_uS (HX.out.alloc _)) ?_; clear hK K; have hy := (Ext.refl wN).alloc (.cells #[.int .i64 0, .int .i64 0, .int .i64 0, .int .i64 0, .bool false, .slice none 0 0, .int .i64 0, .slice none 0 0, .slice none 0 0, .slice none 0 0] 56); have HBK := Lib.hid (blk_new wN #[.int .i64 0, .int .i64 0, .int .i64 0, .int .i64 0, .bool false, .slice none 0 0, .int .i64 0, .slice none 0 0, .slice none 0 0, .slice none 0 0] 56 _ rfl); have HWX : Hid (W.heap.size ≤ wN.heap.size) := Lib.hid HX.out.size; (try replace HO := Lib.hid (HO.out.ext hy)); (try replace HO2 := Lib.hid (HO2.out.ext hy)); replace HX := Lib.hid (HX.out.trans hy); clear hy; generalize wN.alloc (.cells #[.int .i64 0, .int .i64 0, .int .i64 0, .int .i64 0, .bool false, .slice none 0 0, .int .i64 0, .slice none 0 0, .slice none 0 0, .slice none 0 0] 56) = wM at *; generalize wN.heap.size = X at *; rename World => wN) | (go_simp; refine hK _ _ (ext_uS HX.out) ?_; clear hK K)))
    all_goals ((first | refine tr_one ?_ | refine tr_two ?_ ?_ | refine tr_three ?_ ?_ ?_) <;> (refine op_step (by rfl) ?_; intro K hK; first | (go_simp; refine (refwords_is HN.out _).mono ?_; rintro e wN ⟨rfl, hy⟩; refine hK _ _ (ext_uS (HX.out.trans hy)) ?_; clear hK K; (try replace HO := Lib.hid (HO.out.ext hy)); (try replace HO2 := Lib.hid (HO2.out.ext hy)); (try replace HBK := Lib.hid ((hy.block (lt_of_heap HBK.out)).trans HBK.out)); replace HX := Lib.hid (HX.out.trans hy); clear hy) | (refine wp_makeU (.tmp 11) rfl n (by rfl) (by have := HNB.out; omega) ?_; intro wN ho hy; refine hK _ _ (ext_uS (HX.out.trans hy)) ?_; clear hK K; have HO := Lib.hid (ho.mono (B' := V.heap.size) (by have := HX.out.size; have := HZ.out; omega)); clear ho; (try replace HO2 := Lib.hid (HO2.out.ext hy)); (try replace HBK := Lib.hid ((hy.block (lt_of_heap HBK.out)).trans HBK.out)); replace HX := Lib.hid (HX.out.trans hy); clear hy) | (refine wp_makeSl (.tmp 14) rfl m (by rfl) (by have := HM1.out; omega) ?_; intro wN ho hy; refine hK _ _ (ext_uS (HX.out.trans hy)) ?_; clear hK K; have HO2 := Lib.hid (ho.mono (B' := V.heap.size) (by have := HX.out.size; have := HZ.out; omega)); clear ho; (try replace HO := Lib.hid (HO.out.ext hy)); (try replace HBK := Lib.hid ((hy.block (lt_of_heap HBK.out)).trans HBK.out)); replace HX := Lib.hid (HX.out.trans hy); clear hy) | (go_simp; refine hK _ _ (ext_uS (HX.out.alloc _)) ?_; clear hK K; have hy := (Ext.refl wN).alloc (.cells #[.int .i64 0, .int .i64 0, .int .i64 0, .int .i64 0, .bool false, .slice none 0 0, .int .i64 0, .slice none 0 0, .slice none 0 0, .slice none 0 0] 56); have HBK := Lib.hid (blk_new wN #[.int .i64 0, .int .i64 0, .int .i64 0, .int .i64 0, .bool false, .slice none 0 0, .int .i64 0, .slice none 0 0, .slice none 0 0, .slice none 0 0] 56 _ rfl); have HWX : Hid (W.heap.size ≤ wN.heap.size) := Lib.hid HX.out.size; (try replace HO := Lib.hid (HO.out.ext hy)); (try replace HO2 := Lib.hid (HO2.out.ext hy)); replace HX := Lib.hid (HX.out.trans hy); clear hy; generalize wN.alloc (.cells #[.int .i64 0, .int .i64 0, .int .i64 0, .int .i64 0, .bool false, .slice none 0 0, .int .i64 0, .slice none 0 0, .slice none 0 0, .slice none 0 0] 56) = wM at *; generalize wN.heap.size = X at *; rename World => wN) | (go_simp; refine hK _ _ (ext_uS HX.out) ?_; clear hK K)))
    all_goals ((first | refine tr_one ?_ | refine tr_two ?_ ?_ | refine tr_three ?_ ?_ ?_) <;> (refine op_step (by rfl) ?_; intro K hK; first | (go_simp; refine (refwords_is HN.out _).mono ?_; rintro e wN ⟨rfl, hy⟩; refine hK _ _ (ext_uS (HX.out.trans hy)) ?_; clear hK K; (try replace HO := Lib.hid (HO.out.ext hy)); (try replace HO2 := Lib.hid (HO2.out.ext hy)); (try replace HBK := Lib.hid ((hy.block (lt_of_heap HBK.out)).trans HBK.out)); replace HX := Lib.hid (HX.out.trans hy); clear hy) | (refine wp_makeU (.tmp 11) rfl n (by rfl) (by have := HNB.out; omega) ?_; intro wN ho hy; refine hK _ _ (ext_uS (HX.out.trans hy)) ?_; clear hK K; have HO := Lib.hid (ho.mono (B' := V.heap.size) (by have := HX.out.size; have := HZ.out; omega)); clear ho; (try replace HO2 := Lib.hid (HO2.out.ext hy)); (try replace HBK := Lib.hid ((hy.block (lt_of_heap HBK.out)).trans HBK.out)); replace HX := Lib.hid (HX.out.trans hy); clear hy) | (refine wp_makeSl (.tmp 14) rfl m (by rfl) (by have := HM1.out; omega) ?_; intro wN ho hy; refine hK _ _ (ext_uS (HX.out.trans hy)) ?_; clear hK K; have HO2 := Lib.hid (ho.mono (B' := V.heap.size) (by have := HX.out.size; have := HZ.out; omega)); clear ho; (try replace HO := Lib.hid (HO.out.ext hy)); (try replace HBK := Lib.hid ((hy.block (lt_of_heap HBK.out)).trans HBK.out)); replace HX := Lib.hid (HX.out.trans hy); clear hy) | (go_simp; refine hK _ _ (ext_uS (HX.out.alloc _)) ?_; clear hK K; have hy := (Ext.refl wN).alloc (.cells #[.int .i64 0, .int .i64 0, .int .i64 0, .int .i64 0, .bool false, .slice none 0 0, .int .i64 0, .slice none 0 0, .slice none 0 0, .slice none 0 0] 56); have HBK := Lib.hid (blk_new wN #[.int .i64 0, .int .i64 0, .int .i64 0, .int .i64 0, .bool false, .slice none 0 0, .int .i64 0, .slice none 0 0, .slice none 0 0, .slice none 0 0] 56 _ rfl); have HWX : Hid (W.heap.size ≤ wN.heap.size) := Lib.hid HX.out.size; (try replace HO := Lib.hid (HO.out.ext hy)); (try replace HO2 := Lib.hid (HO2.out.ext hy)); replace HX := Lib.hid (HX.out.trans hy); clear hy; generalize wN.alloc (.cells #[.int .i64 0, .int .i64 0, .int .i64 0, .int .i64 0, .bool false, .slice none 0 0, .int .i64 0, .slice none 0 0, .slice none 0 0, .slice none 0 0] 56) = wM at *; generalize wN.heap.size = X at *; rename World => wN) | (go_simp; refine hK _ _ (ext_uS HX.out) ?_; clear hK K)))
    all_goals ((first | refine tr_one ?_ | refine tr_two ?_ ?_ | refine tr_three ?_ ?_ ?_) <;> (refine op_step (by rfl) ?_; intro K hK; first | (go_simp; refine (refwords_is HN.out _).mono ?_; rintro e wN ⟨rfl, hy⟩; refine hK _ _ (ext_uS (HX.out.trans hy)) ?_; clear hK K; (try replace HO := Lib.hid (HO.out.ext hy)); (try replace HO2 := Lib.hid (HO2.out.ext hy)); (try replace HBK := Lib.hid ((hy.block (lt_of_heap HBK.out)).trans HBK.out)); replace HX := Lib.hid (HX.out.trans hy); clear hy) | (refine wp_makeU (.tmp 11) rfl n (by rfl) (by have := HNB.out; omega) ?_; intro wN ho hy; refine hK _ _ (ext_uS (HX.out.trans hy)) ?_; clear hK K; have HO := Lib.hid (ho.mono (B' := V.heap.size) (by have := HX.out.size; have := HZ.out; omega)); clear ho; (try replace HO2 := Lib.hid (HO2.out.ext hy)); (try replace HBK := Lib.hid ((hy.block (lt_of_heap HBK.out)).trans HBK.out)); replace HX := Lib.hid (HX.out.trans hy); clear hy) | (refine wp_makeSl (.tmp 14) rfl m (by rfl) (by have := HM1.out; omega) ?_; intro wN ho hy; refine hK _ _ (ext_uS (HX.out.trans hy)) ?_; clear hK K; have HO2 := Lib.hid (ho.mono (B' := V.heap.size) (by have := HX.out.size; have := HZ.out; omega)); clear ho; (try replace HO := Lib.hid (HO.out.ext hy)); (try replace HBK := Lib.hid ((hy.block (lt_of_heap HBK.out)).trans HBK.out)); replace HX := Lib.hid (HX.out.trans hy); clear hy) | (go_simp; refine hK _ _ (ext_uS (HX.out.alloc _)) ?_; clear hK K; have hy := (Ext.refl wN).alloc (.cells #[.int .i64 0, .int .i64 0, .int .i64 0, .int .i64 0, .bool false, .slice none 0 0, .int .i64 0, .slice none 0 0, .slice none 0 0, .slice none 0 0] 56); have HBK := Lib.hid (blk_new wN #[.int .i64 0, .int .i64 0, .int .i64 0, .int .i64 0, .bool false, .slice none 0 0, .int .i64 0, .slice none 0 0, .slice none 0 0, .slice none 0 0] 56 _ rfl); have HWX : Hid (W.heap.size ≤ wN.heap.size) := Lib.hid HX.out.size; (try replace HO := Lib.hid (HO.out.ext hy)); (try replace HO2 := Lib.hid (HO2.out.ext hy)); replace HX := Lib.hid (HX.out.trans hy); clear hy; generalize wN.alloc (.cells #[.int .i64 0, .int .i64 0, .int .i64 0, .int .i64 0, .bool false, .slice none 0 0, .int .i64 0, .slice none 0 0, .slice none 0 0, .slice none 0 0] 56) = wM at *; generalize wN.heap.size = X at *; rename World => wN) | (go_simp; refine hK _ _ (ext_uS HX.out) ?_; clear hK K)))
    all_goals ((first | refine tr_one ?_ | refine tr_two ?_ ?_ | refine tr_three ?_ ?_ ?_) <;> (refine op_step (by rfl) ?_; intro K hK; first | (go_simp; refine (refwords_is HN.out _).mono ?_; rintro e wN ⟨rfl, hy⟩; refine hK _ _ (ext_uS (HX.out.trans hy)) ?_; clear hK K; (try replace HO := Lib.hid (HO.out.ext hy)); (try replace HO2 := Lib.hid (HO2.out.ext hy)); (try replace HBK := Lib.hid ((hy.block (lt_of_heap HBK.out)).trans HBK.out)); replace HX := Lib.hid (HX.out.trans hy); clear hy) | (refine wp_makeU (.tmp 11) rfl n (by rfl) (by have := HNB.out; omega) ?_; intro wN ho hy; refine hK _ _ (ext_uS (HX.out.trans hy)) ?_; clear hK K; have HO := Lib.hid (ho.mono (B' := V.heap.size) (by have := HX.out.size; have := HZ.out; omega)); clear ho; (try replace HO2 := Lib.hid (HO2.out.ext hy)); (try replace HBK := Lib.hid ((hy.block (lt_of_heap HBK.out)).trans HBK.out)); replace HX := Lib.hid (HX.out.trans hy); clear hy) | (refine wp_makeSl (.tmp 14) rfl m (by rfl) (by have := HM1.out; omega) ?_; intro wN ho hy; refine hK _ _ (ext_uS (HX.out.trans hy)) ?_; clear hK K; have HO2 := Lib.hid (ho.mono (B' := V.heap.size) (by have := HX.out.size; have := HZ.out; omega)); clear ho; (try replace HO := Lib.hid (HO.out.ext hy)); (try replace HBK := Lib.hid ((hy.block (lt_of_heap HBK.out)).trans HBK.out)); replace HX := Lib.hid (HX.out.trans hy); clear hy) | (go_simp; refine hK _ _ (ext_uS (HX.out.alloc _)) ?_; clear hK K; have hy := (Ext.refl wN).alloc (.cells #[.int .i64 0, .int .i64 0, .int .i64 0, .int .i64 0, .bool false, .slice none 0 0, .int .i64 0, .slice none 0 0, .slice none 0 0, .slice none 0 0] 56); have HBK := Lib.hid (blk_new wN #[.int .i64 0, .int .i64 0, .int .i64 0, .int .i64 0, .bool false, .slice none 0 0, .int .i64 0, .slice none 0 0, .slice none 0 0, .slice none 0 0] 56 _ rfl); have HWX : Hid (W.heap.size ≤ wN.heap.size) := Lib.hid HX.out.size; (try replace HO := Lib.hid (HO.out.ext hy)); (try replace HO2 := Lib.hid (HO2.out.ext hy)); replace HX := Lib.hid (HX.out.trans hy); clear hy; generalize wN.alloc (.cells #[.int .i64 0, .int .i64 0, .int .i64 0, .int .i64 0, .bool false, .slice none 0 0, .int .i64 0, .slice none 0 0, .slice none 0 0, .slice none 0 0] 56) = wM at *; generalize wN.heap.size = X at *; rename World => wN) | (go_simp; refine hK _ _ (ext_uS HX.out) ?_; clear hK K)))
    all_goals
      refine tr_nil ?_
      try simp only [opsOf, List.map_cons, List.map_nil, List.getD_cons_zero, List.getD_cons_succ]
      refine wpList_storeSt rfl (.tmp 4) (.tmp 16) rfl X _ _ _ _ _ _ _ _ _ _ _ _ _ _ _ _ _ _ _ _ rfl rfl HBK.out rfl ?_
      intro w' hb' hown hext
      exact ⟨rfl, Behind.mk ⟨_, Lib.hid (hown (by decide) HO.out), _, Lib.hid (hown (by decide) HO2.out), X, Lib.hid hb', Lib.hid (hext _ HX.out HWX.out), HWX, rfl⟩⟩
  intro a' w3 hbeh
  obtain ⟨A, ho, A2, ho2, X, hb, hx, hX, rfl⟩ := hbeh.out
  clear hbeh hu gS
  replace hx := hx.out
  have HO := pers_own ho.out
  have HO2 := pers_own ho2.out
  have hK := pers_blk hb.out
  have HVX : Hid (V.heap.size ≤ X) := Lib.hid (Nat.le_trans HXV.out.size hX.out)
  have HRX : Hid (R ≠ X) := Lib.hid (by have := lt_of_heap hR.here; have := hX.out; omega)
  (replace hS := hS.re hx; replace hR := hR.re hx)
  replace HXV := Lib.hid (HXV.out.trans hx)
  clear ho ho2 hb hx hX
  have gS := hS.cells
  have gR := hR.cells
  have fR := hR.frees
  have lR := hR.lt
  have gK := hK.cells
  have fK := hK.frees
  have lK := hK.lt
  have hq := HRX.out
  have hV3 : V.heap.size ≤ w3.heap.size := HXV.out.size
  cases mb
  · have dm := HD.out
    ((first | refine at_baseC (W := w3) ?_ | refine at_base (W := w3) ?_); intro uq; (try go_wp2_with fail))
    ((try simp only [Exit.inBlock, Exit.then]); refine bodyPost_ret (v := .tuple #[.agg #[.int .i64 c0, .int .i64 c1, .int .i64 m, .int .i64 c3, .bool false, .slice A n n, .int .i64 0, .slice none 0 0, .slice none 0 0, .slice A2 m m], .int .i64 0]) (by simp only [results, Try.results27]; go_simp) rfl ?_)
    have o1 := HO.at uq.2
    have o2 := HO2.at uq.2
    have x1 := HXV.out.trans uq.2
    have br := hR.at uq.2
    refine ⟨⟨c0, c1, m, c3, false, A, List.replicate n 0, n, 0, none, [], 0, none, [], 0, A2, List.replicate m (false, 0, 0), m⟩, ?_, ⟨?_, Own.nil _ _ _ _ _, Own.nil _ _ _ _ _, ?_⟩, ?_, ?_⟩
    · rw [HNW.out.2]; simp
    · simp only [List.length_replicate]
      exact own10 o1 br (by decide) _ _ _ _ _ _ _ _ _ _
    · simp only [List.length_replicate]
      exact own10 o2 br (by decide) _ _ _ _ _ _ _ _ _ _
    · rw [HNW.out.1, HFR.out]
      have := HMB.out
      simp [eqvS] at this ⊢
      simp [this]
    · exact ext10x x1 HVR.out _ _ _ _ _ _ _ _ _ _
  · have dm := HD.out
    ((first | refine at_baseC (W := w3) ?_ | refine at_base (W := w3) ?_); intro uq; (try go_wp2_with fail))
    (refine (reflarge_is HLA.out HLS.out _).mono ?_; rintro e wq ⟨rfl, hx⟩; replace hx := Ext.trans (a := w3) (by repeat (first | (with_reducible exact Ext.refl _) | (with_reducible exact ExtOf.ext _) | (with_reducible assumption) | (with_reducible refine Ext.drew ?_) | (with_reducible refine Ext.alloc ?_ _))) hx; obtain ⟨uq, rfl⟩ : ∃ u : ExtOf w3, wq = u.1 := ⟨⟨wq, hx⟩, rfl⟩; clear hx; go_wp2_with fail)
    have o1 := (HO.at uq.2).setOther (i := 8) (u := .slice (some ⟨uq.1.heap.size, 0, none⟩) 1 1) (hK.at uq.2) (by decide)
    have o2 := (HO2.at uq.2).setOther (i := 8) (u := .slice (some ⟨uq.1.heap.size, 0, none⟩) 1 1) (hK.at uq.2) (by decide)
    have br : (uq.1.setCell ⟨X, 8, none⟩ (.slice (some ⟨uq.1.heap.size, 0, none⟩) 1 1)).heap[R]? = some (.cells #[.int .i64 0, .int .i64 0, .int .i64 0, .int .i64 0, .bool false, .slice none 0 0, .int .i64 0, .slice none 0 0, .slice none 0 0, .slice none 0 0] 56 (0, 0)) := blk_set_other (hR.at uq.2) _ hq
    have x1 : Ext V (uq.1.setCell ⟨X, 8, none⟩ (.slice (some ⟨uq.1.heap.size, 0, none⟩) 1 1)) := (HXV.out.trans uq.2).setCell HVX.out _
    have hsz : V.heap.size ≤ uq.1.heap.size := by have := uq.2.size; omega
    ((try simp only [Exit.inBlock, Exit.then]); refine bodyPost_ret (v := .tuple #[.agg #[.int .i64 c0, .int .i64 c1, .int .i64 m, .int .i64 c3, .bool false, .slice A n n, .int .i64 0, .slice none 0 0, .slice (some ⟨uq.1.heap.size, 0, none⟩) 1 1, .slice A2 m m], .int .i64 0]) (by simp only [results, Try.results27]; go_simp) rfl ?_)
    refine ⟨⟨c0, c1, m, c3, false, A, List.replicate n 0, n, 0, none, [], 0, some ⟨uq.1.heap.size, 0, none⟩, [(la, ls)], 1, A2, List.replicate m (false, 0, 0), m⟩, ?_, ⟨?_, Own.nil _ _ _ _ _, ?_, ?_⟩, ?_, ?_⟩
    · rw [HNW.out.2]; simp
    · simp only [List.length_replicate]
      exact (own10 o1 br (by decide) _ _ _ _ _ _ _ _ _ _).ext ((Ext.refl _).alloc _)
    · simp only [List.length_cons, List.length_nil, Nat.zero_add]
      exact Own.lit spanCells [(la, ls)] _ rfl 1 rfl (by simpa using hsz) (by simp [maxLen]) _ (by simp)
    · simp only [List.length_replicate]
      exact (own10 o2 br (by decide) _ _ _ _ _ _ _ _ _ _).ext ((Ext.refl _).alloc _)
    · rw [HNW.out.1, HFR.out]
      have := HMB.out
      simp [eqvS] at this ⊢
      simp [this]
    · exact (ext10x x1 HVR.out _ _ _ _ _ _ _ _ _ _).alloc _
theorem refnew_any (c0 c1 c2 c3 : Int) (V : World) : Calls Try.prog 27 #[.agg #[.int .i64 (c0), .int .i64 (c1), .int .i64 (c2), .int .i64 (c3)]] V (RetNew V (newS c0 c1 c2 c3) (newE c0 c1 c2 c3)) := by
  by_cases hb : cfgB c0 c1 c2 c3 = true
  · exact refnew_yes c0 c1 c2 c3 hb V
  · exact refnew_no c0 c1 c2 c3 (by simpa using hb) V
end Go.Proofs.Ytkcpfimhbogdcaa

