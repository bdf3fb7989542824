/- The walk of the law LayoutParts, of a config that may be. -/
import Derived.Test.YtllcekmbcmhckaaLawP
set_option linter.unusedSimpArgs false
set_option linter.unusedVariables false
namespace Go.Proofs.Ytllcekmbcmhckaa
open Go.RowKit

set_option maxRecDepth 100000 in
set_option maxHeartbeats 8000000 in
theorem layoutParts_yes (s l t m : Int) (b : Bool) (p : Int) (w : World) (hb : cfgB s l t m = true) :
    Calls Try.prog 7 #[.agg #[.int .i64 (s), .int .i64 (l), .int .i64 (t), .int .i64 (m)], .bool b, .int .i64 p] w fun e w' => e = .returned (.bool true) ∧ Ext w w' := by
  have hh := halves hb b
  obtain ⟨fa, e1⟩ : ∃ fa, halfA s l t m b = fa := ⟨_, rfl⟩
  obtain ⟨ta, e2⟩ : ∃ ta, halfA s l t m (!b) = ta := ⟨_, rfl⟩
  have e1' : halfA s l t m (!!b) = fa := by rw [Bool.not_not]; exact e1
  have e3 : halfS s l t m = s := by simp [halfS, hb]
  have e4 : wordsZ s l t m = 2 * s + l := by simp [wordsZ, hb]
  have e5 : largeS s l t m = l := by simp [largeS, hb]
  rw [e1, e2] at hh
  obtain ⟨wz, e6⟩ : ∃ wz, whereZ s l t m b p = wz := ⟨_, rfl⟩
  have e7 : decide (0 < wz) = decide (0 ≤ p ∧ p < 2 * s + l) := by rw [← e6]; exact where_pos hb b p
  have H1 := Lib.hid e1
  have H1' := Lib.hid e1'
  have H2 := Lib.hid e2
  have H3 := Lib.hid e3
  have H4 := Lib.hid e4
  have H5 := Lib.hid e5
  have H6 := Lib.hid e6
  have H7 := Lib.hid e7
  have HB := Lib.hid hb
  have HH := Lib.hid hh
  have b1 := hh.s2
  have b2 := hh.s3
  have b3 := hh.l1
  have b4 := hh.l2
  clear e1 e1' e2 e3 e4 e5 e6 e7 hh hb
  go_enter Try.func7, Try.ntmps7
  have k0 := boxed w #[.int .i64 s, .int .i64 l, .int .i64 t, .int .i64 m] 38 0 _ rfl
  have k1 := boxed w #[.int .i64 s, .int .i64 l, .int .i64 t, .int .i64 m] 38 1 _ rfl
  have k2 := boxed w #[.int .i64 s, .int .i64 l, .int .i64 t, .int .i64 m] 38 2 _ rfl
  have k3 := boxed w #[.int .i64 s, .int .i64 l, .int .i64 t, .int .i64 m] 38 3 _ rfl
  have hW : Ext w (w.alloc (.cells #[.int .i64 s, .int .i64 l, .int .i64 t, .int .i64 m] 38)) := (Ext.refl w).alloc _
  have hs0 : Ext (w.alloc (.cells #[.int .i64 s, .int .i64 l, .int .i64 t, .int .i64 m] 38)) (w.alloc (.cells #[.int .i64 s, .int .i64 l, .int .i64 t, .int .i64 m] 38)) := Ext.refl _
  go_wp2_with fail
  generalize w.alloc (.cells #[.int .i64 s, .int .i64 l, .int .i64 t, .int .i64 m] 38) = W at *
  have l0 := fun u : ExtOf W => k0 u.1 u.2
  have l1 := fun u : ExtOf W => k1 u.1 u.2
  have l2 := fun u : ExtOf W => k2 u.1 u.2
  have l3 := fun u : ExtOf W => k3 u.1 u.2
  go_wp2_with (go_at_call 33; refine (check_is HB.out _).mono ?_; rintro e w1 ⟨rfl, hx0⟩; have hx := Ext.trans (a := W) (by with_reducible assumption) hx0; clear hx0)
  (refine wp_region_ord (W := W) [(0, true), (1, true), (3, true), (4, true), (2, false), (5, false)] [6] [7] (by kernel_rfl) (by kernel_rfl) (by intro c a d v w h; cases d <;> exact h) (by with_reducible assumption) ?_; simp only [opsOf, List.map_cons, List.map_nil, List.getD_cons_zero, List.getD_cons_succ]; (repeat (go_big_quiet_step (first | (go_at_call 34; with_reducible exact Calls.ext_of (from_is H1.out H3.out _)) | (go_at_call 37; with_reducible exact Calls.ext_of (to_is H2.out H3.out _))))); refine wpQuiet_nil ?_; intro w1 hx; (repeat (refine mid_step (by rfl) ?_; intro K hK; go_simp; refine hK _ _ (by repeat (first | (with_reducible exact Ext.refl _) | (with_reducible assumption) | (with_reducible refine Ext.drew ?_) | (with_reducible refine Ext.alloc ?_ _))) ?_; clear hK K)); refine mid_nil ?_)
  have hLit : ∀ B, B ≤ w1.heap.size → Own 23 2 spanC (w1.alloc (.cells #[.int .i64 fa, .int .i64 s, .int .i64 ta, .int .i64 s] 23)) B (.slice (some ⟨w1.heap.size, 0, none⟩) 2 2) [(fa, s), (ta, s)] :=
    fun B hB => Own.lit spanCells [(fa, s), (ta, s)] _ rfl 2 rfl hB (by simp [maxLen]) _ rfl
  have HLIT := Lib.hid hLit
  have hx2 : Ext W (w1.alloc (.cells #[.int .i64 fa, .int .i64 s, .int .i64 ta, .int .i64 s] 23)) := hx.alloc _
  have hsz : (w1.alloc (.cells #[.int .i64 fa, .int .i64 s, .int .i64 ta, .int .i64 s] 23)).heap.size = w1.heap.size + 1 := by simp
  have HSZ := Lib.hid hsz
  clear hLit hsz
  generalize w1.alloc (.cells #[.int .i64 fa, .int .i64 s, .int .i64 ta, .int .i64 s] 23) = W2 at *
  obtain ⟨ps, hps⟩ : ∃ ps, partsL fa ta s l = ps := ⟨_, rfl⟩
  have HAP : Hid (apartB ps = true) := Lib.hid (hps ▸ HH.out.apart)
  have HJ : Hid (joinL ps = [(0, 2 * s + l)]) := Lib.hid (hps ▸ HH.out.join)
  have HC : Hid (countB p ps = if 0 ≤ p ∧ p < 2 * s + l then 1 else 0) := Lib.hid (hps ▸ HH.out.count p)
  have HPS := Lib.hid hps
  clear hps
  by_cases h9 : l = 0
  · have hl0 : decide (0 < l) = false := by simp; omega
    have hps : ps = [(fa, s), (ta, s)] := by rw [← HPS.out, partsL, if_pos h9]
    have HLEN : Hid (ps.length = 2) := Lib.hid (by rw [hps]; rfl)
    have hr : SpansAt W2 (some ⟨w1.heap.size, 0, none⟩) ps := by
      obtain ⟨_, _, e3, hrow3, _⟩ := (HLIT.out _ (Nat.le_refl _)).form spanCells (by decide)
      obtain ⟨rfl, _, rfl⟩ : _ ∧ _ ∧ _ := by simpa only [Value.slice.injEq] using e3
      rw [hps]; exact hrow3
    have HR := Lib.hid hr
    have hX : Ext W W2 := hx2
    have H9 := Lib.hid h9
    clear h9 hps hr hx2
    clear HH HPS
    go_wp2_with fail
    refine (join_c _ _ ps [(0, 2 * s + l)] 2 1 _ HLEN.out HJ.out rfl (by omega) HR.out).mono ?_
    rintro e W3 ⟨A8, cap8, rfl, hj8, hx8⟩
    obtain ⟨jb, jo, rfl, hjc⟩ := hj8.get (by simp)
    obtain ⟨j1, j2⟩ := spans_cell hjc (k := 0) (by simp)
    have hR3 := HR.out.ext hx8
    obtain ⟨pb, po, hpA, hpc⟩ := hR3.get (by rw [HLEN.out]; omega)
    obtain ⟨hAe⟩ : _ ∧ True := ⟨hpA, trivial⟩
    have HR3 := Lib.hid hR3
    have HPC := Lib.hid hpc
    have HX3 : Ext W W3 := Ext.trans hX hx8
    simp only [Nat.zero_mul, Nat.add_zero, List.getD_cons_zero] at j1 j2
    replace j1 := fun w' (h : Ext W3 w') => h.cell j1
    replace j2 := fun w' (h : Ext W3 w') => h.cell j2
    replace k0 := fun w' (h : Ext W3 w') => k0 w' (HX3.trans h)
    replace k1 := fun w' (h : Ext W3 w') => k1 w' (HX3.trans h)
    replace k2 := fun w' (h : Ext W3 w') => k2 w' (HX3.trans h)
    replace k3 := fun w' (h : Ext W3 w') => k3 w' (HX3.trans h)
    have HXW := Lib.hid (hW.trans HX3)
    have HLEN2 := HLEN.out
    clear hx8 hjc hR3 hpc l0 l1 l2 l3 hX hx hs0 hW HX3 HLIT HSZ HR
    obtain ⟨rfl, rfl⟩ : w1.heap.size = pb ∧ 0 = po := by simpa using hpA
    go_wp2_with fail
    go_loopw [9, 10] (fun c i wr => ∃ k n : Nat, k ≤ 2 ∧ n ≤ k ∧ i = .int .i64 k ∧ c = .int .i64 n ∧ Ext W3 wr ∧ Hid (countB p (ps.take k) = n)) (fun _ i _ => 2 - (intOf i).toNat)
    case atStart => exact ⟨0, 0, by omega, by omega, rfl, rfl, Ext.refl _, Lib.hid rfl⟩
    case round =>
      obtain ⟨k, n, hk, hn, rfl, rfl, hxr, hq⟩ := hrel
      by_cases hlt : k < 2
      · obtain ⟨e1, e2⟩ := spans_cell HPC.out (k := k) (by omega)
        have c1 := hxr.cell e1
        have c2 := hxr.cell e2
        have HT := Lib.hid (count_snoc (zs := ps) (p := p) (k := k) (by omega))
        rw [hq.out] at HT
        clear e1 e2 hq
        generalize ps.getD k (0, 0) = x at *
        obtain ⟨x1, x2⟩ := x
        simp only at c1 c2
        try simp only [Nat.zero_add] at c1 c2
        have ib1 : (k : Int) < (2 : Int) := by omega
        go_wp2_with fail
        cases hb : hasB x1 x2 p
        · refine (has_is x1 x2 p _ hb _).mono ?_
          rintro e w1 ⟨rfl, hx1⟩
          replace hxr := hxr.trans hx1
          go_wp2_with fail
          go_roundw
          case rel => exact ⟨k + 1, n, by omega, by omega, by go_num, rfl, hxr, by rw [HT.out]; simp only [hb]; exact Lib.hid rfl⟩
          case measure => simp [intOf]; omega
        · refine (has_is x1 x2 p _ hb _).mono ?_
          rintro e w1 ⟨rfl, hx1⟩
          replace hxr := hxr.trans hx1
          go_wp2_with fail
          go_roundw
          case rel => exact ⟨k + 1, n + 1, by omega, by omega, by go_num, by go_num, hxr, by rw [HT.out]; simp only [hb]; exact Lib.hid rfl⟩
          case measure => simp [intOf]; omega
      have hcn : countB p ps = n := by have := hq.out; rwa [List.take_of_length_le (by omega)] at this
      rw [HC.out] at hcn
      clear hq hn
      have hsl := HR3.out.ext hxr
      have HS := Lib.hid hsl
      clear hsl
      have hyW := HXW.out.trans hxr
      replace j1 := fun w' (h : Ext wr w') => j1 w' (hxr.trans h)
      replace j2 := fun w' (h : Ext wr w') => j2 w' (hxr.trans h)
      replace k0 := fun w' (h : Ext wr w') => k0 w' (hxr.trans h)
      replace k1 := fun w' (h : Ext wr w') => k1 w' (hxr.trans h)
      replace k2 := fun w' (h : Ext wr w') => k2 w' (hxr.trans h)
      replace k3 := fun w' (h : Ext wr w') => k3 w' (hxr.trans h)
      have hs0 : Ext wr wr := Ext.refl _
      by_cases hp0 : 0 ≤ p
      · by_cases hp1 : p < 2 * s + l
        · obtain rfl : n = 1 := by rw [if_pos ⟨hp0, hp1⟩] at hcn; omega
          have hw : decide (0 < wz) = true := by rw [H7.out]; simp; omega
          go_wp2_with (go_at_call 35; refine (words_is H4.out _).mono ?_; rintro e w1 ⟨rfl, hx0⟩; have hx := Ext.trans (a := wr) (by with_reducible assumption) hx0; clear hx0)
          have l0 := fun u : ExtOf wr => k0 u.1 u.2
          have l1 := fun u : ExtOf wr => k1 u.1 u.2
          have l2 := fun u : ExtOf wr => k2 u.1 u.2
          have l3 := fun u : ExtOf wr => k3 u.1 u.2
          have l4 := fun u : ExtOf wr => j1 u.1 u.2
          have l5 := fun u : ExtOf wr => j2 u.1 u.2
          have HSS := Lib.hid (fun u : ExtOf wr => HS.out.ext u.2)
          (refine wp_region_ext (W := wr) (by kernel_rfl) (by kernel_rfl) (by with_reducible assumption) ?_; (repeat (go_big_quiet_step (first | (go_at_call 27; with_reducible exact Calls.ext_of (apart_c _ _ ps _ true _ HLEN.out HAP.out (by omega) (HSS.out _))) | (go_at_call 35; with_reducible exact Calls.ext_of (words_is H4.out _)) | (go_at_call 39; with_reducible exact Calls.ext_of (where_is H6.out _)) | (go_at_call 34; with_reducible exact Calls.ext_of (from_is H1.out H3.out _)) | (go_at_call 37; with_reducible exact Calls.ext_of (to_is H1'.out H3.out _)) | (go_at_call 36; with_reducible exact Calls.ext_of (awake04_any _))))); refine wpQuiet_nil ?_; intro w1 hx)
          go_wp2_with fail
          go_ret
          exact ⟨rfl, hyW.trans hx⟩
        · obtain rfl : n = 0 := by rw [if_neg (by omega)] at hcn; omega
          have hw : decide (0 < wz) = false := by rw [H7.out]; simp; omega
          go_wp2_with (go_at_call 35; refine (words_is H4.out _).mono ?_; rintro e w1 ⟨rfl, hx0⟩; have hx := Ext.trans (a := wr) (by with_reducible assumption) hx0; clear hx0)
          have l0 := fun u : ExtOf wr => k0 u.1 u.2
          have l1 := fun u : ExtOf wr => k1 u.1 u.2
          have l2 := fun u : ExtOf wr => k2 u.1 u.2
          have l3 := fun u : ExtOf wr => k3 u.1 u.2
          have l4 := fun u : ExtOf wr => j1 u.1 u.2
          have l5 := fun u : ExtOf wr => j2 u.1 u.2
          have HSS := Lib.hid (fun u : ExtOf wr => HS.out.ext u.2)
          (refine wp_region_ext (W := wr) (by kernel_rfl) (by kernel_rfl) (by with_reducible assumption) ?_; (repeat (go_big_quiet_step (first | (go_at_call 27; with_reducible exact Calls.ext_of (apart_c _ _ ps _ true _ HLEN.out HAP.out (by omega) (HSS.out _))) | (go_at_call 35; with_reducible exact Calls.ext_of (words_is H4.out _)) | (go_at_call 39; with_reducible exact Calls.ext_of (where_is H6.out _)) | (go_at_call 34; with_reducible exact Calls.ext_of (from_is H1.out H3.out _)) | (go_at_call 37; with_reducible exact Calls.ext_of (to_is H1'.out H3.out _)) | (go_at_call 36; with_reducible exact Calls.ext_of (awake04_any _))))); refine wpQuiet_nil ?_; intro w1 hx)
          go_wp2_with fail
          go_ret
          exact ⟨rfl, hyW.trans hx⟩
      · obtain rfl : n = 0 := by rw [if_neg (by omega)] at hcn; omega
        have hw : decide (0 < wz) = false := by rw [H7.out]; simp; omega
        go_wp2_with fail
        have l0 := fun u : ExtOf wr => k0 u.1 u.2
        have l1 := fun u : ExtOf wr => k1 u.1 u.2
        have l2 := fun u : ExtOf wr => k2 u.1 u.2
        have l3 := fun u : ExtOf wr => k3 u.1 u.2
        have l4 := fun u : ExtOf wr => j1 u.1 u.2
        have l5 := fun u : ExtOf wr => j2 u.1 u.2
        have HSS := Lib.hid (fun u : ExtOf wr => HS.out.ext u.2)
        (refine wp_region_ext (W := wr) (by kernel_rfl) (by kernel_rfl) (by with_reducible assumption) ?_; (repeat (go_big_quiet_step (first | (go_at_call 27; with_reducible exact Calls.ext_of (apart_c _ _ ps _ true _ HLEN.out HAP.out (by omega) (HSS.out _))) | (go_at_call 35; with_reducible exact Calls.ext_of (words_is H4.out _)) | (go_at_call 39; with_reducible exact Calls.ext_of (where_is H6.out _)) | (go_at_call 34; with_reducible exact Calls.ext_of (from_is H1.out H3.out _)) | (go_at_call 37; with_reducible exact Calls.ext_of (to_is H1'.out H3.out _)) | (go_at_call 36; with_reducible exact Calls.ext_of (awake04_any _))))); refine wpQuiet_nil ?_; intro w1 hx)
        go_wp2_with fail
        go_ret
        exact ⟨rfl, hyW.trans hx⟩
  · have hl0 : decide (0 < l) = true := by simp; omega
    have h5 : largeA s l t m = 2 * s := by simp [largeA, HB.out, h9]
    have hps : ps = [(fa, s), (ta, s), (2 * s, l)] := by rw [← HPS.out, partsL, if_neg h9]
    have HLEN : Hid (ps.length = 3) := Lib.hid (by rw [hps]; rfl)
    have HP := Lib.hid hps
    have HL5 := Lib.hid h5
    have HWB := Lib.hid hx.size
    clear h9 h5 hps
    go_wp2_with fail
    refine (large_is HL5.out H5.out _).mono ?_
    rintro e w3 ⟨rfl, hx3⟩
    have HO3 := Lib.hid ((HLIT.out W.heap.size HWB.out).ext hx3)
    have HB3 := Lib.hid (hx2.trans hx3)
    clear hx3 hx2
    go_wp2_with (at_builtin; refine wpList_app_lit rfl (.tmp 38) (.tmp 41) 29 rfl spanInfo spanCells rfl (by exact HO3.out) [(2 * s, l)] 1 _ rfl 3 1 rfl rfl _ rfl rfl (by simp) (by simp [maxLen]) (by exact HB3.out.size) ?_; intro A1 cap1 W4 hown1 hgr1 hat1; have HO4 := Lib.hid hown1; have hX : Ext W W4 := HO3.out.below (HB3.out.alloc _) hgr1 (by have := HB3.out.size; simp; omega); clear hown1 hgr1 hat1)
    have hr : SpansAt W4 A1 ps := by
      obtain ⟨_, _, e3, hrow3, _⟩ := HO4.out.form spanCells (by decide)
      obtain ⟨rfl, _, rfl⟩ : _ ∧ _ ∧ _ := by simpa only [Value.slice.injEq] using e3
      rw [HP.out]; exact hrow3
    have HR := Lib.hid hr
    clear hr HP
    clear HH HPS
    go_wp2_with fail
    refine (join_c _ _ ps [(0, 2 * s + l)] 3 1 _ HLEN.out HJ.out rfl (by omega) HR.out).mono ?_
    rintro e W3 ⟨A8, cap8, rfl, hj8, hx8⟩
    obtain ⟨jb, jo, rfl, hjc⟩ := hj8.get (by simp)
    obtain ⟨j1, j2⟩ := spans_cell hjc (k := 0) (by simp)
    have hR3 := HR.out.ext hx8
    obtain ⟨pb, po, hpA, hpc⟩ := hR3.get (by rw [HLEN.out]; omega)
    obtain ⟨hAe⟩ : _ ∧ True := ⟨hpA, trivial⟩
    have HR3 := Lib.hid hR3
    have HPC := Lib.hid hpc
    have HX3 : Ext W W3 := Ext.trans hX hx8
    simp only [Nat.zero_mul, Nat.add_zero, List.getD_cons_zero] at j1 j2
    replace j1 := fun w' (h : Ext W3 w') => h.cell j1
    replace j2 := fun w' (h : Ext W3 w') => h.cell j2
    replace k0 := fun w' (h : Ext W3 w') => k0 w' (HX3.trans h)
    replace k1 := fun w' (h : Ext W3 w') => k1 w' (HX3.trans h)
    replace k2 := fun w' (h : Ext W3 w') => k2 w' (HX3.trans h)
    replace k3 := fun w' (h : Ext W3 w') => k3 w' (HX3.trans h)
    have HXW := Lib.hid (hW.trans HX3)
    have HLEN2 := HLEN.out
    clear hx8 hjc hR3 hpc l0 l1 l2 l3 hX hx hs0 hW HX3 HLIT HSZ HR
    subst hpA
    go_wp2_with fail
    go_loopw [9, 10] (fun c i wr => ∃ k n : Nat, k ≤ 3 ∧ n ≤ k ∧ i = .int .i64 k ∧ c = .int .i64 n ∧ Ext W3 wr ∧ Hid (countB p (ps.take k) = n)) (fun _ i _ => 3 - (intOf i).toNat)
    case atStart => exact ⟨0, 0, by omega, by omega, rfl, rfl, Ext.refl _, Lib.hid rfl⟩
    case round =>
      obtain ⟨k, n, hk, hn, rfl, rfl, hxr, hq⟩ := hrel
      by_cases hlt : k < 3
      · obtain ⟨e1, e2⟩ := spans_cell HPC.out (k := k) (by omega)
        have c1 := hxr.cell e1
        have c2 := hxr.cell e2
        have HT := Lib.hid (count_snoc (zs := ps) (p := p) (k := k) (by omega))
        rw [hq.out] at HT
        clear e1 e2 hq
        generalize ps.getD k (0, 0) = x at *
        obtain ⟨x1, x2⟩ := x
        simp only at c1 c2
        try simp only [Nat.zero_add] at c1 c2
        have ib1 : (k : Int) < (3 : Int) := by omega
        go_wp2_with fail
        cases hb : hasB x1 x2 p
        · refine (has_is x1 x2 p _ hb _).mono ?_
          rintro e w1 ⟨rfl, hx1⟩
          replace hxr := hxr.trans hx1
          go_wp2_with fail
          go_roundw
          case rel => exact ⟨k + 1, n, by omega, by omega, by go_num, rfl, hxr, by rw [HT.out]; simp only [hb]; exact Lib.hid rfl⟩
          case measure => simp [intOf]; omega
        · refine (has_is x1 x2 p _ hb _).mono ?_
          rintro e w1 ⟨rfl, hx1⟩
          replace hxr := hxr.trans hx1
          go_wp2_with fail
          go_roundw
          case rel => exact ⟨k + 1, n + 1, by omega, by omega, by go_num, by go_num, hxr, by rw [HT.out]; simp only [hb]; exact Lib.hid rfl⟩
          case measure => simp [intOf]; omega
      have hcn : countB p ps = n := by have := hq.out; rwa [List.take_of_length_le (by omega)] at this
      rw [HC.out] at hcn
      clear hq hn
      have hsl := HR3.out.ext hxr
      have HS := Lib.hid hsl
      clear hsl
      have hyW := HXW.out.trans hxr
      replace j1 := fun w' (h : Ext wr w') => j1 w' (hxr.trans h)
      replace j2 := fun w' (h : Ext wr w') => j2 w' (hxr.trans h)
      replace k0 := fun w' (h : Ext wr w') => k0 w' (hxr.trans h)
      replace k1 := fun w' (h : Ext wr w') => k1 w' (hxr.trans h)
      replace k2 := fun w' (h : Ext wr w') => k2 w' (hxr.trans h)
      replace k3 := fun w' (h : Ext wr w') => k3 w' (hxr.trans h)
      have hs0 : Ext wr wr := Ext.refl _
      by_cases hp0 : 0 ≤ p
      · by_cases hp1 : p < 2 * s + l
        · obtain rfl : n = 1 := by rw [if_pos ⟨hp0, hp1⟩] at hcn; omega
          have hw : decide (0 < wz) = true := by rw [H7.out]; simp; omega
          go_wp2_with (go_at_call 35; refine (words_is H4.out _).mono ?_; rintro e w1 ⟨rfl, hx0⟩; have hx := Ext.trans (a := wr) (by with_reducible assumption) hx0; clear hx0)
          have l0 := fun u : ExtOf wr => k0 u.1 u.2
          have l1 := fun u : ExtOf wr => k1 u.1 u.2
          have l2 := fun u : ExtOf wr => k2 u.1 u.2
          have l3 := fun u : ExtOf wr => k3 u.1 u.2
          have l4 := fun u : ExtOf wr => j1 u.1 u.2
          have l5 := fun u : ExtOf wr => j2 u.1 u.2
          have HSS := Lib.hid (fun u : ExtOf wr => HS.out.ext u.2)
          (refine wp_region_ext (W := wr) (by kernel_rfl) (by kernel_rfl) (by with_reducible assumption) ?_; (repeat (go_big_quiet_step (first | (go_at_call 27; with_reducible exact Calls.ext_of (apart_c _ _ ps _ true _ HLEN.out HAP.out (by omega) (HSS.out _))) | (go_at_call 35; with_reducible exact Calls.ext_of (words_is H4.out _)) | (go_at_call 39; with_reducible exact Calls.ext_of (where_is H6.out _)) | (go_at_call 34; with_reducible exact Calls.ext_of (from_is H1.out H3.out _)) | (go_at_call 37; with_reducible exact Calls.ext_of (to_is H1'.out H3.out _)) | (go_at_call 36; with_reducible exact Calls.ext_of (awake04_any _))))); refine wpQuiet_nil ?_; intro w1 hx)
          go_wp2_with fail
          go_ret
          exact ⟨rfl, hyW.trans hx⟩
        · obtain rfl : n = 0 := by rw [if_neg (by omega)] at hcn; omega
          have hw : decide (0 < wz) = false := by rw [H7.out]; simp; omega
          go_wp2_with (go_at_call 35; refine (words_is H4.out _).mono ?_; rintro e w1 ⟨rfl, hx0⟩; have hx := Ext.trans (a := wr) (by with_reducible assumption) hx0; clear hx0)
          have l0 := fun u : ExtOf wr => k0 u.1 u.2
          have l1 := fun u : ExtOf wr => k1 u.1 u.2
          have l2 := fun u : ExtOf wr => k2 u.1 u.2
          have l3 := fun u : ExtOf wr => k3 u.1 u.2
          have l4 := fun u : ExtOf wr => j1 u.1 u.2
          have l5 := fun u : ExtOf wr => j2 u.1 u.2
          have HSS := Lib.hid (fun u : ExtOf wr => HS.out.ext u.2)
          (refine wp_region_ext (W := wr) (by kernel_rfl) (by kernel_rfl) (by with_reducible assumption) ?_; (repeat (go_big_quiet_step (first | (go_at_call 27; with_reducible exact Calls.ext_of (apart_c _ _ ps _ true _ HLEN.out HAP.out (by omega) (HSS.out _))) | (go_at_call 35; with_reducible exact Calls.ext_of (words_is H4.out _)) | (go_at_call 39; with_reducible exact Calls.ext_of (where_is H6.out _)) | (go_at_call 34; with_reducible exact Calls.ext_of (from_is H1.out H3.out _)) | (go_at_call 37; with_reducible exact Calls.ext_of (to_is H1'.out H3.out _)) | (go_at_call 36; with_reducible exact Calls.ext_of (awake04_any _))))); refine wpQuiet_nil ?_; intro w1 hx)
          go_wp2_with fail
          go_ret
          exact ⟨rfl, hyW.trans hx⟩
      · obtain rfl : n = 0 := by rw [if_neg (by omega)] at hcn; omega
        have hw : decide (0 < wz) = false := by rw [H7.out]; simp; omega
        go_wp2_with fail
        have l0 := fun u : ExtOf wr => k0 u.1 u.2
        have l1 := fun u : ExtOf wr => k1 u.1 u.2
        have l2 := fun u : ExtOf wr => k2 u.1 u.2
        have l3 := fun u : ExtOf wr => k3 u.1 u.2
        have l4 := fun u : ExtOf wr => j1 u.1 u.2
        have l5 := fun u : ExtOf wr => j2 u.1 u.2
        have HSS := Lib.hid (fun u : ExtOf wr => HS.out.ext u.2)
        (refine wp_region_ext (W := wr) (by kernel_rfl) (by kernel_rfl) (by with_reducible assumption) ?_; (repeat (go_big_quiet_step (first | (go_at_call 27; with_reducible exact Calls.ext_of (apart_c _ _ ps _ true _ HLEN.out HAP.out (by omega) (HSS.out _))) | (go_at_call 35; with_reducible exact Calls.ext_of (words_is H4.out _)) | (go_at_call 39; with_reducible exact Calls.ext_of (where_is H6.out _)) | (go_at_call 34; with_reducible exact Calls.ext_of (from_is H1.out H3.out _)) | (go_at_call 37; with_reducible exact Calls.ext_of (to_is H1'.out H3.out _)) | (go_at_call 36; with_reducible exact Calls.ext_of (awake04_any _))))); refine wpQuiet_nil ?_; intro w1 hx)
        go_wp2_with fail
        go_ret
        exact ⟨rfl, hyW.trans hx⟩

theorem layoutParts_fin {v : Value} {b : Bool} {p : Int} {w : World} (hv : ∃ s l t m : Int, v = .agg #[.int .i64 (s), .int .i64 (l), .int .i64 (t), .int .i64 (m)]) (hp : (Lit.int .i64 p).wf = true) :
    Calls Try.prog 7 #[v, .bool b, .int .i64 p] w fun e w' => e = .returned (.bool true) ∧ Ext w w' := by
  obtain ⟨s, l, t, m, rfl⟩ := hv
  by_cases hb : cfgB s l t m = true
  · exact layoutParts_yes s l t m b p w hb
  · exact layoutParts_no s l t m b p w (by simpa using hb)
end Go.Proofs.Ytllcekmbcmhckaa
