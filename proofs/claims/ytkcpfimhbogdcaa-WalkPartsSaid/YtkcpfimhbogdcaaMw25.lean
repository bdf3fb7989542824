/- Merged by program (merge.py) out of: LwP. -/
import Derived.Test.YtkcpfimhbogdcaaMw17
import Derived.Test.YtkcpfimhbogdcaaMw24
/- The law WalkParts. -/
set_option linter.unusedSimpArgs false
set_option linter.unusedVariables false
namespace Go.Proofs.Ytkcpfimhbogdcaa
open Go.RowKit Go.Shelf

theorem join_is (A : Option Addr) (cap : Nat) (xs zs : List (Int × Int)) (n m : Nat) (V : World) (hn : xs.length = n) (hz : joinL xs = zs) (hm : zs.length = m) (hlen : n ≤ 1000000) (hl : SpansAt V A xs) :
    Calls Try.prog 25 #[.slice A n cap] V fun e w' => ∃ A2 cap2, e = .returned (.slice A2 m cap2) ∧ SpansAt w' A2 zs ∧ Ext V w' := by
  subst hn hz hm
  exact (join_any A cap xs V hlen hl).mono fun e w' h => h.open
set_option maxRecDepth 100000
set_option maxHeartbeats 4000000
theorem walkParts_any (A : Option Addr) (cap : Nat) (ws : List Int) (a s top v : Int) (V : World) (hl : WordsAt V A ws) (hbd : ∀ z ∈ ws, 0 ≤ z ∧ z < 18446744073709551616) (hlen : ws.length ≤ 9223372036854775807) :
    Calls Try.prog 5 #[.slice A ws.length cap, .agg #[.int .i64 (a), .int .i64 (s)], .int .i64 top, .int .i64 v] V fun e w' => e = .returned (.bool true) ∧ Ext V w' := by
  have HL := pers_row hl
  have HBD := Lib.hid hbd
  have hS := pers_new V #[.int .i64 a, .int .i64 s] 23 _ rfl
  have HX := Lib.hid ((Ext.refl V).alloc (.cells #[.int .i64 a, .int .i64 s] 23))
  clear hl hbd
  by_cases h1 : 200 < ws.length
  · have d1 : decide ((200 : Int) < (ws.length : Int)) = true := by simp; omega
    clear h1
    go_enter Try.func5, Try.ntmps5
    go_wp2_with fail
    refine (awake09_any _).mono ?_
    rintro e w8 ⟨rfl, hx⟩
    go_wp2_with fail
    go_ret
    exact ⟨rfl, HX.out.trans hx⟩
  have d1 : decide ((200 : Int) < (ws.length : Int)) = false := by simp; omega
  have hws : ws.length ≤ 98304 := by omega
  have hw2 : ws.length ≤ 200 := by omega
  clear h1
  obtain ⟨zs, hz⟩ : ∃ x, listA (some ws) a s top = x := ⟨_, rfl⟩
  obtain ⟨er, her⟩ : ∃ x, stopE (some ws) a s top = x := ⟨_, rfl⟩
  have HZ := Lib.hid hz
  have HE := Lib.hid her
  clear hz her
  go_enter Try.func5, Try.ntmps5
  go_wp2_with fail
  generalize V.alloc (.cells #[.int .i64 a, .int .i64 s] 23) = W at *
  generalize V.heap.size = S at *
  replace HL := HL.re HX.out
  refine (aof_any A cap ws _ HL.here hws HBD.out).mono ?_
  rintro e W1 ⟨⟨c, A1, cap1, rfl, hA⟩, hx⟩
  (replace HL := HL.re hx; replace hS := hS.re hx; replace HX := Lib.hid (HX.out.trans hx))
  have HAR := arO_pers hA
  clear hx hA
  have gS := hS.cells
  (refine at_base (W := W1) ?_; intro uq; go_wp2_with fail)
  (refine (listO_is (some ⟨c, 0, none⟩) (some ws) a s top er zs HZ.out HE.out _ (HAR.at (by repeat (first | (with_reducible exact Ext.refl _) | (with_reducible exact ExtOf.ext _) | (with_reducible assumption) | (with_reducible refine Ext.drew ?_) | (with_reducible refine Ext.alloc ?_ _))))).mono ?_; rintro e W2 ⟨A2, cap2, rfl, ho2, hx⟩; replace hx := Ext.trans (a := W1) (by repeat (first | (with_reducible exact Ext.refl _) | (with_reducible exact ExtOf.ext _) | (with_reducible assumption) | (with_reducible refine Ext.drew ?_) | (with_reducible refine Ext.alloc ?_ _))) hx; replace HL := HL.re hx; replace hS := hS.re hx; replace HAR := HAR.re hx; replace HX := Lib.hid (HX.out.trans hx))
  obtain ⟨hz2, -, hcap⟩ := own_row ho2 intCells (by decide)
  have HZ2 := pers_row hz2
  clear hx hz2 gS ho2
  by_cases h0 : er = 0
  rotate_left
  · have hne : (er != 0) = true := by simpa using h0
    obtain rfl : zs = [] := by rw [← HZ.out, listA, if_neg (by rw [HE.out]; exact h0)]
    clear h0
    (refine at_base (W := W2) ?_; intro uq; go_wp2_with fail)
    (refine (awake09_any _).mono ?_; rintro e wq ⟨rfl, hx⟩; replace hx := Ext.trans (a := W2) (by repeat (first | (with_reducible exact Ext.refl _) | (with_reducible exact ExtOf.ext _) | (with_reducible assumption) | (with_reducible refine Ext.drew ?_) | (with_reducible refine Ext.alloc ?_ _))) hx; obtain ⟨uq, rfl⟩ : ∃ u : ExtOf W2, wq = u.1 := ⟨⟨wq, hx⟩, rfl⟩; clear hx; go_wp2_with fail)
    go_ret
    exact ⟨rfl, HX.out.trans (ExtOf.ext _)⟩
  subst h0
  obtain ⟨hch, -, h3, h4⟩ := list_chain HE.out
  rw [HZ.out] at hch
  have HC := Lib.hid hch
  have HBZ := Lib.hid (show ∀ x ∈ zs, a ≤ x ∧ x < top ∧ 0 ≤ x ∧ x < 2199023255552 from fun x hx => list_bd (HZ.out.symm ▸ hx))
  have hzl : zs.length ≤ 200 := by
    obtain ⟨h5, h6⟩ := hch.arena h3
    by_cases hn : zs = []
    · simp [hn]
    · have := h6 hn; omega
  have hct := hch.le.1
  obtain ⟨cs, hcs⟩ : ∃ x, cutsR top zs = x := ⟨_, rfl⟩
  have HCS := Lib.hid hcs
  have HCL : Hid (cs.length = zs.length) := Lib.hid (by rw [← hcs, cutsR_len])
  have HPT := Lib.hid (show ∀ k (hk : k < zs.length), listA (some ws) a s zs[k] = zs.take k ∧ stopE (some ws) a s zs[k] = 0 from fun k hk => by
    have := chain_part HE.out (k := k) (by rw [HZ.out]; exact hk)
    simpa only [HZ.out] using this)
  clear hch hcs
  have hB : W2.heap.size ≤ W2.heap.size := Nat.le_refl _
  (refine at_base (W := W2) ?_; intro uq; go_wp2_with fail)
  go_loopw [13, 14, 15, 16, 17] (fun l i _ _ _ wr => ∃ (A3 : Option Addr) (cap3 k : Nat), k ≤ zs.length ∧ l = .slice A3 k cap3 ∧ i = .int .i64 k ∧ Hid (Own 23 2 spanC wr W2.heap.size (.slice A3 k cap3) (cs.take k)) ∧ Ext W2 wr) (fun _ i _ _ _ _ => zs.length - (intOf i).toNat)
  case atStart => exact ⟨none, 0, 0, by omega, rfl, rfl, Lib.hid (Own.nil _ _ _ _ _), uq.2⟩
  case round =>
    obtain ⟨A3, cap3, k, hk, rfl, rfl, HO, hxr⟩ := hrel
    by_cases hlt : k < zs.length
    rotate_left
    · obtain rfl : k = zs.length := by omega
      clear hlt hk
      have HOS : Hid (SpansAt wr A3 cs) := Lib.hid (by
        have h := HO.out
        rw [List.take_of_length_le (by rw [HCL.out]; exact Nat.le_refl _), ← HCL.out] at h
        exact (own_row h spanCells (by decide)).1)
      clear HO
      (replace hS := hS.re hxr; replace HAR := HAR.re hxr; replace HZ2 := HZ2.re hxr; replace HX := Lib.hid (HX.out.trans hxr))
      have HOS1 := pers_row HOS.out
      have gS := hS.cells
      clear hxr HOS
      by_cases hn : zs = []
      · subst hn
        obtain rfl : top = a := by
          have := HC.out.head
          simpa using this
        have hcs0 : cs = [] := List.eq_nil_of_length_eq_zero HCL.out
        subst hcs0
        have HJ0 : Hid (joinL [] = []) := Lib.hid (List.eq_nil_of_length_eq_zero (Nat.le_zero.1 (joinL_length [])))
        simp only [List.length_nil]
        clear HPT HBZ HC
        (refine at_base (W := wr) ?_; intro uq; go_wp2_with fail)
        (refine (join_is A3 cap3 [] [] 0 0 _ rfl HJ0.out rfl (by omega) (HOS1.at (by repeat (first | (with_reducible exact Ext.refl _) | (with_reducible exact ExtOf.ext _) | (with_reducible assumption) | (with_reducible refine Ext.drew ?_) | (with_reducible refine Ext.alloc ?_ _))))).mono ?_; rintro e w8 ⟨A8, cap8, rfl, hj, hx⟩; replace hx := Ext.trans (a := wr) (by repeat (first | (with_reducible exact Ext.refl _) | (with_reducible exact ExtOf.ext _) | (with_reducible assumption) | (with_reducible refine Ext.drew ?_) | (with_reducible refine Ext.alloc ?_ _))) hx; replace hS := hS.re hx; replace HX := Lib.hid (HX.out.trans hx))
        clear hx hj gS
        have gS := hS.cells
        (refine at_base (W := w8) ?_; intro uq; go_wp2_with fail)
        have hx8 := uq.2
        (refine wp_region_ext (W := w8) (by kernel_rfl) (by kernel_rfl) (by with_reducible assumption) ?_; (repeat (go_big_quiet_step (fail))); refine wpQuiet_nil ?_; intro w1 hx)
        (obtain ⟨uq, rfl⟩ : ∃ u : ExtOf w8, w1 = u.1 := ⟨⟨w1, hx⟩, rfl⟩; clear hx; go_wp2_with fail)
        by_cases hv : 0 ≤ v
        case' pos => have dv : decide (v < 0) = false := by simp; omega
        case' neg => have dv : decide (v < 0) = true := by simp; omega
        all_goals
          go_wp2_with fail
          (refine (awake09_any _).mono ?_; rintro e wq ⟨rfl, hx⟩; replace hx := Ext.trans (a := w8) (by repeat (first | (with_reducible exact Ext.refl _) | (with_reducible exact ExtOf.ext _) | (with_reducible assumption) | (with_reducible refine Ext.drew ?_) | (with_reducible refine Ext.alloc ?_ _))) hx; obtain ⟨uq, rfl⟩ : ∃ u : ExtOf w8, wq = u.1 := ⟨⟨wq, hx⟩, rfl⟩; clear hx; go_wp2_with fail)
          go_ret
          exact ⟨rfl, HX.out.trans (ExtOf.ext _)⟩
      have hn0 : 0 < zs.length := List.length_pos_iff.2 hn
      have HJ := Lib.hid (HC.out.join h3 h4 hn)
      rw [HCS.out] at HJ
      have hn1 : zs.length ≠ 0 := by omega
      clear hn
      (refine at_base (W := wr) ?_; intro uq; go_wp2_with fail)
      (refine (join_is A3 cap3 cs [(a, top - a)] zs.length 1 _ HCL.out HJ.out rfl (by omega) (HOS1.at (by repeat (first | (with_reducible exact Ext.refl _) | (with_reducible exact ExtOf.ext _) | (with_reducible assumption) | (with_reducible refine Ext.drew ?_) | (with_reducible refine Ext.alloc ?_ _))))).mono ?_; rintro e w8 ⟨A8, cap8, rfl, hj, hx⟩; replace hx := Ext.trans (a := wr) (by repeat (first | (with_reducible exact Ext.refl _) | (with_reducible exact ExtOf.ext _) | (with_reducible assumption) | (with_reducible refine Ext.drew ?_) | (with_reducible refine Ext.alloc ?_ _))) hx; replace hS := hS.re hx; replace HX := Lib.hid (HX.out.trans hx); replace HAR := HAR.re hx; replace HZ2 := HZ2.re hx)
      obtain ⟨jb, joff, rfl, hjc⟩ := RowAt.get hj (by simp)
      obtain ⟨j0, j1⟩ := spans_cell hjc (k := 0) (by simp)
      simp only [Nat.zero_mul, Nat.add_zero, List.getD_cons_zero] at j0 j1
      replace j0 := pers_cell j0
      replace j1 := pers_cell j1
      clear hx hj gS hjc
      have gS := hS.cells
      have q1 : decide (0 < zs.length) = true := by simpa using hn0
      have q2 : ((zs.length : Int) == 0) = false := by rw [beq_eq_false_iff_ne]; omega
      clear hn0 hn1
      have e3 : wrap64 (top - a) = top - a := IntWalk.wrap64_in _ ⟨by omega, by omega⟩
      (refine at_base (W := w8) ?_; intro uq; go_wp2_with fail)
      have hx8 := uq.2
      (refine wp_region_ext (W := w8) (by kernel_rfl) (by kernel_rfl) (by with_reducible assumption) ?_; (repeat (go_big_quiet_step (fail))); refine wpQuiet_nil ?_; intro w1 hx)
      clear hx8 j0 j1 e3 q1 q2
      by_cases hv : 0 ≤ v
      rotate_left
      · have dv : decide (v < 0) = true := by simp; omega
        (obtain ⟨uq, rfl⟩ : ∃ u : ExtOf w8, w1 = u.1 := ⟨⟨w1, hx⟩, rfl⟩; clear hx; go_wp2_with fail)
        (refine (awake09_any _).mono ?_; rintro e wq ⟨rfl, hx⟩; replace hx := Ext.trans (a := w8) (by repeat (first | (with_reducible exact Ext.refl _) | (with_reducible exact ExtOf.ext _) | (with_reducible assumption) | (with_reducible refine Ext.drew ?_) | (with_reducible refine Ext.alloc ?_ _))) hx; obtain ⟨uq, rfl⟩ : ∃ u : ExtOf w8, wq = u.1 := ⟨⟨wq, hx⟩, rfl⟩; clear hx; go_wp2_with fail)
        go_ret
        exact ⟨rfl, HX.out.trans (ExtOf.ext _)⟩
      obtain ⟨j, rfl⟩ := Int.eq_ofNat_of_zero_le hv
      by_cases hj : j < zs.length
      rotate_left
      · have dj : decide (j < zs.length) = false := by simpa using hj
        (obtain ⟨uq, rfl⟩ : ∃ u : ExtOf w8, w1 = u.1 := ⟨⟨w1, hx⟩, rfl⟩; clear hx; go_wp2_with fail)
        (refine (awake09_any _).mono ?_; rintro e wq ⟨rfl, hx⟩; replace hx := Ext.trans (a := w8) (by repeat (first | (with_reducible exact Ext.refl _) | (with_reducible exact ExtOf.ext _) | (with_reducible assumption) | (with_reducible refine Ext.drew ?_) | (with_reducible refine Ext.alloc ?_ _))) hx; obtain ⟨uq, rfl⟩ : ∃ u : ExtOf w8, wq = u.1 := ⟨⟨wq, hx⟩, rfl⟩; clear hx; go_wp2_with fail)
        go_ret
        exact ⟨rfl, HX.out.trans (ExtOf.ext _)⟩
      have dj : decide (j < zs.length) = true := by simpa using hj
      obtain ⟨p1, p2⟩ := HPT.out j hj
      have hgd : zs.getD j 0 = zs[j] := by simp [hj]
      rw [← hgd] at p1 p2
      have P1 := Lib.hid p1
      have P2 := Lib.hid p2
      have HTL : Hid ((zs.take j).length = j) := Lib.hid (by rw [List.length_take]; omega)
      obtain ⟨lb, off, rfl, hc⟩ := HZ2.here.get (by omega)
      have c1 := pers_cell (ints_cell hc hj)
      have HZT : Pers w8 (fun w => RowAt 1 intC w (some ⟨lb, off, none⟩) (zs.take j)) := fun w h => (HZ2.at h).take j
      have ib0 : (0 : Int) ≤ (j : Int) := by omega
      have ib1 : (j : Int) < (zs.length : Int) := by omega
      have ib2 : (j : Int) ≤ (cap2 : Int) := by omega
      have ib3 : j ≤ cap2 := by omega
      clear p1 p2 hgd hc hj hv dj
      generalize zs.getD j 0 = z at *
      generalize zs.take j = ys at *
      (obtain ⟨uq, rfl⟩ : ∃ u : ExtOf w8, w1 = u.1 := ⟨⟨w1, hx⟩, rfl⟩; clear hx; go_wp2_with fail)
      have hx8 := uq.2
      (refine wp_region_seg (W := w8) [([(0, true), (1, true), (2, true), (3, true), (4, true), (5, true)], 6)] [(7, true), (8, true), (9, true), (10, true), (11, true)] [] (by kernel_rfl) (by kernel_rfl) (by intro c a d v w h; cases d <;> exact h) (by with_reducible assumption) ?_; simp only [opsOf, List.map_cons, List.map_nil, List.getD_cons_zero, List.getD_cons_succ])
      ((first | refine seg_cons ?_ | refine seg_last ?_); (repeat (go_big_quiet_step (fail))); refine wpQuiet_nil ?_; intro w1 hx)
      (refine seg_step ?_ ?_; (focus rfl); intro K hK; go_simp)
      refine (list_is (some ⟨c, 0, none⟩) (some ws) a s z 0 ys P1.out P2.out _ (HAR.at hx)).mono ?_
      rintro e w9 ⟨A9, cap9, rfl, hy, hx9⟩
      refine hK w9 _ _ (hx.trans hx9) (Ext.refl _) ?_
      replace hx9 := hx.trans hx9
      (replace HX := Lib.hid (HX.out.trans hx9); replace HZT := HZT.re hx9)
      have HY := pers_row hy
      clear hK K hx hx9 c1 hx8 gS hy
      ((first | refine seg_cons ?_ | refine seg_last ?_); (repeat (go_big_quiet_step (fail))); refine wpQuiet_nil ?_; intro w1 hx)
      (obtain ⟨uq, rfl⟩ : ∃ u : ExtOf w9, w1 = u.1 := ⟨⟨w1, hx⟩, rfl⟩; clear hx; go_wp2_with fail)
      have hyl : ys.length ≤ 9223372036854775807 := by have := HTL.out; omega
      (refine (ints_is A9 (some ⟨lb, off, none⟩) cap9 _ ys ys ys.length j true rfl HTL.out (by simp) _ hyl (by omega) (HY.at (by repeat (first | (with_reducible exact Ext.refl _) | (with_reducible exact ExtOf.ext _) | (with_reducible assumption) | (with_reducible refine Ext.drew ?_) | (with_reducible refine Ext.alloc ?_ _)))) (HZT.at (by repeat (first | (with_reducible exact Ext.refl _) | (with_reducible exact ExtOf.ext _) | (with_reducible assumption) | (with_reducible refine Ext.drew ?_) | (with_reducible refine Ext.alloc ?_ _))))).mono ?_; rintro e wq ⟨rfl, hx⟩; replace hx := Ext.trans (a := w9) (by repeat (first | (with_reducible exact Ext.refl _) | (with_reducible exact ExtOf.ext _) | (with_reducible assumption) | (with_reducible refine Ext.drew ?_) | (with_reducible refine Ext.alloc ?_ _))) hx; obtain ⟨uq, rfl⟩ : ∃ u : ExtOf w9, wq = u.1 := ⟨⟨wq, hx⟩, rfl⟩; clear hx; go_wp2_with fail)
      (refine (awake09_any _).mono ?_; rintro e wq ⟨rfl, hx⟩; replace hx := Ext.trans (a := w9) (by repeat (first | (with_reducible exact Ext.refl _) | (with_reducible exact ExtOf.ext _) | (with_reducible assumption) | (with_reducible refine Ext.drew ?_) | (with_reducible refine Ext.alloc ?_ _))) hx; obtain ⟨uq, rfl⟩ : ∃ u : ExtOf w9, wq = u.1 := ⟨⟨wq, hx⟩, rfl⟩; clear hx; go_wp2_with fail)
      go_ret
      exact ⟨rfl, HX.out.trans (ExtOf.ext _)⟩
    have hBr := hxr.size
    (replace HZ2 := HZ2.re hxr; replace HAR := HAR.re hxr)
    have HO1 := pers_own HO.out
    obtain ⟨lb, off, rfl, hc⟩ := HZ2.here.get (by omega)
    have c1 := pers_cell (ints_cell hc hlt)
    have c2 : ∀ h : k + 1 < zs.length, ∀ u : ExtOf wr, u.1.cell? ⟨lb, off + (k + 1), none⟩ = _ := fun h => pers_cell (ints_cell hc h)
    have C2 := Lib.hid c2
    obtain ⟨h5, h6⟩ := chain_at HC.out k hlt
    have hbz := HBZ.out _ (getD_mem (d := 0) hlt)
    have HTK : Hid (cs.take (k + 1) = cs.take k ++ [(zs.getD k 0, zs.getD (k + 1) top - zs.getD k 0)]) := Lib.hid (by
      have hk2 : k < cs.length := by rw [HCL.out]; exact hlt
      rw [List.take_succ_eq_append_getElem hk2]
      congr 2
      have := cutsR_get top zs k hlt
      rw [HCS.out] at this
      simpa [hk2] using this)
    have HTL : Hid ((cs.take k).length = k) := Lib.hid (by rw [List.length_take, HCL.out]; omega)
    obtain ⟨g1, g2, g3, g4, g5⟩ := head_sum h5
    have HH5 := Lib.hid h5
    have HTT : Hid (k + 1 < zs.length ∨ (¬ k + 1 < zs.length ∧ zs.getD (k + 1) top = top)) := Lib.hid (by
      by_cases h : k + 1 < zs.length
      · exact .inl h
      · exact .inr ⟨h, by rw [List.getD_eq_getElem?_getD, List.getElem?_eq_none (by omega)]; rfl⟩)
    have HTN : Hid (k + 1 < zs.length → zs.getD (k + 1) 0 = zs.getD (k + 1) top) := Lib.hid (fun h => by simp [List.getElem?_eq_getElem h])
    have htb : zs.getD (k + 1) top ≤ 1099511627776 := by
      by_cases h : k + 1 < zs.length
      · have := HBZ.out _ (getD_mem (d := 0) h)
        rw [← HTN.out h]; omega
      · rw [List.getD_eq_getElem?_getD, List.getElem?_eq_none (by omega)]; exact h4
    clear hc c2 h5
    generalize zs.getD k 0 = z at *
    generalize zs.getD (k + 1) top = t at *
    obtain ⟨hd, hh⟩ : ∃ h, headH (some ws) z = h := ⟨_, rfl⟩
    rw [hh] at h6 g1 g2 g3 g4 g5
    rw [g1] at h6
    have HH := Lib.hid hh
    clear hh g1
    have e1 : wrap64 (1 + hd.f) = 1 + hd.f := IntWalk.wrap64_in _ ⟨by omega, by omega⟩
    have e2 : wrap64 (1 + hd.f + hd.r) = 1 + hd.f + hd.r := IntWalk.wrap64_in _ ⟨by omega, by omega⟩
    have e3 : wrap64 (t - z) = t - z := IntWalk.wrap64_in _ ⟨by omega, by omega⟩
    have e4 : (1 + hd.f + hd.r != t - z) = false := by rw [bne_eq_false_iff_eq]; omega
    have E := Lib.hid (And.intro e1 (And.intro e2 (And.intro e3 e4)))
    clear e1 e2 e3 e4 h6
    have ib0 : (0 : Int) ≤ (k : Int) := by omega
    have ib1 : (k : Int) < (zs.length : Int) := by omega
    have HXR := Lib.hid hxr
    clear hxr
    by_cases h7 : k + 1 < zs.length
    case' pos =>
      have d7 : decide (k + 1 < zs.length) = true := by simpa using h7
      have c2 := C2.out h7
      rw [HTN.out h7] at c2
      clear C2 HTN HTT
      (refine at_base (W := wr) ?_; intro uq; go_wp2_with fail)
    case' neg =>
      have d7 : decide (k + 1 < zs.length) = false := by simpa using h7
      have ht : t = top := by
        rcases HTT.out with h | h
        · exact absurd h h7
        · exact h.2
      subst ht
      have c2 := True.intro
      clear C2 HTN HTT
      (refine at_base (W := wr) ?_; intro uq; go_wp2_with fail)
    all_goals
      clear d7 h7 c2
      (refine (ohead_is (some ⟨c, 0, none⟩) (some ws) z hd 0 HH.out HH5.out _ (HAR.at (by repeat (first | (with_reducible exact Ext.refl _) | (with_reducible exact ExtOf.ext _) | (with_reducible assumption) | (with_reducible refine Ext.drew ?_) | (with_reducible refine Ext.alloc ?_ _)))) ⟨by omega, by omega⟩).mono ?_; rintro e w2 ⟨rfl, hx⟩; replace hx := Ext.trans (a := wr) (by repeat (first | (with_reducible exact Ext.refl _) | (with_reducible exact ExtOf.ext _) | (with_reducible assumption) | (with_reducible refine Ext.drew ?_) | (with_reducible refine Ext.alloc ?_ _))) hx)
      (replace HO1 := HO1.re hx)
      replace HXR := Lib.hid (HXR.out.trans hx)
      replace c1 : ∀ u : ExtOf w2, u.1.cell? ⟨lb, off + k, none⟩ = some (.int .i64 z) := fun u => c1 ⟨u.1, hx.trans u.2⟩
      have HBH := pers_new w2 #[.int .i64 hd.k, .int .i64 hd.f, .int .i64 hd.r, .bool hd.m, .int .i64 hd.c] 47 _ rfl
      have hxb := (Ext.refl w2).alloc (.cells #[.int .i64 hd.k, .int .i64 hd.f, .int .i64 hd.r, .bool hd.m, .int .i64 hd.c] 47)
      clear hx
      go_wp2_with fail
      (replace HO1 := HO1.re hxb)
      replace HXR := Lib.hid (HXR.out.trans hxb)
      replace c1 : ∀ u : ExtOf (w2.alloc (.cells #[.int .i64 hd.k, .int .i64 hd.f, .int .i64 hd.r, .bool hd.m, .int .i64 hd.c] 47)), u.1.cell? ⟨lb, off + k, none⟩ = some (.int .i64 z) := fun u => c1 ⟨u.1, hxb.trans u.2⟩
      clear hxb
      generalize w2.alloc (.cells #[.int .i64 hd.k, .int .i64 hd.f, .int .i64 hd.r, .bool hd.m, .int .i64 hd.c] 47) = w3 at *
      generalize w2.heap.size = X at *
      have g1 := HBH.cells
      obtain ⟨e1, e2, e3, e4⟩ := E.out
      have hx3 := Ext.refl w3
      (refine wp_region_ext (W := w3) (by kernel_rfl) (by kernel_rfl) (by with_reducible assumption) ?_; (repeat (go_big_quiet_step (fail))); refine wpQuiet_nil ?_; intro w1 hx)
      clear hx3 e1 e2 e4
      (obtain ⟨uq, rfl⟩ : ∃ u : ExtOf w3, w1 = u.1 := ⟨⟨w1, hx⟩, rfl⟩; clear hx; go_wp2_with fail)
      have hx3 := uq.2
      (refine wp_region_ord (W := w3) [(0, true), (1, true), (2, true), (3, true), (4, true), (5, true), (6, true), (7, true), (8, true), (9, true), (10, true), (11, true)] [12] [13, 14] (by kernel_rfl) (by kernel_rfl) (by intro c a d v w h; cases d <;> exact h) (by with_reducible assumption) ?_; simp only [opsOf, List.map_cons, List.map_nil, List.getD_cons_zero, List.getD_cons_succ]; (repeat (go_big_quiet_step (fail))); refine wpQuiet_nil ?_; intro w1 hx; (repeat (refine mid_step (by rfl) ?_; intro K hK; go_simp; refine hK _ _ (by repeat (first | (with_reducible exact Ext.refl _) | (with_reducible assumption) | (with_reducible refine Ext.drew ?_) | (with_reducible refine Ext.alloc ?_ _))) ?_; clear hK K)); refine mid_nil ?_)
      have hB3 := HXR.out.size
      clear hx3 c1 g1 e3
      obtain ⟨uq, rfl⟩ : ∃ u : ExtOf w3, w1 = u.1 := ⟨⟨w1, hx⟩, rfl⟩
      clear hx
      go_wp2_with (at_builtin; refine wpList_app_lit rfl (.tmp 88) (.tmp 100) 45 rfl spanInfo spanCells rfl (by exact HO1.at (by repeat (first | (with_reducible exact Ext.refl _) | (with_reducible exact ExtOf.ext _) | (with_reducible assumption) | (with_reducible refine Ext.drew ?_) | (with_reducible refine Ext.alloc ?_ _)))) [(z, t - z)] 1 _ rfl (k + 1) 1 (by rw [HTL.out]; rfl) rfl _ rfl (by first | rfl | simp) (by omega) (by simp [maxLen]; try omega) (by exact Nat.le_trans hB3 (Ext.size (Ext.trans (a := _) (Ext.refl _) (by repeat (first | (with_reducible exact Ext.refl _) | (with_reducible exact ExtOf.ext _) | (with_reducible assumption) | (with_reducible refine Ext.drew ?_) | (with_reducible refine Ext.alloc ?_ _)))))) ?_; intro A4 cap4 w4 hown4 hgr4 hat4; have HO4 := Lib.hid hown4; have HX4 : Hid (Ext W2 w4) := Lib.hid (Own.below (HO1.here) (Ext.trans HXR.out (by repeat (first | (with_reducible exact Ext.refl _) | (with_reducible exact ExtOf.ext _) | (with_reducible assumption) | (with_reducible refine Ext.drew ?_) | (with_reducible refine Ext.alloc ?_ _)))) hgr4 (by exact Nat.le_trans hB3 (Ext.size (by repeat (first | (with_reducible exact Ext.refl _) | (with_reducible exact ExtOf.ext _) | (with_reducible assumption) | (with_reducible refine Ext.drew ?_) | (with_reducible refine Ext.alloc ?_ _)))))); clear hown4 hgr4 hat4)
      go_roundw
      case rel => exact ⟨A4, cap4, k + 1, by omega, rfl, by go_num, by rw [HTK.out]; exact HO4, HX4.out⟩
      case measure => simp [intOf]; omega
theorem walkParts_fin {v0 v1 : Value} {p q : Int} {w : World} (h0 : IsWords w v0) (h1 : IsSpan v1) (h2 : (Lit.int .i64 p).wf = true) (h4 : (Lit.int .i64 q).wf = true) :
    Calls Try.prog 5 #[v0, v1, .int .i64 p, .int .i64 q] w fun e w' => e = .returned (.bool true) ∧ Ext w w' := by
  obtain ⟨⟨A, cap, ws⟩, rfl, hl⟩ := h0
  obtain ⟨a, s, rfl, -, -⟩ := h1
  have e1 := hl.wt
  exact walkParts_any A cap ws a s p q w hl.row hl.each (by simp only at e1; omega)
end Go.Proofs.Ytkcpfimhbogdcaa

