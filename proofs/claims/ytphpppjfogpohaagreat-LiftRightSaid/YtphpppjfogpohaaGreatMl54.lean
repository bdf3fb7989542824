/- Merged by program (merge.py) out of: LrW. -/
import Derived.Test.YtphpppjfogpohaaGreatMl53
import Derived.Test.YtphpppjfogpohaaGreatMl42
set_option linter.unusedSimpArgs false
set_option linter.unusedVariables false
namespace Go.Proofs.YtphpppjfogpohaaGreat
open Go.RowKit Go.Shelf
set_option maxRecDepth 100000
set_option maxHeartbeats 2000000
theorem range_of {xs : List Int} {n : Nat} (h : xs.length = n) (hx : ∀ j, j < n → xs.getD j 0 = (j : Int)) : xs = (List.range n).map fun (i : Nat) => (i : Int) := by
 refine List.ext_getElem (by simp [h]) fun i h1 h2 => ?_
 have := hx i (by omega)
 rw [getD_get h1] at this
 simp [this]
theorem z_bd {z f r : Int} {n : Nat} (h : 0 ≤ z ∧ z + 1 + f + r ≤ n) (hn : n ≤ 1000) (hf : 0 ≤ f) (hr : 0 ≤ r) : 0 ≤ z ∧ z ≤ 1000 := by omega
theorem liftRight_any (s : StD) (p v : Int) (V : World) (h : StAt V s) (hok : StOk s) (hp : -9223372036854775808 ≤ p ∧ p ≤ 9223372036854775807) (hv : 0 ≤ v ∧ v < 18446744073709551616) :
  Calls Tryz.prog 8 #[.agg #[.int .i64 s.c0, .int .i64 s.c1, .int .i64 s.c2, .int .i64 s.c3, .bool s.snd, .slice s.wA s.ws.length s.wc, .int .i64 s.top, .slice s.tA s.tb.length s.tc, .slice s.fA s.fr.length s.fc, .slice s.sA s.sl.length s.sc], .int .i64 p, .int .u64 v] V fun e w' => e = .returned (.bool true) ∧ Ext V w' := by
 have hB := pers_new V #[.int .i64 s.c0, .int .i64 s.c1, .int .i64 s.c2, .int .i64 s.c3, .bool s.snd, .slice s.wA s.ws.length s.wc, .int .i64 s.top, .slice s.tA s.tb.length s.tc, .slice s.fA s.fr.length s.fc, .slice s.sA s.sl.length s.sc] 34 _ rfl
 have hx0 := (Ext.refl V).alloc (.cells #[.int .i64 s.c0, .int .i64 s.c1, .int .i64 s.c2, .int .i64 s.c3, .bool s.snd, .slice s.wA s.ws.length s.wc, .int .i64 s.top, .slice s.tA s.tb.length s.tc, .slice s.fA s.fr.length s.fc, .slice s.sA s.sl.length s.sc] 34)
 have H0 := h.pers.re hx0
 have HX := zH hx0
 have HOK := zH hok
 have HP := zH hp
 have HV := zH hv
 clear hx0 h hok hp hv
 obtain ⟨b, hb⟩ : ∃ b, bigB s.ws.length s.tb.length s.fr.length s.sl.length = b := ⟨_, rfl⟩
 have HBG := zH hb
 clear hb
 generalize htA : s.tA = tA at *
 have HTA := zH htA
 clear htA
 have k1 := (cells_of hB.here).1
 go_enter Tryz.func8, Tryz.ntmps8
 go_wp2_with fail
 clear k1
 generalize V.alloc (.cells #[.int .i64 s.c0, .int .i64 s.c1, .int .i64 s.c2, .int .i64 s.c3, .bool s.snd, .slice s.wA s.ws.length s.wc, .int .i64 s.top, .slice tA s.tb.length s.tc, .slice s.fA s.fr.length s.fc, .slice s.sA s.sl.length s.sc] 34) = W at *
 generalize V.heap.size = S at *
 have Z := largeK_s s b HBG.out W HOK.out
 rw [HTA.out] at Z
 refine Z.mono ?_
 clear Z
 rintro e w1 ⟨rfl, hx⟩
 (replace hB := hB.re hx; replace H0 := H0.re hx; replace HX := zH (HX.out.trans hx))
 clear hx
 have k1 := (cells_of hB.here).1
 cases b
 rotate_left
 ·go_wp2_with fail
  refine (awake19_any _).mono ?_
  rintro e w2 ⟨rfl, hx⟩
  replace HX := zH (HX.out.trans hx)
  clear hx
  go_wp2_with fail
  go_returns
  exact ⟨rfl, HX.out⟩
 have HLB := zH (LfB.of HOK.out HBG.out)
 obtain ⟨k, hk⟩ : ∃ k, chkS s = k := ⟨_, rfl⟩
 have HK := zH (show checkZ s.c0 s.c1 s.c2 s.c3 s.snd s.ws s.top s.tb s.fr s.sl = k from hk)
 go_wp2_with fail
 clear k1
 have Z := stcheck_s s k HK.out w1 H0.here HLB.out.le HLB.out.b
 rw [HTA.out] at Z
 refine Z.mono ?_
 clear Z
 rintro e w2 ⟨rfl, hx⟩
 (replace hB := hB.re hx; replace H0 := H0.re hx; replace HX := zH (HX.out.trans hx))
 clear hx
 have k1 := (cells_of hB.here).1
 by_cases hc : k = 0
 rotate_left
 ·have d1 : (k != 0) = true := by simpa using hc
  clear hc hk
  go_wp2_with fail
  refine (awake19_any _).mono ?_
  rintro e w3 ⟨rfl, hx⟩
  replace HX := zH (HX.out.trans hx)
  clear hx
  go_wp2_with fail
  go_returns
  exact ⟨rfl, HX.out⟩
 subst hc
 have F := zH (LfOk.of hk)
 have HCK := zH hk
 obtain ⟨os, ho⟩ : ∃ x, objsL s = x := ⟨_, rfl⟩
 have HOS := zH ho
 have HO := zH (show liftO s = os by rw [liftO, if_pos hk, ho])
 have HE := zH (show liftE s = 0 by rw [liftE, if_pos hk])
 have hol : os.length ≤ 1000 := by rw [← ho]; have := objs_len F.out; have := HLB.out.ws; omega
 obtain ⟨u, hu⟩ : ∃ h, usedZ s.c0 s.c1 s.c2 s.c3 s.snd s.top = h := ⟨_, rfl⟩
 have HU := zH hu
 obtain ⟨N, hN⟩ : ∃ N, u + (s.tb.map (·.2)).sum = N := ⟨_, rfl⟩
 have HN := zH hN
 have HMB := zH (many_bd F.out HLB.out.ws)
 rw [hu] at HMB
 have htl : s.tb.length ≤ 1000 := HLB.out.tb
 have hwl : s.ws.length ≤ 1000 := HLB.out.ws
 have hpb := HP.out
 clear hk ho hu hN
 go_wp2_with fail
 clear k1
 have Z := llift_any s w2 H0.here HLB.out
 rw [HO.out, HE.out, HTA.out] at Z
 refine Z.mono ?_
 clear Z
 rintro e w3 ⟨G, A1, cap1, rfl, g1, g2, g3, g4, hl, hx⟩
 obtain ⟨nA, ncap, ns, rA, rcap, rs⟩ := G
 simp only at g2 g3
 (replace hB := hB.re hx; replace H0 := H0.re hx; replace HX := zH (HX.out.trans hx))
 have HG : Pers w3 (fun w => GraphAt w ⟨nA, ncap, ns, rA, rcap, rs⟩) := fun w k => g1.ext k
 have HL1 := pers_row hl
 have HGF := zH (show ns.map nodeV = liftV s ∧ rs = liftQ s from ⟨g2, g3⟩)
 have HGO := zH (lift_graph (H := ⟨nA, ncap, ns, rA, rcap, rs⟩) HLB.out g2 g3 g4)
 have HGR := zH (lift_ok (H := ⟨nA, ncap, ns, rA, rcap, rs⟩) HCK.out HLB.out.ws HLB.out.sl HLB.out.b.wb HLB.out.b.sb g2 g3 g4)
 have HGN := zH (show ns.map nodeV = (objsL s).map (nodeL s.ws (objsL s)) by rw [g2, liftV, if_pos HCK.out])
 have hln : ns.length = os.length := by have := congrArg List.length HGN.out; rw [HOS.out] at this; simpa using this
 have HLN := zH hln
 have hne : ((os.length : Int) != (ns.length : Int)) = false := by rw [hln]; simp
 have hy := (Ext.refl w3).alloc (.cells #[.slice nA ns.length ncap, .slice rA rs.length rcap] 27)
 have hB2 := pers_new w3 #[.slice nA ns.length ncap, .slice rA rs.length rcap] 27 _ rfl
 clear hx g1 g2 g3 g4 hl hln
 go_wp2_with fail
 (replace hB := hB.re hy; replace H0 := H0.re hy; replace HX := zH (HX.out.trans hy); replace HG := HG.re hy; replace HL1 := HL1.re hy)
 clear hy
 generalize w3.alloc (.cells #[.slice nA ns.length ncap, .slice rA rs.length rcap] 27) = W3 at *
 generalize w3.heap.size = B2 at *
 refine (gright_is ⟨nA, ncap, ns, rA, rcap, rs⟩ true HGR.out.2 W3 HG.here HGR.out.1).mono ?_
 rintro e w4 ⟨rfl, hx⟩
 (replace hB := hB.re hx; replace H0 := H0.re hx; replace HX := zH (HX.out.trans hx); replace HG := HG.re hx; replace HL1 := HL1.re hx; replace hB2 := hB2.re hx)
 have k2 := (cells_of hB2.here).1
 clear hx
 go_wp2_with (at_make; refine wpList_makeI rfl (.tmp 49) rfl os.length rfl (by omega) ?_; intro w5 hown hxm; refine Hid.out ?_)
 clear k2 hne
 have HOW := zH hown
 have HXM := zH hxm
 have HXB := zH (Ext.refl w4)
 have HBL := zH (show S < w4.heap.size ∧ B2 < w4.heap.size from ⟨lt_of_heap hB.here, lt_of_heap hB2.here⟩)
 generalize hg : w4.heap.size = g at *
 have HGW := zH hg
 clear hown hxm hg
 refine zH ?_
 have k1 := (cells_of (hB.at HXM.out)).1
 go_wp2_with fail
 have Z := stusedK_s s u HU.out w5
 rw [HTA.out] at Z
 refine Z.mono ?_
 clear Z k1
 rintro e w6 ⟨rfl, hx⟩
 replace HOW := zH (HOW.out.ext hx)
 have HX6 := zH (HXM.out.trans hx)
 clear hx HXM
 go_wp2_with fail
 have HM6 := HX6
 go_loopw [11, 12] (fun mv i wr => ∃ k : Nat, k ≤ s.tb.length ∧ i = .int .i64 k ∧ mv = .int .i64 (u + ((s.tb.take k).map (·.2)).sum) ∧ wr = w6) (fun mv i _ => s.tb.length - (intOf i).toNat)
 case atStart => exact ⟨0, by omega, rfl, by simp, rfl⟩
 case round =>
  obtain ⟨k, hk, rfl, rfl, hwr⟩ := hrel
  subst hwr
  have k1 := (cells_of (hB.at HX6.out)).1
  by_cases hlt : k < s.tb.length
  rotate_left
  ·obtain rfl : k = s.tb.length := by omega
   have hmN : u + ((s.tb.take s.tb.length).map (·.2)).sum = N := by rw [List.take_length]; exact HN.out
   rw [hmN]
   clear hlt hk hmN HM6
   obtain ⟨b0, hb0⟩ : ∃ b, ownZ s.ws.length s.ws os p 0 = b := ⟨_, rfl⟩
   have HB0 := zH hb0
   have hb1 : b0 = (decide (p < 0) || decide ((s.ws.length : Int) ≤ p)) := by rw [← hb0]; simp [ownZ]
   clear hb0
   have hcase : (decide (p < 0) = true ∧ b0 = true) ∨ (decide (p < 0) = false ∧ decide ((s.ws.length : Int) ≤ p) = true ∧ b0 = true) ∨ (decide (p < 0) = false ∧ decide ((s.ws.length : Int) ≤ p) = false ∧ b0 = false) := by
    rw [hb1]
    cases decide (p < 0) <;> cases decide ((s.ws.length : Int) ≤ p) <;> simp
   clear hb1
   rcases hcase with ⟨d1, rfl⟩ | ⟨d1, d2, rfl⟩ | ⟨d1, d2, rfl⟩
   all_goals
    go_wp2_with fail
    clear k1
    (try clear d2)
    clear d1
    go_loopw [13, 14] (fun bv i wr => ∃ (k : Nat) (xs : List Int), k ≤ os.length ∧ i = .int .i64 k ∧ bv = .bool (ownZ s.ws.length s.ws os p k) ∧ xs.length = os.length ∧ Hid (∀ j, j < k → xs.getD j 0 = (j : Int)) ∧ Hid (Own 3 1 intC wr g (.slice (some ⟨g, 0, none⟩) os.length os.length) xs) ∧ Hid (Ext w4 wr)) (fun bv i _ => os.length - (intOf i).toNat)
    case atStart => exact ⟨0, List.replicate os.length 0, by omega, rfl, by rw [HB0.out], by simp, zH (by omega), HOW, HX6⟩
    case round =>
     obtain ⟨k, xs, hk, rfl, rfl, hxl, hxs, hO, hxr⟩ := hrel
     obtain ⟨wq, rfl⟩ : ∃ wq : World, wq = wr := ⟨_, rfl⟩
     by_cases hlt : k < os.length
     rotate_left
     ·obtain rfl : k = os.length := by omega
      have hal := range_of hxl hxs.out
      have hsum : addS sizeN ns xs = N := by
       have h1 := adds_objs (H := ⟨nA, ncap, ns, rA, rcap, rs⟩) F.out HLB.out.ws HGN.out (objsL s).length (Nat.le_refl _)
       rw [List.take_length, words_total F.out, HU.out, HN.out, HOS.out, ← hal, ← hxl, List.take_length] at h1
       exact h1
      have HSU := zH hsum
      have HXL := zH hxl
      have k2 := (cells_of (hB2.at hxr.out)).1
      obtain ⟨b, hb⟩ : ∃ b, ownZ s.ws.length s.ws os p os.length = b := ⟨_, rfl⟩
      have HBO := zH hb
      rw [hb]
      clear hb hsum hal hlt hk hxs HOW
      go_wp2_with fail
      have Z := gwords_any ⟨nA, ncap, ns, rA, rcap, rs⟩ (some ⟨g, 0, none⟩) os.length xs wq (HG.at hxr.out) (own_ints (show Own 3 1 intC wq g (.slice (some ⟨g, 0, none⟩) xs.length os.length) xs from by rw [hxl]; exact hO.out)) (by omega) (by simp only; have := HLN.out; omega)
      rw [hxl, HSU.out] at Z
      have HZ := zH Z
      clear hxl
      refine Z.mono ?_
      clear Z
      rintro e w7 ⟨rfl, hx⟩
      have HX7 := zH (hxr.out.trans hx)
      have HOW := zH (hO.out.ext hx)
      clear hx k2 HZ hO hxr
      have k2 := (cells_of (hB2.at HX7.out)).1
      cases b with
      | true =>
       go_wp2_with fail
       have Z := gwords_any ⟨nA, ncap, ns, rA, rcap, rs⟩ (some ⟨g, 0, none⟩) os.length xs w7 (HG.at HX7.out) (own_ints (show Own 3 1 intC w7 g (.slice (some ⟨g, 0, none⟩) xs.length os.length) xs from by rw [HXL.out]; exact HOW.out)) (by have := HXL.out; omega) (by simp only; have := HLN.out; omega)
       rw [HXL.out, HSU.out] at Z
       refine Z.mono ?_
       clear Z k2
       rintro e w8 ⟨rfl, hx⟩
       replace HX7 := zH (HX7.out.trans hx)
       clear hx
       go_wp2_with fail
       refine (awake19_any _).mono ?_
       rintro e w9 ⟨rfl, hx⟩
       replace HX7 := zH (HX7.out.trans hx)
       clear hx
       go_wp2_with fail
       go_returns
       exact ⟨rfl, HX.out.trans HX7.out⟩
      | false =>
       have hpp := (lift_idle (s := s) (t := { s with ws := s.ws.set p.toNat v }) (v := v) HCK.out (by rw [HOS.out]; exact HBO.out) ⟨rfl, rfl, rfl, rfl, rfl, rfl, rfl, rfl, rfl, rfl⟩).1
       obtain ⟨q, rfl⟩ := Int.eq_ofNat_of_zero_le hpp.1
       have hq : q < s.ws.length := by have := hpp.2; omega
       have HQ := zH hq
       have k1 := (cells_of (hB.at HX7.out)).1
       clear hpp
       go_wp2_with fail
       clear k1 k2
       have Z := scopy_any s w7 (H0.at HX7.out) HLB.out.le
       rw [HTA.out] at Z
       refine Z.mono ?_
       clear Z
       rintro e w8 ⟨t, rfl, ho, hv, hx⟩
       obtain ⟨⟨a1, a2, a3, a4⟩, a5, a6, a7, a8, a9, a10⟩ := eqvS_iff.1 hv
       obtain ⟨c0, c1, c2, c3, sn, wA, ws', wc, top', tA2, tb, tc, fA, fr, fc, sA, sl', sc⟩ := t
       simp only at a1 a2 a3 a4 a5 a6 a7 a8 a9 a10
       subst a1 a2 a3 a4 a5 a6 a7 a8 a9 a10
       obtain ⟨g2, rfl, hg1, hg2⟩ := own_some ho.w (by intro e; rw [e] at hq; simp at hq)
       have z0 := own_cellAt u64Cells (by decide) ho.w rfl q 0 hq _ rfl
       have zf := own_frozen ho.w
       simp only [Nat.mul_one, Nat.add_zero] at z0
       have HX8 := zH (HX7.out.trans hx)
       have iq0 : (0 : Int) ≤ (q : Int) := by omega
       have iq1 : (q : Int) < (s.ws.length : Int) := by omega
       have hy := (((Ext.refl w7).trans hx).setCell (p := ⟨g2, q, none⟩) hg1 (.int .u64 v)).alloc (.cells #[.int .i64 s.c0, .int .i64 s.c1, .int .i64 s.c2, .int .i64 s.c3, .bool s.snd, .slice (some ⟨g2, 0, none⟩) s.ws.length wc, .int .i64 s.top, .slice tA2 s.tb.length tc, .slice fA s.fr.length fc, .slice sA s.sl.length sc] 34)
       have HO9 := zH ((ho.setW rfl q v).ext ((Ext.refl _).alloc (.cells #[.int .i64 s.c0, .int .i64 s.c1, .int .i64 s.c2, .int .i64 s.c3, .bool s.snd, .slice (some ⟨g2, 0, none⟩) s.ws.length wc, .int .i64 s.top, .slice tA2 s.tb.length tc, .slice fA s.fr.length fc, .slice sA s.sl.length sc] 34)))
       have HY := zH hy
       clear hy ho hg1 hx
       go_wp2_with fail
       clear z0 zf iq0 iq1 hg2
       generalize (w8.setCell ⟨g2, q, none⟩ (.int .u64 v)).alloc (.cells #[.int .i64 s.c0, .int .i64 s.c1, .int .i64 s.c2, .int .i64 s.c3, .bool s.snd, .slice (some ⟨g2, 0, none⟩) s.ws.length wc, .int .i64 s.top, .slice tA2 s.tb.length tc, .slice fA s.fr.length fc, .slice sA s.sl.length sc] 34) = W9 at *
       have hid := lift_idle (s := s) (t := (⟨s.c0, s.c1, s.c2, s.c3, s.snd, some ⟨g2, 0, none⟩, s.ws.set q v, wc, s.top, tA2, s.tb, tc, fA, s.fr, fc, sA, s.sl, sc⟩ : StD)) (v := v) HCK.out (by rw [HOS.out]; exact HBO.out) ⟨rfl, rfl, rfl, rfl, rfl, rfl, rfl, rfl, rfl, rfl⟩
       have HL9 := zH (show LfB (⟨s.c0, s.c1, s.c2, s.c3, s.snd, some ⟨g2, 0, none⟩, s.ws.set q v, wc, s.top, tA2, s.tb, tc, fA, s.fr, fc, sA, s.sl, sc⟩ : StD) from by
        have a := HLB.out
        have r1 := own_row HO9.out.t spanCells (by decide)
        have r2 := own_row HO9.out.w u64Cells (by decide)
        exact ⟨by simp only [List.length_set]; exact a.ws, a.tb, a.fr, a.sl, ⟨fun z hz => by
         rcases List.mem_or_eq_of_mem_set hz with h | rfl
         ·exact a.b.wb z h
         ·exact HV.out, a.b.tbb, a.b.sb⟩, r1.2.1, r2.2.2⟩)
       have Z := llift_any (⟨s.c0, s.c1, s.c2, s.c3, s.snd, some ⟨g2, 0, none⟩, s.ws.set q v, wc, s.top, tA2, s.tb, tc, fA, s.fr, fc, sA, s.sl, sc⟩ : StD) W9 HO9.out.at HL9.out
       rw [show liftE (⟨s.c0, s.c1, s.c2, s.c3, s.snd, some ⟨g2, 0, none⟩, s.ws.set q v, wc, s.top, tA2, s.tb, tc, fA, s.fr, fc, sA, s.sl, sc⟩ : StD) = 0 by rw [liftE, if_pos hid.2.1], hid.2.2.1, hid.2.2.2] at Z
       have HID := zH hid.2.1
       simp only [List.length_set] at Z
       clear hid
       refine Z.mono ?_
       clear Z
       rintro e w10 ⟨K, A3, cap3, rfl, g1, g2', g3, g4, hl, hx⟩
       have HX10 := zH (HX7.out.trans (HY.out.trans hx))
       have HKO := zH (lift_graph (s := s) HLB.out g2' g3 g4)
       have HSM := zH (lsame_of (G := ⟨nA, ncap, ns, rA, rcap, rs⟩) HGF.out.1 HGF.out.2 g2' g3)
       have HK10 : Pers w10 (fun w => GraphAt w K) := fun w k => g1.ext k
       have hB3 := pers_new w10 #[.slice K.nA K.ns.length K.ncap, .slice K.rA K.rs.length K.rcap] 27 _ rfl
       have hy := (Ext.refl w10).alloc (.cells #[.slice K.nA K.ns.length K.ncap, .slice K.rA K.rs.length K.rcap] 27)
       have k2 := (cells_of (hB2.at (HX10.out.trans hy))).1
       have q2 := lt_of_heap (hB2.at HX10.out)
       clear hx g1 g2' g3 g4 hl
       go_wp2_with fail
       clear q2 k2
       (replace HK10 := HK10.re hy)
       replace HX10 := zH (HX10.out.trans hy)
       clear hy
       generalize w10.alloc (.cells #[.slice K.nA K.ns.length K.ncap, .slice K.rA K.rs.length K.rcap] 27) = W11 at *
       generalize w10.heap.size = B3 at *
       have k2 := (cells_of (hB2.at HX10.out)).1
       have k3 := (cells_of hB3.here).1
       go_wp2_with fail
       refine (grefsame_is ⟨nA, ncap, ns, rA, rcap, rs⟩ K true W11 HSM.out (HG.at HX10.out) HK10.here HGO.out HKO.out).mono ?_
       rintro e w12 ⟨rfl, hx⟩
       replace HX10 := zH (HX10.out.trans hx)
       clear hx k2 k3
       go_wp2_with fail
       refine (awake19_any _).mono ?_
       rintro e w13 ⟨rfl, hx⟩
       replace HX10 := zH (HX10.out.trans hx)
       clear hx
       go_wp2_with fail
       go_returns
       exact ⟨rfl, HX.out.trans HX10.out⟩
     have HLT := zH hlt
     have hm : os.getD k 0 ∈ objsL s := by rw [HOS.out]; exact getD_mem hlt
     have hsz := size_bd F.out hm
     have hat := F.out.at_ _ hm
     have hbd := F.out.bd _ hm
     obtain ⟨lb, off, rfl, hcl⟩ := HL1.here.get (by omega)
     have z1 := ints_cell hcl hlt
     have hkn : k < ns.length := by rw [HLN.out]; exact hlt
     obtain ⟨nb, no, rfl, hcn⟩ := HG.here.nodes.row.get (by simp only; omega)
     obtain ⟨d0, d1, d2⟩ := nodes_cell hcn hkn
     have hns : sizeN (ns.getD k default) = szZ s.ws (os.getD k 0) := by
      have hv : nodeV (ns.getD k default) = nodeL s.ws (objsL s) (os.getD k 0) := by
       have h1 := congrArg (fun l => l[k]?) HGN.out
       rw [HOS.out] at h1 ⊢
       simp only [List.getElem?_map] at h1
       rw [List.getElem?_eq_getElem hkn, List.getElem?_eq_getElem hlt] at h1
       simp only [Option.map_some, Option.some.injEq] at h1
       rw [getD_get hkn, getD_get hlt]
       exact h1
      rw [node_size hv hbd.2, ← hsz.1]
     have HOK1 : Hid (ownZ s.ws.length s.ws os p (k + 1) = (ownZ s.ws.length s.ws os p k || (decide (os.getD k 0 ≤ p) && decide (p < os.getD k 0 + szZ s.ws (os.getD k 0))))) := zH (own_succ hlt)
     have zc := own_cellAt intCells (by decide) hO.out hxl k 0 (Nat.lt_of_lt_of_eq hlt hxl.symm) _ rfl
     have zf := own_frozen hO.out
     simp only [Nat.mul_one, Nat.add_zero] at zc
     obtain ⟨zo, hzo⟩ : ∃ zo, wq.cell? ⟨g, k, none⟩ = some zo := ⟨_, zc⟩
     clear zc
     have HO2 := zH (own_setI hO.out hxl k (k : Int))
     have hx2 := hxr.out.setCell (p := ⟨g, k, none⟩) (by rw [← HGW.out]; exact Nat.le_refl _) (.int .i64 (k : Int))
     have HLS : Hid ((xs.set k (k : Int)).length = os.length) := zH (by rw [List.length_set]; exact hxl)
     have HXS : Hid (∀ j, j < k + 1 → (xs.set k (k : Int)).getD j 0 = (j : Int)) := zH (fun j hj => by
      rw [getD_set (by omega)]
      by_cases e : k = j
      ·rw [if_pos e, e]
      ·rw [if_neg e]
       exact hxs.out j (by omega))
     obtain ⟨b, hb⟩ : ∃ b, ownZ s.ws.length s.ws os p k = b := ⟨_, rfl⟩
     rw [hb] at HOK1 ⊢
     have ib0 : (0 : Int) ≤ (k : Int) := by omega
     have ib1 : (k : Int) < (os.length : Int) := by omega
     have ib2 : (k : Int) < (ns.length : Int) := by omega
     have hz0 : 0 ≤ os.getD k 0 ∧ os.getD k 0 ≤ 1000 := z_bd hat hwl hbd.2.1.1 hbd.2.2.1
     have hs1 : 1 ≤ szZ s.ws (os.getD k 0) ∧ szZ s.ws (os.getD k 0) ≤ 8193 := hsz.2
     clear hcl hcn hsz hat hbd hm hb hxs hO hlt hk HOW
     generalize os.getD k 0 = z at *
     generalize szZ s.ws z = sz at *
     generalize ns.getD k default = x at *
     obtain ⟨xk, xA, xc, fs, yA, yc, ys⟩ := x
     simp only at d0 d1 d2
     have HSZ := zH (fun W => size_any ⟨xk, xA, xc, fs, yA, yc, ys⟩ W)
     rw [hns] at HSZ
     clear hns
     go_wp2_with fail
     generalize wq.setCell ⟨g, k, none⟩ (.int .i64 (k : Int)) = W5 at *
     have l0 := (pers_blk (hB2.at hx2)).cells
     have l1 := pers_cell (hx2.cell z1)
     have l2 := pers_cell (hx2.cell d0)
     have l3 := pers_cell (hx2.cell d1)
     have l4 := pers_cell (hx2.cell d2)
     have HX2 := zH hx2
     have hs0 : Ext W5 W5 := Ext.refl _
     clear hx2 z1 d0 d1 d2 hzo zf hxr
     cases b with
     | true =>
      (refine wp_region_ext (W := W5) (by kernel_rfl) (by kernel_rfl) (by with_reducible assumption) ?_; (repeat (go_big_quiet_step (first | (go_at_call 35; with_reducible exact Calls.ext_of (HSZ.out _))))); refine wpQuiet_nil ?_; intro w1 hx)
      replace HX2 := zH (HX2.out.trans hx)
      replace HO2 := zH (HO2.out.ext hx)
      clear l0 l1 l2 l3 l4 hs0 hx
      go_wp2_with fail
      go_roundw
      case rel => exact ⟨k + 1, xs.set k (k : Int), by have := HLT.out; omega, by go_num, by rw [HOK1.out]; rfl, HLS.out, HXS, HO2, HX2⟩
      case measure => have := HLT.out; simp [intOf]; omega
     | false =>
      by_cases hzp : z ≤ p
      ·have e1 : decide (z ≤ p) = true := by simpa using hzp
       clear hzp
       (refine wp_region_ext (W := W5) (by kernel_rfl) (by kernel_rfl) (by with_reducible assumption) ?_; (repeat (go_big_quiet_step (first | (go_at_call 35; with_reducible exact Calls.ext_of (HSZ.out _))))); refine wpQuiet_nil ?_; intro w1 hx)
       replace HX2 := zH (HX2.out.trans hx)
       replace HO2 := zH (HO2.out.ext hx)
       clear l0 l1 l2 l3 l4 hs0 hx
       go_wp2_with fail
       go_roundw
       case rel => exact ⟨k + 1, xs.set k (k : Int), by have := HLT.out; omega, by go_num, by rw [HOK1.out, e1]; rfl, HLS.out, HXS, HO2, HX2⟩
       case measure => have := HLT.out; simp [intOf]; omega
      ·have e1 : decide (z ≤ p) = false := by simpa using hzp
       clear hzp
       (refine wp_region_ext (W := W5) (by kernel_rfl) (by kernel_rfl) (by with_reducible assumption) ?_; (repeat (go_big_quiet_step (first | (go_at_call 35; with_reducible exact Calls.ext_of (HSZ.out _))))); refine wpQuiet_nil ?_; intro w1 hx)
       replace HX2 := zH (HX2.out.trans hx)
       replace HO2 := zH (HO2.out.ext hx)
       clear l0 l1 l2 l3 l4 hs0 hx
       go_wp2_with fail
       go_roundw
       case rel => exact ⟨k + 1, xs.set k (k : Int), by have := HLT.out; omega, by go_num, by rw [HOK1.out, e1]; rfl, HLS.out, HXS, HO2, HX2⟩
       case measure => have := HLT.out; simp [intOf]; omega
  have HTL := zH hlt
  obtain ⟨tb, toff, rfl, hct⟩ := (show SpansAt w4 tA s.tb from by rw [← HTA.out]; exact H0.here.t).get (by omega)
  obtain ⟨e0, e1⟩ := spans_cell hct hlt
  have c1 := HX6.out.cell e1
  have hbd := HMB.out.1 _ (getD_mem (d := ((0 : Int), (0 : Int))) hlt)
  have hsk := HMB.out.2 k
  have hsn : u + ((s.tb.take (k + 1)).map (·.2)).sum = u + ((s.tb.take k).map (·.2)).sum + (s.tb.getD k (0, 0)).2 := by
   rw [List.take_add_one, List.getElem?_eq_getElem hlt, Option.toList_some, List.map_append, List.sum_append, getD_get hlt]
   simp
   omega
  have HSN := zH hsn
  have ib0 : (0 : Int) ≤ (k : Int) := by omega
  have ib1 : (k : Int) < (s.tb.length : Int) := by omega
  clear hct e0 e1 hsn hk hlt
  generalize s.tb.getD k (0, 0) = x at *
  obtain ⟨xa, xs⟩ := x
  simp only at c1 hbd HSN
  generalize u + ((s.tb.take k).map (·.2)).sum = m at *
  go_wp2_with fail
  go_roundw
  case rel => exact ⟨k + 1, by have := HTL.out; omega, by go_num, by rw [HSN.out], by first | rfl | trivial⟩
  case measure => have := HTL.out; simp [intOf]; omega
theorem liftRight_fin {v0 : Value} {p q : Int} {w : World} (h0 : IsState w v0) (h1 : (Lit.int .i64 p).wf = true) (h2 : (Lit.int .u64 q).wf = true) : Calls Tryz.prog 8 #[v0, .int .i64 p, .int .u64 q] w fun e w' => e = .returned (.bool true) ∧ Ext w w' := by
 obtain ⟨s, rfl, hs, hok⟩ := h0
 refine liftRight_any s p q w hs hok (i64_bd h1) ?_
 have : 0 ≤ q ∧ q ≤ 18446744073709551615 := by simpa [Lit.wf, IntKind.min, IntKind.max, IntKind.signed, IntKind.bits] using h2
 omega
end Go.Proofs.YtphpppjfogpohaaGreat
