/- Merged by program (merge.py) out of: CpD. -/
import Derived.Test.YtkcpfimhbogdcaaMo30
import Derived.Test.YtkcpfimhbogdcaaMo33
/- A run is made: copier.New. -/
set_option linter.unusedSimpArgs false
set_option linter.unusedVariables false
namespace Go.Proofs.Ytkcpfimhbogdcaa
open Go.RowKit Go.Shelf
set_option maxRecDepth 100000
set_option maxHeartbeats 2000000
/-- There is no run in nobody's arena. -/
theorem crnew_nil (a s t c d : Int) (v : Value) (V : World) (h : LoN V v) : Calls Try.prog 38 #[.pointer none, .agg #[.int .i64 (a), .int .i64 (s)], .int .i64 t, .agg #[.int .i64 (c), .int .i64 (d)], v] V fun e w' => e = .returned (.tuple #[.pointer none, .int .i64 10]) ∧ Ext V w' := by
  have hx0 := ((Ext.refl V).alloc (.cells #[.int .i64 a, .int .i64 s] 23)).alloc (.cells #[.int .i64 c, .int .i64 d] 23)
  have HX0 := Lib.hid hx0
  have HN := Lib.hid (h.ext hx0)
  have e1 : rdA none (-1) = 0 := by simp [rdA, atA]
  have HR := Lib.hid (fun w => aread_is none none (-1) 0 10 e1 rfl w (.inl ⟨rfl, rfl⟩))
  have HL := Lib.hid (fun w => alen_is none none 0 rfl w (.inl ⟨rfl, rfl⟩))
  clear h hx0 e1
  go_enter Try.func38, Try.ntmps38
  go_wp2_with fail
  generalize (V.alloc (.cells #[.int .i64 a, .int .i64 s] 23)).alloc (.cells #[.int .i64 c, .int .i64 d] 23) = W at *
  refine (HR.out W).mono ?_
  rintro e w1 ⟨rfl, hx⟩
  replace HX0 := Lib.hid (HX0.out.trans hx)
  replace HN := Lib.hid (HN.out.ext hx)
  clear hx
  go_wp2_with fail
  refine (lomark_no v (-1) w1 HN.out).mono ?_
  rintro e w2 ⟨rfl, hx⟩
  replace HX0 := Lib.hid (HX0.out.trans hx)
  clear hx
  go_wp2_with fail
  refine (HL.out w2).mono ?_
  rintro e w3 ⟨rfl, hx⟩
  replace HX0 := Lib.hid (HX0.out.trans hx)
  clear hx
  go_wp2_with fail
  ((try simp only [Exit.inBlock, Exit.then]); refine bodyPost_ret (v := .tuple #[.pointer none, .int .i64 10]) (by simp only [results, Try.results38]; go_simp) rfl ?_)
  exact ⟨rfl, HX0.out.alloc _⟩
section
variable {Bo b p : Nat} {A : Option Addr} {cap : Nat} {ws : List Int} {V : World}
theorem crnew_meets (a s t c d : Int) (hlo : LoO Bo V b p A cap ⟨ws, [], [], 0⟩) (h1 : withinB a s 0 ws.length = true) (h2 : withinB c d 0 ws.length = true) (h3 : meetsB a s c d = true) :
    Calls Try.prog 38 #[.pointer (some ⟨p, 0, none⟩), .agg #[.int .i64 (a), .int .i64 (s)], .int .i64 t, .agg #[.int .i64 (c), .int .i64 (d)], .pointer (some ⟨b, 0, none⟩)] V fun e w' => e = .returned (.tuple #[.pointer none, .int .i64 1]) ∧ Ext V w' := by
  have hN := hlo
  obtain ⟨tA, tc, fA, fc, hl0⟩ := hN
  have hx0 := ((Ext.refl V).alloc (.cells #[.int .i64 a, .int .i64 s] 23)).alloc (.cells #[.int .i64 c, .int .i64 d] 23)
  have hF := pers_new2 V #[.int .i64 a, .int .i64 s] 23 _ rfl (.cells #[.int .i64 c, .int .i64 d] 23)
  have hT := pers_new (V.alloc (.cells #[.int .i64 a, .int .i64 s] 23)) #[.int .i64 c, .int .i64 d] 23 (V.heap.size + 1) (by simp)
  have HX := Lib.hid hx0
  have HLO : Pers V (fun w => LoB Bo w b p A cap tA tc fA fc ⟨ws, [], [], 0⟩) := hl0.pers
  replace HLO := HLO.re hx0
  obtain ⟨z, hz⟩ : ∃ z, rdA (some ws) (-1) = z := ⟨_, rfl⟩
  obtain ⟨n, hn⟩ : ∃ n, ws.length = n := ⟨_, rfl⟩
  rw [hn] at h1 h2
  have HR := Lib.hid (fun w (h : ArP w (some ⟨p, 0, none⟩) (some ws)) => aread_is (some ⟨p, 0, none⟩) (some ws) (-1) z 2 hz (by simp [atA]) w h)
  have HLN := Lib.hid (fun w (h : ArP w (some ⟨p, 0, none⟩) (some ws)) => alen_is (some ⟨p, 0, none⟩) (some ws) (n : Int) (by simp [lenA, hn]) w h)
  have HW1 := Lib.hid (fun w => within_is a s 0 (n : Int) true h1 w)
  have HW2 := Lib.hid (fun w => within_is c d 0 (n : Int) true h2 w)
  have HME := Lib.hid (fun w => meets_is a s c d true h3 w)
  clear hlo hl0 hx0 hz hn h1 h2 h3
  go_enter Try.func38, Try.ntmps38
  go_wp2_with fail
  generalize (V.alloc (.cells #[.int .i64 a, .int .i64 s] 23)).alloc (.cells #[.int .i64 c, .int .i64 d] 23) = W at *
  generalize V.heap.size + 1 = Y at *
  generalize V.heap.size = X at *
  refine (HR.out W HLO.here.ar.p).mono ?_
  rintro e w1 ⟨rfl, hx⟩
  (replace HLO := HLO.re hx; replace hF := hF.re hx; replace hT := hT.re hx; replace HX := Lib.hid (HX.out.trans hx))
  clear hx
  go_wp2_with fail
  refine (lomark_none ⟨ws, [], [], 0⟩ (-1) w1 HLO.here (by simp) rfl).mono ?_
  rintro e w2 ⟨rfl, hx⟩
  (replace HLO := HLO.re hx; replace hF := hF.re hx; replace hT := hT.re hx; replace HX := Lib.hid (HX.out.trans hx))
  clear hx
  go_wp2_with fail
  refine (HLN.out w2 HLO.here.ar.p).mono ?_
  rintro e w3 ⟨rfl, hx⟩
  (replace HLO := HLO.re hx; replace hF := hF.re hx; replace hT := hT.re hx; replace HX := Lib.hid (HX.out.trans hx))
  clear hx
  have gf := (cells_of hF.here).1
  have gt' := (cells_of hT.here).1
  have qf := lt_of_heap hF.here
  have qt := lt_of_heap hT.here
  go_wp2_with fail
  have hy := (Ext.refl w3).alloc (.cells #[.int .i64 0, .int .i64 (n : Int)] 23)
  have hA := pers_new w3 #[.int .i64 0, .int .i64 (n : Int)] 23 _ rfl
  (replace HLO := HLO.re hy; replace hF := hF.re hy; replace hT := hT.re hy; replace HX := Lib.hid (HX.out.trans hy))
  clear hy gf gt' qf qt
  generalize w3.alloc (.cells #[.int .i64 0, .int .i64 (n : Int)] 23) = W4 at *
  generalize w3.heap.size = Z at *
  refine (HW1.out W4).mono ?_
  rintro e w5 ⟨rfl, hx⟩
  (replace HLO := HLO.re hx; replace hF := hF.re hx; replace hT := hT.re hx; replace HX := Lib.hid (HX.out.trans hx); replace hA := hA.re hx)
  clear hx
  have gf := (cells_of hF.here).1
  have gt' := (cells_of hT.here).1
  have ga := (cells_of hA.here).1
  go_wp2_with fail
  clear gf gt' ga
  refine (HW2.out w5).mono ?_
  rintro e w6 ⟨rfl, hx⟩
  (replace HLO := HLO.re hx; replace hF := hF.re hx; replace hT := hT.re hx; replace HX := Lib.hid (HX.out.trans hx); replace hA := hA.re hx)
  clear hx
  have gf := (cells_of hF.here).1
  have gt' := (cells_of hT.here).1
  go_wp2_with fail
  clear gf gt'
  refine (HME.out w6).mono ?_
  rintro e w7 ⟨rfl, hx⟩
  (replace HLO := HLO.re hx; replace hF := hF.re hx; replace hT := hT.re hx; replace HX := Lib.hid (HX.out.trans hx); replace hA := hA.re hx)
  clear hx
  have gf := (cells_of hF.here).1
  have gt' := (cells_of hT.here).1
  go_wp2_with fail
  ((try simp only [Exit.inBlock, Exit.then]); refine bodyPost_ret (v := .tuple #[.pointer none, .int .i64 1]) (by simp only [results, Try.results38]; go_simp) rfl ?_)
  exact ⟨rfl, HX.out⟩
theorem crnew_ok (V0 : World) (a s t c d : Int) (hlo : LoO V0.heap.size V b p A cap ⟨ws, [], [], 0⟩) (hV : Ext V0 V) (h1 : withinB a s 0 ws.length = true) (h2 : withinB c d 0 ws.length = true) (h3 : meetsB a s c d = false) (h4 : a ≤ t) (h5 : t ≤ a + s) :
    Calls Try.prog 38 #[.pointer (some ⟨p, 0, none⟩), .agg #[.int .i64 (a), .int .i64 (s)], .int .i64 t, .agg #[.int .i64 (c), .int .i64 (d)], .pointer (some ⟨b, 0, none⟩)] V fun e w' => ∃ R B, e = .returned (.tuple #[.pointer (some ⟨R, 0, none⟩), .int .i64 0]) ∧ RunV V0 ⟨R, p, b, B, A, cap, ws.length, a, s, t, c, d⟩ ⟨ws, 0, 0, 0, 0, 0, 0⟩ w' ∧ Ext V w' := by
  obtain ⟨m1, m2, m3, m4⟩ := within_iff.1 h1
  obtain ⟨n1, n2, n3, n4⟩ := within_iff.1 h2
  have mb := may_bd m1
  have d0 : decide (t < a) = false := by simp; omega
  have d1 : decide (a + s < t) = false := by simp; omega
  have d2 : wrap64 (a + s) = a + s := IntWalk.wrap64_in _ ⟨by omega, by omega⟩
  have HB := Lib.hid (fun w => new_ok c d w n1)
  have HMY := Lib.hid n1
  have HV := Lib.hid hV
  have HFR : Hid (0 ≤ a ∧ a ≤ t ∧ t ≤ ws.length) := Lib.hid ⟨mb.1, h4, by omega⟩
  have HCD : Hid ((0 : Int) ≤ d) := Lib.hid (by have := may_bd n1; omega)
  have HBB : Hid (∀ w, Ext V w → V0.heap.size ≤ w.heap.size) := Lib.hid (fun w hw => (hV.trans hw).size)
  clear m1 m2 m3 m4 n1 n2 n3 n4 mb h4 h5 hV
  have hN := hlo
  obtain ⟨tA, tc, fA, fc, hl0⟩ := hN
  have hx0 := ((Ext.refl V).alloc (.cells #[.int .i64 a, .int .i64 s] 23)).alloc (.cells #[.int .i64 c, .int .i64 d] 23)
  have hF := pers_new2 V #[.int .i64 a, .int .i64 s] 23 _ rfl (.cells #[.int .i64 c, .int .i64 d] 23)
  have hT := pers_new (V.alloc (.cells #[.int .i64 a, .int .i64 s] 23)) #[.int .i64 c, .int .i64 d] 23 (V.heap.size + 1) (by simp)
  have HX := Lib.hid hx0
  have HLO : Pers V (fun w => LoB V0.heap.size w b p A cap tA tc fA fc ⟨ws, [], [], 0⟩) := hl0.pers
  replace HLO := HLO.re hx0
  obtain ⟨z, hz⟩ : ∃ z, rdA (some ws) (-1) = z := ⟨_, rfl⟩
  obtain ⟨n, hn⟩ : ∃ n, ws.length = n := ⟨_, rfl⟩
  rw [hn] at h1 h2 HFR
  have HNL := Lib.hid hn
  rw [hn]
  have HR := Lib.hid (fun w (h : ArP w (some ⟨p, 0, none⟩) (some ws)) => aread_is (some ⟨p, 0, none⟩) (some ws) (-1) z 2 hz (by simp [atA]) w h)
  have HLN := Lib.hid (fun w (h : ArP w (some ⟨p, 0, none⟩) (some ws)) => alen_is (some ⟨p, 0, none⟩) (some ws) (n : Int) (by simp [lenA, hn]) w h)
  have HW1 := Lib.hid (fun w => within_is a s 0 (n : Int) true h1 w)
  have HW2 := Lib.hid (fun w => within_is c d 0 (n : Int) true h2 w)
  have HME := Lib.hid (fun w => meets_is a s c d false h3 w)
  clear hlo hl0 hx0 hz hn h1 h2 h3
  go_enter Try.func38, Try.ntmps38
  go_wp2_with fail
  generalize (V.alloc (.cells #[.int .i64 a, .int .i64 s] 23)).alloc (.cells #[.int .i64 c, .int .i64 d] 23) = W at *
  generalize V.heap.size + 1 = Y at *
  generalize V.heap.size = X at *
  refine (HR.out W HLO.here.ar.p).mono ?_
  rintro e w1 ⟨rfl, hx⟩
  (replace HLO := HLO.re hx; replace hF := hF.re hx; replace hT := hT.re hx; replace HX := Lib.hid (HX.out.trans hx))
  clear hx
  go_wp2_with fail
  refine (lomark_none ⟨ws, [], [], 0⟩ (-1) w1 HLO.here (by simp) rfl).mono ?_
  rintro e w2 ⟨rfl, hx⟩
  (replace HLO := HLO.re hx; replace hF := hF.re hx; replace hT := hT.re hx; replace HX := Lib.hid (HX.out.trans hx))
  clear hx
  go_wp2_with fail
  refine (HLN.out w2 HLO.here.ar.p).mono ?_
  rintro e w3 ⟨rfl, hx⟩
  (replace HLO := HLO.re hx; replace hF := hF.re hx; replace hT := hT.re hx; replace HX := Lib.hid (HX.out.trans hx))
  clear hx
  have gf := (cells_of hF.here).1
  have gt' := (cells_of hT.here).1
  have qf := lt_of_heap hF.here
  have qt := lt_of_heap hT.here
  go_wp2_with fail
  have hy := (Ext.refl w3).alloc (.cells #[.int .i64 0, .int .i64 (n : Int)] 23)
  have hA := pers_new w3 #[.int .i64 0, .int .i64 (n : Int)] 23 _ rfl
  (replace HLO := HLO.re hy; replace hF := hF.re hy; replace hT := hT.re hy; replace HX := Lib.hid (HX.out.trans hy))
  clear hy gf gt' qf qt
  generalize w3.alloc (.cells #[.int .i64 0, .int .i64 (n : Int)] 23) = W4 at *
  generalize w3.heap.size = Z at *
  refine (HW1.out W4).mono ?_
  rintro e w5 ⟨rfl, hx⟩
  (replace HLO := HLO.re hx; replace hF := hF.re hx; replace hT := hT.re hx; replace HX := Lib.hid (HX.out.trans hx); replace hA := hA.re hx)
  clear hx
  have gf := (cells_of hF.here).1
  have gt' := (cells_of hT.here).1
  have ga := (cells_of hA.here).1
  go_wp2_with fail
  clear gf gt' ga
  refine (HW2.out w5).mono ?_
  rintro e w6 ⟨rfl, hx⟩
  (replace HLO := HLO.re hx; replace hF := hF.re hx; replace hT := hT.re hx; replace HX := Lib.hid (HX.out.trans hx); replace hA := hA.re hx)
  clear hx
  have gf := (cells_of hF.here).1
  have gt' := (cells_of hT.here).1
  go_wp2_with fail
  clear gf gt'
  refine (HME.out w6).mono ?_
  rintro e w7 ⟨rfl, hx⟩
  (replace HLO := HLO.re hx; replace hF := hF.re hx; replace hT := hT.re hx; replace HX := Lib.hid (HX.out.trans hx); replace hA := hA.re hx)
  clear hx
  have gf := (cells_of hF.here).1
  have gt' := (cells_of hT.here).1
  go_wp2_with fail
  refine (HB.out w7).mono ?_
  rintro e w8 ⟨B, rfl, hB1, hB2, hbm, hx⟩
  have HBM := Lib.hid hbm
  have HBG : Hid (V0.heap.size ≤ B) := Lib.hid (Nat.le_trans (HBB.out _ HX.out) hB1)
  (replace HLO := HLO.re hx; replace hF := hF.re hx; replace hT := hT.re hx; replace HX := Lib.hid (HX.out.trans hx); replace hA := hA.re hx)
  clear hx gf gt' hB1 hB2 hbm
  have gf := (cells_of hF.here).1
  have gt' := (cells_of hT.here).1
  go_wp2_with fail
  ((try simp only [Exit.inBlock, Exit.then]); refine bodyPost_ret (v := .tuple #[.pointer (some ⟨w8.heap.size, 0, none⟩), .int .i64 0]) (by simp only [results, Try.results38]; go_simp) rfl ?_)
  have hz := (Ext.refl w8).alloc (.cells #[.bool true, .pointer (some ⟨p, 0, none⟩), .int .i64 a, .int .i64 s, .int .i64 t, .int .i64 c, .int .i64 d, .pointer (some ⟨B, 0, none⟩), .pointer (some ⟨b, 0, none⟩), .int .i64 0, .int .i64 0, .int .i64 0, .int .i64 0, .int .i64 0] 106)
  exact ⟨w8.heap.size, B, rfl, ⟨World.alloc_heap_new _ _, HBM.out.ext hz, ⟨_, _, _, _, HLO.at hz⟩, HV.out.trans (HX.out.trans hz), HNL.out, HBB.out _ HX.out, HBG.out, HMY.out, ⟨Int.le_refl _, HCD.out⟩, HFR.out⟩, HX.out.trans hz⟩
end
end Go.Proofs.Ytkcpfimhbogdcaa

