/- Merged by program (merge.py) out of: LwRp, LwRo, LwRs. -/
import Derived.Test.YtphpppjfogpohaaMr22
import Derived.Test.YtphpppjfogpohaaMr24
import Derived.Test.YtphpppjfogpohaaMr18
/- The law ReachPlans. -/
set_option linter.unusedSimpArgs false
set_option linter.unusedVariables false
namespace Go.Proofs.Ytphpppjfogpohaa
open Go.RowKit Go.Shelf
set_option maxRecDepth 100000
set_option maxHeartbeats 2000000
theorem reachPlans_any (G : GraphD) (lim ord blk : Int) (V : World) (hG : GraphAt V G) (oG : GraphOk G) (hl : -9223372036854775808 ≤ lim ∧ lim ≤ 9223372036854775807) (hb : -9223372036854775808 ≤ blk ∧ blk ≤ 9223372036854775807) :
    Calls Try.prog 6 #[.agg #[.slice G.nA G.ns.length G.ncap, .slice G.rA G.rs.length G.rcap], .int .i64 lim, .int .i64 ord, .int .i64 blk] V fun e w' => e = .returned (.bool true) ∧ Ext V w' := by
  have hx0 := (Ext.refl V).alloc (.cells #[.slice G.nA G.ns.length G.ncap, .slice G.rA G.rs.length G.rcap] 25)
  have HBX := Lib.hid (pers_new V #[.slice G.nA G.ns.length G.ncap, .slice G.rA G.rs.length G.rcap] 25 _ rfl)
  have HX := Lib.hid hx0
  have HG := Lib.hid (hG.ext hx0)
  have HOG := Lib.hid oG
  have kB := (cells_of HBX.out.here).1
  clear hx0 hG oG
  cases hL : largeG G with
  | true =>
    go_enter Try.func6, Try.ntmps6
    go_wp2_with fail
    refine (large_is G true hL _ HG.out HOG.out).mono ?_
    rintro e w1 ⟨rfl, hx⟩
    replace HX := Lib.hid (HX.out.trans hx)
    clear hx kB
    go_wp2_with fail
    refine (awake17_any _).mono ?_
    rintro e w2 ⟨rfl, hx⟩
    replace HX := Lib.hid (HX.out.trans hx)
    clear hx
    go_wp2_with fail
    go_returns
    exact ⟨rfl, HX.out⟩
  | false =>
    have HOK : Hid (GOk G) := Lib.hid ⟨HOG.out, hL⟩
    have HSL := Lib.hid (planS_len HOK.out (lim := lim) (ord := ord) (blk := blk) hl hb)
    have HB1 := Lib.hid hl
    have HB2 := Lib.hid hb
    obtain ⟨S, hS⟩ : ∃ S, planS G lim ord blk = S := ⟨_, rfl⟩
    obtain ⟨L, hLL⟩ : ∃ L, planL G lim ord blk = L := ⟨_, rfl⟩
    obtain ⟨c, hc⟩ : ∃ c, planE G lim ord blk = c := ⟨_, rfl⟩
    have HS := Lib.hid hS
    have HL := Lib.hid hLL
    have HC := Lib.hid hc
    rw [hS, hLL] at HSL
    clear hS hLL hc hl hb
    go_enter Try.func6, Try.ntmps6
    go_wp2_with fail
    refine (large_is G false hL _ HG.out HOG.out).mono ?_
    rintro e w1 ⟨rfl, hx⟩
    replace HX := Lib.hid (HX.out.trans hx)
    replace HG := Lib.hid (HG.out.ext hx)
    replace HBX := Lib.hid (HBX.out.re hx)
    clear hx kB
    have kB := (cells_of HBX.out.here).1
    go_wp2_with fail
    clear kB
    refine (plan_is G lim ord blk S L c HS.out HL.out HC.out _ HG.out HOK.out HB1.out HB2.out).mono ?_
    rintro e w2 ⟨A1, c1, A2, c2, rfl, h1, h2, -, hx⟩
    replace HX := Lib.hid (HX.out.trans hx)
    replace HG := Lib.hid (HG.out.ext hx)
    replace HBX := Lib.hid (HBX.out.re hx)
    have I1 := Lib.hid (own_ints h1)
    have I2 := Lib.hid (own_ints h2)
    clear hx h1 h2
    have kB := (cells_of HBX.out.here).1
    go_wp2_with fail
    clear kB
    refine (refplan_is G lim ord blk S L c HS.out HL.out HC.out _ HG.out HOK.out HB1.out HB2.out).mono ?_
    rintro e w3 ⟨A3, c3, A4, c4, rfl, h3, h4, -, hx⟩
    replace HX := Lib.hid (HX.out.trans hx)
    replace I1 := Lib.hid (I1.out.ext hx)
    replace I2 := Lib.hid (I2.out.ext hx)
    have I3 := Lib.hid (own_ints h3)
    have I4 := Lib.hid (own_ints h4)
    clear hx h3 h4
    go_wp2_with fail
    refine (ints_is A1 A3 c1 c3 S S true (by simp) _ (by have := HSL.out; omega) (by have := HSL.out; omega) I1.out I3.out).mono ?_
    rintro e w4 ⟨rfl, hx⟩
    replace HX := Lib.hid (HX.out.trans hx)
    replace I2 := Lib.hid (I2.out.ext hx)
    replace I4 := Lib.hid (I4.out.ext hx)
    clear hx
    go_wp2_with fail
    refine (ints_is A2 A4 c2 c4 L L true (by simp) _ (by have := HSL.out; omega) (by have := HSL.out; omega) I2.out I4.out).mono ?_
    rintro e w5 ⟨rfl, hx⟩
    replace HX := Lib.hid (HX.out.trans hx)
    clear hx
    go_wp2_with fail
    refine (awake17_any _).mono ?_
    rintro e w6 ⟨rfl, hx⟩
    replace HX := Lib.hid (HX.out.trans hx)
    clear hx
    go_wp2_with fail
    go_returns
    exact ⟨rfl, HX.out⟩
theorem i64_of_wf {i : Int} (h : (Lit.int .i64 i).wf = true) : -9223372036854775808 ≤ i ∧ i ≤ 9223372036854775807 := by
  simp [Lit.wf, IntKind.min, IntKind.max, IntKind.signed, IntKind.bits] at h
  omega
theorem reachPlans_fin {v0 : Value} {lim ord blk : Int} {w : World} (h0 : IsGraph w v0) (h1 : (Lit.int .i64 lim).wf = true) (h2 : (Lit.int .i64 ord).wf = true) (h3 : (Lit.int .i64 blk).wf = true) :
    Calls Try.prog 6 #[v0, .int .i64 lim, .int .i64 ord, .int .i64 blk] w fun e w' => e = .returned (.bool true) ∧ Ext w w' := by
  obtain ⟨G, rfl, hG, oG⟩ := h0
  exact reachPlans_any G lim ord blk w hG oG (i64_of_wf h1) (i64_of_wf h3)
end Go.Proofs.Ytphpppjfogpohaa

/- The law ReachOrders. -/
set_option linter.unusedSimpArgs false
set_option linter.unusedVariables false
namespace Go.Proofs.Ytphpppjfogpohaa
open Go.RowKit Go.Shelf
set_option maxRecDepth 100000
set_option maxHeartbeats 2000000
theorem reachOrders_any (G : GraphD) (lim : Int) (V : World) (hG : GraphAt V G) (oG : GraphOk G) (hl : -9223372036854775808 ≤ lim ∧ lim ≤ 9223372036854775807) :
    Calls Try.prog 7 #[.agg #[.slice G.nA G.ns.length G.ncap, .slice G.rA G.rs.length G.rcap], .int .i64 lim] V fun e w' => e = .returned (.bool true) ∧ Ext V w' := by
  have hx0 := (Ext.refl V).alloc (.cells #[.slice G.nA G.ns.length G.ncap, .slice G.rA G.rs.length G.rcap] 25)
  have HBX := Lib.hid (pers_new V #[.slice G.nA G.ns.length G.ncap, .slice G.rA G.rs.length G.rcap] 25 _ rfl)
  have HX := Lib.hid hx0
  have HG := Lib.hid (hG.ext hx0)
  have HOG := Lib.hid oG
  have kB := (cells_of HBX.out.here).1
  clear hx0 hG oG
  cases hL : largeG G with
  | true =>
    go_enter Try.func7, Try.ntmps7
    go_wp2_with fail
    refine (large_is G true hL _ HG.out HOG.out).mono ?_
    rintro e w1 ⟨rfl, hx⟩
    replace HX := Lib.hid (HX.out.trans hx)
    clear hx kB
    go_wp2_with fail
    refine (awake17_any _).mono ?_
    rintro e w2 ⟨rfl, hx⟩
    replace HX := Lib.hid (HX.out.trans hx)
    clear hx
    go_wp2_with fail
    go_returns
    exact ⟨rfl, HX.out⟩
  | false =>
    have oK : GOk G := ⟨HOG.out, hL⟩
    have HOK : Hid (GOk G) := Lib.hid oK
    obtain ⟨e1, s1, -⟩ := plan_great oK 0
    obtain ⟨e2, s2, -⟩ := plan_great oK 1
    have hr := reach_rise oK
    have hl0 := planS_len oK (lim := 1000000) (ord := 0) (blk := 1) ⟨by decide, by decide⟩ ⟨by decide, by decide⟩
    have hl1 := planS_len oK (lim := 1000000) (ord := 1) (blk := 1) ⟨by decide, by decide⟩ ⟨by decide, by decide⟩
    have hl2 := planS_len oK (lim := lim) (ord := 0) (blk := 1) hl ⟨by decide, by decide⟩
    have hrl := riseL_len G.ns.length (planS G 1000000 0 1)
    have hn : G.ns.length ≤ 60 := by have := hL; simp [largeG] at this; omega
    have ha := addS_app fieldsN G.ns (planS G lim 0 1) (planL G lim 0 1)
    obtain ⟨S, hS⟩ : ∃ S, planS G 1000000 0 1 = S := ⟨_, rfl⟩
    obtain ⟨D, hD⟩ : ∃ D, planS G 1000000 1 1 = D := ⟨_, rfl⟩
    obtain ⟨R, hR⟩ : ∃ R, ordZ (riseL G.ns.length (planS G 1000000 0 1)) = R := ⟨_, rfl⟩
    obtain ⟨c, hc⟩ : ∃ c, planE G 1000000 0 1 = c := ⟨_, rfl⟩
    have hc1 : planE G 1000000 1 1 = c := by rw [← hc]; unfold planE argB; rfl
    obtain ⟨x, hxx⟩ : ∃ x, addS sizeN G.ns (planS G lim 0 1) = x := ⟨_, rfl⟩
    obtain ⟨y, hyy⟩ : ∃ y, addS sizeN G.ns (planL G lim 0 1) = y := ⟨_, rfl⟩
    obtain ⟨f1, hf1⟩ : ∃ f, addS fieldsN G.ns (planS G lim 0 1) = f := ⟨_, rfl⟩
    obtain ⟨f2, hf2⟩ : ∃ f, addS fieldsN G.ns (planL G lim 0 1) = f := ⟨_, rfl⟩
    obtain ⟨f3, hf3⟩ : ∃ f, addS fieldsN G.ns (planS G lim 0 1 ++ planL G lim 0 1) = f := ⟨_, rfl⟩
    obtain ⟨d, hd⟩ : ∃ d, planE G lim 0 1 = d := ⟨_, rfl⟩
    have HF : Hid (wrap64 (f1 + f2) = f3) := Lib.hid (by rw [← hf1, ← hf2, ← hf3, ha])
    have HA : Hid (∀ W, GraphAt W G → Calls Try.prog 23 #[.agg #[.slice G.nA G.ns.length G.ncap, .slice G.rA G.rs.length G.rcap]] W (RetFl W S c)) := Lib.hid (fun W h => breadth_is G S c (s1.trans hS) (e1.trans hc) W h oK)
    have HB : Hid (∀ W, GraphAt W G → Calls Try.prog 24 #[.agg #[.slice G.nA G.ns.length G.ncap, .slice G.rA G.rs.length G.rcap], .int .i64 0] W (RetFl W S c)) := Lib.hid (fun W h => refflat_is G 0 S c hS hc W h oK)
    have HC : Hid (∀ W, GraphAt W G → Calls Try.prog 25 #[.agg #[.slice G.nA G.ns.length G.ncap, .slice G.rA G.rs.length G.rcap]] W (RetFl W D c)) := Lib.hid (fun W h => depth_is G D c (s2.trans hD) (e2.trans hc1) W h oK)
    have HD : Hid (∀ W, GraphAt W G → Calls Try.prog 24 #[.agg #[.slice G.nA G.ns.length G.ncap, .slice G.rA G.rs.length G.rcap], .int .i64 1] W (RetFl W D c)) := Lib.hid (fun W h => refflat_is G 1 D c hD hc1 W h oK)
    have HE : Hid (∀ W, GraphAt W G → Calls Try.prog 26 #[.agg #[.slice G.nA G.ns.length G.ncap, .slice G.rA G.rs.length G.rcap]] W (RetFl W R c)) := Lib.hid (fun W h => reach_is G R c (hr.trans hR) (e2.trans hc1) W h oK)
    have HFF : Hid (∀ W, GraphAt W G → Calls Try.prog 27 #[.agg #[.slice G.nA G.ns.length G.ncap, .slice G.rA G.rs.length G.rcap]] W (RetFl W R c)) := Lib.hid (fun W h => refreach_is G S R c hS (by rw [← hS]; exact hR) hc W h oK)
    have HLV : Hid (∀ W, GraphAt W G → Calls Try.prog 28 #[.agg #[.slice G.nA G.ns.length G.ncap, .slice G.rA G.rs.length G.rcap], .int .i64 lim] W fun e w' => e = .returned (.tuple #[.int .i64 x, .int .i64 y, .int .i64 f3, .int .i64 d]) ∧ Ext W w') := Lib.hid (fun W h => live_is G lim x y f3 d hxx hyy hf3 hd W h oK hl)
    have HRV : Hid (∀ W, GraphAt W G → Calls Try.prog 29 #[.agg #[.slice G.nA G.ns.length G.ncap, .slice G.rA G.rs.length G.rcap], .int .i64 lim] W fun e w' => e = .returned (.tuple #[.int .i64 x, .int .i64 y, .int .i64 f3, .int .i64 d]) ∧ Ext W w') := Lib.hid (fun W h => by
      have Z := reflive_is G lim x y f1 f2 d hxx hyy hf1 hf2 hd W h oK hl
      rw [HF.out] at Z
      exact Z)
    rw [hS] at hl0
    rw [hD] at hl1
    have hR2 : R.length ≤ 60 := by rw [← hR, ordZ_len]; omega
    have HSL : Hid (S.length ≤ 60 ∧ D.length ≤ 60 ∧ R.length ≤ 60) := Lib.hid ⟨by omega, by omega, hR2⟩
    clear e1 s1 e2 s2 hr hl0 hl1 hl2 hrl hn ha hS hD hR hc hc1 hxx hyy hf1 hf2 hf3 hd HF hR2 oK hl
    go_enter Try.func7, Try.ntmps7
    go_wp2_with fail
    refine (large_is G false hL _ HG.out HOG.out).mono ?_
    rintro e w1 ⟨rfl, hx⟩
    replace HX := Lib.hid (HX.out.trans hx)
    replace HG := Lib.hid (HG.out.ext hx)
    replace HBX := Lib.hid (HBX.out.re hx)
    clear hx kB
    have kB := (cells_of HBX.out.here).1
    go_wp2_with fail
    clear kB
    refine (HA.out _ HG.out).mono ?_
    rintro e w2 ⟨A1, c1, rfl, h1, hx⟩
    replace HX := Lib.hid (HX.out.trans hx)
    replace HG := Lib.hid (HG.out.ext hx)
    replace HBX := Lib.hid (HBX.out.re hx)
    have I1 := Lib.hid (own_ints h1)
    clear hx h1
    have kB := (cells_of HBX.out.here).1
    go_wp2_with fail
    clear kB
    refine (HB.out _ HG.out).mono ?_
    rintro e w3 ⟨A2, c2, rfl, h2, hx⟩
    replace HX := Lib.hid (HX.out.trans hx)
    replace HG := Lib.hid (HG.out.ext hx)
    replace HBX := Lib.hid (HBX.out.re hx)
    replace I1 := Lib.hid (I1.out.ext hx)
    have I2 := Lib.hid (own_ints h2)
    clear hx h2
    have kB := (cells_of HBX.out.here).1
    go_wp2_with fail
    clear kB
    refine (HC.out _ HG.out).mono ?_
    rintro e w4 ⟨A3, c3, rfl, h3, hx⟩
    replace HX := Lib.hid (HX.out.trans hx)
    replace HG := Lib.hid (HG.out.ext hx)
    replace HBX := Lib.hid (HBX.out.re hx)
    replace I1 := Lib.hid (I1.out.ext hx)
    replace I2 := Lib.hid (I2.out.ext hx)
    have I3 := Lib.hid (own_ints h3)
    clear hx h3
    have kB := (cells_of HBX.out.here).1
    go_wp2_with fail
    clear kB
    refine (HD.out _ HG.out).mono ?_
    rintro e w5 ⟨A4, c4, rfl, h4, hx⟩
    replace HX := Lib.hid (HX.out.trans hx)
    replace HG := Lib.hid (HG.out.ext hx)
    replace HBX := Lib.hid (HBX.out.re hx)
    replace I1 := Lib.hid (I1.out.ext hx)
    replace I2 := Lib.hid (I2.out.ext hx)
    replace I3 := Lib.hid (I3.out.ext hx)
    have I4 := Lib.hid (own_ints h4)
    clear hx h4
    have kB := (cells_of HBX.out.here).1
    go_wp2_with fail
    clear kB
    refine (HE.out _ HG.out).mono ?_
    rintro e w6 ⟨A5, c5, rfl, h5, hx⟩
    replace HX := Lib.hid (HX.out.trans hx)
    replace HG := Lib.hid (HG.out.ext hx)
    replace HBX := Lib.hid (HBX.out.re hx)
    replace I1 := Lib.hid (I1.out.ext hx)
    replace I2 := Lib.hid (I2.out.ext hx)
    replace I3 := Lib.hid (I3.out.ext hx)
    replace I4 := Lib.hid (I4.out.ext hx)
    have I5 := Lib.hid (own_ints h5)
    clear hx h5
    have kB := (cells_of HBX.out.here).1
    go_wp2_with fail
    clear kB
    refine (HFF.out _ HG.out).mono ?_
    rintro e w7 ⟨A6, c6, rfl, h6, hx⟩
    replace HX := Lib.hid (HX.out.trans hx)
    replace HG := Lib.hid (HG.out.ext hx)
    replace HBX := Lib.hid (HBX.out.re hx)
    replace I1 := Lib.hid (I1.out.ext hx)
    replace I2 := Lib.hid (I2.out.ext hx)
    replace I3 := Lib.hid (I3.out.ext hx)
    replace I4 := Lib.hid (I4.out.ext hx)
    replace I5 := Lib.hid (I5.out.ext hx)
    have I6 := Lib.hid (own_ints h6)
    clear hx h6
    have kB := (cells_of HBX.out.here).1
    go_wp2_with fail
    clear kB
    refine (HLV.out _ HG.out).mono ?_
    rintro e w8 ⟨rfl, hx⟩
    replace HX := Lib.hid (HX.out.trans hx)
    replace HG := Lib.hid (HG.out.ext hx)
    replace HBX := Lib.hid (HBX.out.re hx)
    replace I1 := Lib.hid (I1.out.ext hx)
    replace I2 := Lib.hid (I2.out.ext hx)
    replace I3 := Lib.hid (I3.out.ext hx)
    replace I4 := Lib.hid (I4.out.ext hx)
    replace I5 := Lib.hid (I5.out.ext hx)
    replace I6 := Lib.hid (I6.out.ext hx)
    clear hx
    have kB := (cells_of HBX.out.here).1
    go_wp2_with fail
    clear kB
    refine (HRV.out _ HG.out).mono ?_
    rintro e w9 ⟨rfl, hx⟩
    replace HX := Lib.hid (HX.out.trans hx)
    replace I1 := Lib.hid (I1.out.ext hx)
    replace I2 := Lib.hid (I2.out.ext hx)
    replace I3 := Lib.hid (I3.out.ext hx)
    replace I4 := Lib.hid (I4.out.ext hx)
    replace I5 := Lib.hid (I5.out.ext hx)
    replace I6 := Lib.hid (I6.out.ext hx)
    clear hx HG HBX
    go_wp2_with fail
    refine (ints_is A1 A2 c1 c2 S S true (by simp) _ (by have := HSL.out; omega) (by have := HSL.out; omega) I1.out I2.out).mono ?_
    rintro e w10 ⟨rfl, hx⟩
    replace HX := Lib.hid (HX.out.trans hx)
    replace I3 := Lib.hid (I3.out.ext hx)
    replace I4 := Lib.hid (I4.out.ext hx)
    replace I5 := Lib.hid (I5.out.ext hx)
    replace I6 := Lib.hid (I6.out.ext hx)
    clear hx
    go_wp2_with fail
    refine (ints_is A3 A4 c3 c4 D D true (by simp) _ (by have := HSL.out; omega) (by have := HSL.out; omega) I3.out I4.out).mono ?_
    rintro e w11 ⟨rfl, hx⟩
    replace HX := Lib.hid (HX.out.trans hx)
    replace I5 := Lib.hid (I5.out.ext hx)
    replace I6 := Lib.hid (I6.out.ext hx)
    clear hx
    go_wp2_with fail
    refine (ints_is A5 A6 c5 c6 R R true (by simp) _ (by have := HSL.out; omega) (by have := HSL.out; omega) I5.out I6.out).mono ?_
    rintro e w12 ⟨rfl, hx⟩
    replace HX := Lib.hid (HX.out.trans hx)
    clear hx
    go_wp2_with fail
    refine (awake17_any _).mono ?_
    rintro e w13 ⟨rfl, hx⟩
    replace HX := Lib.hid (HX.out.trans hx)
    clear hx
    go_wp2_with fail
    go_returns
    exact ⟨rfl, HX.out⟩
theorem reachOrders_fin {v0 : Value} {lim : Int} {w : World} (h0 : IsGraph w v0) (h1 : (Lit.int .i64 lim).wf = true) :
    Calls Try.prog 7 #[v0, .int .i64 lim] w fun e w' => e = .returned (.bool true) ∧ Ext w w' := by
  obtain ⟨G, rfl, hG, oG⟩ := h0
  exact reachOrders_any G lim w hG oG (i64_of_wf h1)
end Go.Proofs.Ytphpppjfogpohaa

/- The law ReachSame. -/
set_option linter.unusedSimpArgs false
set_option linter.unusedVariables false
namespace Go.Proofs.Ytphpppjfogpohaa
open Go.RowKit Go.Shelf
set_option maxRecDepth 100000
set_option maxHeartbeats 2000000
theorem rmem_ne {l : List Int} {x : Int} (h : ∀ i, i < l.length → x ≠ l.getD i 0) : decide (x ∈ l) = false := rmem_none fun i hi e => h i hi e.symm
theorem rmem_eq {l : List Int} {x : Int} {k : Nat} (hk : k < l.length) (h : x = l.getD k 0) : decide (x ∈ l) = true := rmem_at hk h.symm
theorem rstarts_any (A : Option Addr) (cap : Nat) (zs : List Int) (v : Int) (W : World) (hlen : zs.length ≤ 9223372036854775807) (hl : IntsAt W A zs) :
    Calls Try.prog 30 #[.slice A zs.length cap, .int .i64 v] W fun e w' => e = .returned (.bool (decide (v ∈ zs))) ∧ Ext W w' := by
  have HL := Lib.hid hl
  clear hl
  go_enter Try.func30, Try.ntmps30
  go_wp2_with fail
  go_loopw [5] (fun i wr => ∃ k : Nat, k ≤ zs.length ∧ i = .int .i64 k ∧ Ext W wr ∧ Hid (∀ i, i < k → v ≠ zs.getD i 0)) (fun i _ => zs.length - (intOf i).toNat)
  case atStart => exact ⟨0, by omega, rfl, Ext.refl _, Lib.hid (by omega)⟩
  case round =>
    obtain ⟨k, hk, rfl, hxr, hq⟩ := hrel
    by_cases hlt : k < zs.length
    rotate_left
    · have HR := Lib.hid (rmem_ne fun i hi => hq.out i (by omega))
      clear hq
      go_wp2_with fail
      go_ret
      exact ⟨ret_bool HR.out.symm, hxr⟩
    obtain ⟨lb, off, rfl, hc⟩ := HL.out.get (by omega)
    have c1 := hxr.cell (ints_cell hc hlt)
    have HS := Lib.hid (fun (h : v ≠ zs.getD k 0) => (fun i (hi : i < k + 1) => by
      rcases Nat.lt_or_ge i k with h' | h'
      · exact hq.out i h'
      · obtain rfl : i = k := by omega
        exact h : ∀ i, i < k + 1 → v ≠ zs.getD i 0))
    have HD := Lib.hid (fun (h : v = zs.getD k 0) => (rmem_eq hlt h))
    clear hc HL hq
    generalize zs.getD k 0 = x at *
    have ib1 : (k : Int) < (zs.length : Int) := by omega
    by_cases he : v = x
    · have HE := Lib.hid (HD.out he)
      have hb : (x == v) = true := by rw [beq_iff_eq]; exact he.symm
      clear he HD HS
      go_wp2_with fail
      go_ret
      exact ⟨ret_bool HE.out.symm, hxr⟩
    · have hb : (x == v) = false := by rw [beq_eq_false_iff_ne]; exact fun h => he h.symm
      have HE := Lib.hid (HS.out he)
      clear he HD HS
      go_wp2_with fail
      go_roundw
      case rel => exact ⟨k + 1, by omega, by go_num, hxr, HE⟩
      case measure => simp [intOf]; omega
theorem rstarts_is (A : Option Addr) (cap : Nat) (zs : List Int) (v : Int) (b : Bool) (hb : decide (v ∈ zs) = b) (W : World) (hlen : zs.length ≤ 9223372036854775807) (hl : IntsAt W A zs) :
    Calls Try.prog 30 #[.slice A zs.length cap, .int .i64 v] W fun e w' => e = .returned (.bool b) ∧ Ext W w' := by
  subst hb; exact rstarts_any A cap zs v W hlen hl
theorem rise_one {k : Nat} {M : List Int} (h : riseL (k + 1) M = riseL k M ++ (if decide ((k : Int) ∈ M) then [k] else [])) (hin : decide ((k : Int) ∈ M) = true) (hl : (riseL k M).length ≤ 1000) : wrap64 (((riseL k M).length : Int) + 1) = ((riseL (k + 1) M).length : Nat) := by
  rw [h, hin]
  simp only [if_pos, List.length_append, List.length_singleton]
  rw [IntWalk.wrap64_in _ ⟨by omega, by omega⟩]
  omega
theorem rise_none {k : Nat} {M : List Int} (h : riseL (k + 1) M = riseL k M ++ (if decide ((k : Int) ∈ M) then [k] else [])) (hin : decide ((k : Int) ∈ M) = false) (hl : (riseL k M).length ≤ 1000) : wrap64 ((riseL k M).length : Int) = ((riseL (k + 1) M).length : Nat) := by
  rw [h, hin]
  simp only [Bool.false_eq_true, if_false, List.append_nil]
  rw [IntWalk.wrap64_in _ ⟨by omega, by omega⟩]
theorem app_getL {S L : List Int} {k : Nat} (h : k < S.length) : (S ++ L).getD k 0 = S.getD k 0 := getD_appL h
theorem app_getR {S L : List Int} {k : Nat} : (S ++ L).getD (S.length + k) 0 = L.getD k 0 := by
  rw [getD_appR (by omega)]
  congr 1
  omega
theorem reachSame_any (G : GraphD) (lim ord blk : Int) (V : World) (hG : GraphAt V G) (oG : GraphOk G) (hl : -9223372036854775808 ≤ lim ∧ lim ≤ 9223372036854775807) (hb : -9223372036854775808 ≤ blk ∧ blk ≤ 9223372036854775807) :
    Calls Try.prog 8 #[.agg #[.slice G.nA G.ns.length G.ncap, .slice G.rA G.rs.length G.rcap], .int .i64 lim, .int .i64 ord, .int .i64 blk] V fun e w' => e = .returned (.bool true) ∧ Ext V w' := by
  have hx0 := (Ext.refl V).alloc (.cells #[.slice G.nA G.ns.length G.ncap, .slice G.rA G.rs.length G.rcap] 25)
  have HBX := Lib.hid (pers_new V #[.slice G.nA G.ns.length G.ncap, .slice G.rA G.rs.length G.rcap] 25 _ rfl)
  have HX := Lib.hid hx0
  have HG := Lib.hid (hG.ext hx0)
  have HOG := Lib.hid oG
  have kB := (cells_of HBX.out.here).1
  clear hx0 hG oG
  cases hL : largeG G with
  | true =>
    go_enter Try.func8, Try.ntmps8
    go_wp2_with fail
    refine (large_is G true hL _ HG.out HOG.out).mono ?_
    rintro e w1 ⟨rfl, hx⟩
    replace HX := Lib.hid (HX.out.trans hx)
    clear hx kB
    go_wp2_with fail
    refine (awake17_any _).mono ?_
    rintro e w2 ⟨rfl, hx⟩
    replace HX := Lib.hid (HX.out.trans hx)
    clear hx
    go_wp2_with fail
    go_returns
    exact ⟨rfl, HX.out⟩
  | false =>
  have oK : GOk G := ⟨HOG.out, hL⟩
  have HOK : Hid (GOk G) := Lib.hid oK
  have HB1 := Lib.hid hl
  have HB2 := Lib.hid hb
  by_cases he : planE G lim ord blk = 0
  rotate_left
  · have HS : Hid (planS G lim ord blk = []) := Lib.hid (by unfold planS; rw [if_neg he])
    have HL : Hid (planL G lim ord blk = []) := Lib.hid (by unfold planL; rw [if_neg he])
    obtain ⟨c, hc⟩ : ∃ c, planE G lim ord blk = c := ⟨_, rfl⟩
    have HC := Lib.hid hc
    rw [hc] at he
    have dc : (c == 0) = false := by simpa using he
    have dd : (!c == 0) = true := by rw [dc]; rfl
    clear hl hb he hc oK
    go_enter Try.func8, Try.ntmps8
    go_wp2_with fail
    refine (large_is G false hL _ HG.out HOG.out).mono ?_
    rintro e w1 ⟨rfl, hx⟩
    replace HX := Lib.hid (HX.out.trans hx)
    replace HG := Lib.hid (HG.out.ext hx)
    replace HBX := Lib.hid (HBX.out.re hx)
    clear hx kB
    have kB := (cells_of HBX.out.here).1
    go_wp2_with fail
    clear kB
    refine (plan_is G lim ord blk [] [] c HS.out HL.out HC.out _ HG.out HOK.out HB1.out HB2.out).mono ?_
    rintro e w2 ⟨A1, c1, A2, c2, rfl, -, -, -, hx⟩
    replace HX := Lib.hid (HX.out.trans hx)
    clear hx
    simp only [List.length_nil]
    go_wp2_with fail
    refine (awake17_any _).mono ?_
    rintro e w3 ⟨rfl, hx⟩
    replace HX := Lib.hid (HX.out.trans hx)
    clear hx
    go_wp2_with fail
    go_returns
    exact ⟨rfl, HX.out⟩
  have hM := metG oK hl.2 hb.2 he
  have hRR := reach_of oK hl.2 hb.2 he
  have hR0 : rightG G = true := by
    unfold planE at he
    split at he
    · assumption
    · exact absurd he (by decide)
  have he2 : planE G 1048576 1 1 = 0 := planE_ord he (by decide)
  have hlen := planS_len oK (lim := lim) (ord := ord) (blk := blk) hl hb
  have hn : G.ns.length ≤ 60 ∧ G.rs.length ≤ 100 := by have := hL; simp [largeG] at this; omega
  obtain ⟨S, hS⟩ : ∃ S, planS G lim ord blk = S := ⟨_, rfl⟩
  obtain ⟨L, hLL⟩ : ∃ L, planL G lim ord blk = L := ⟨_, rfl⟩
  obtain ⟨R, hR⟩ : ∃ R, sortZ (planS G 1048576 1 1) = R := ⟨_, rfl⟩
  rw [hS, hLL] at hM hRR hlen
  rw [hR] at hRR
  have HS := Lib.hid hS
  have HL := Lib.hid hLL
  have HC := Lib.hid he
  have HR := Lib.hid hR
  have HE2 := Lib.hid he2
  have HM := Lib.hid hM
  have HRR := Lib.hid hRR
  have HRG := Lib.hid hR0
  have HLEN := Lib.hid hlen
  have HN := Lib.hid hn
  have HRN : Hid (R.length ≤ 60) := Lib.hid (by rw [hRR, ordZ_len]; have := riseL_len G.ns.length (S ++ L); omega)
  have hn60 : G.ns.length ≤ 60 := hn.1
  have hs60 : S.length ≤ 60 := by omega
  have hl60 : L.length ≤ 60 := by omega
  have HNF : Hid (∀ x ∈ G.ns, x.fields.length ≤ 4096) := Lib.hid (fun x hx => by
    have := ((right_parts hR0).1 x hx).1
    simp [okN] at this
    omega)
  clear hS hLL hR he he2 hM hRR hR0 hlen hl hb oK
  go_enter Try.func8, Try.ntmps8
  go_wp2_with fail
  refine (large_is G false hL _ HG.out HOG.out).mono ?_
  rintro e w1 ⟨rfl, hx⟩
  replace HX := Lib.hid (HX.out.trans hx)
  replace HG := Lib.hid (HG.out.ext hx)
  replace HBX := Lib.hid (HBX.out.re hx)
  clear hx kB
  have kB := (cells_of HBX.out.here).1
  go_wp2_with fail
  clear kB
  refine (plan_is G lim ord blk S L 0 HS.out HL.out HC.out _ HG.out HOK.out HB1.out HB2.out).mono ?_
  rintro e w2 ⟨A1, c1, A2, c2, rfl, h1, h2, -, hx⟩
  replace HX := Lib.hid (HX.out.trans hx)
  replace HG := Lib.hid (HG.out.ext hx)
  replace HBX := Lib.hid (HBX.out.re hx)
  have I1 := Lib.hid (own_ints h1)
  have I2 := Lib.hid (own_ints h2)
  clear hx h1 h2
  have kB := (cells_of HBX.out.here).1
  go_wp2_with fail
  clear kB
  refine (reach_is G R 0 HR.out HE2.out _ HG.out HOK.out).mono ?_
  rintro e w3 ⟨A5, c5, rfl, h5, hx⟩
  replace HX := Lib.hid (HX.out.trans hx)
  replace HG := Lib.hid (HG.out.ext hx)
  replace HBX := Lib.hid (HBX.out.re hx)
  replace I1 := Lib.hid (I1.out.ext hx)
  replace I2 := Lib.hid (I2.out.ext hx)
  have I5 := Lib.hid (own_ints h5)
  clear hx h5
  have kB := (cells_of HBX.out.here).1
  go_wp2_with (at_make; refine wpList_makeI rfl (.tmp 52) rfl G.ns.length rfl (by omega) ?_; intro w4 hown hxm; have HO := Lib.hid hown; have HXM := Lib.hid hxm; clear hown hxm)
  generalize hX3 : w3.heap.size = X at *
  have HX3 := Lib.hid hX3
  have HN0 : Hid (Own 3 1 intC w4 X (.slice (some ⟨X, 0, none⟩) G.ns.length G.ns.length) (cntZ G.ns.length ((S ++ L).take 0))) := Lib.hid (by
    rw [List.take_zero, cntZ_nil]; exact HO.out)
  clear kB HO hX3
  go_loopw [15] (fun i wr => ∃ k : Nat, k ≤ S.length ∧ i = .int .i64 k ∧ Hid (Ext w3 wr) ∧ Hid (Own 3 1 intC wr X (.slice (some ⟨X, 0, none⟩) G.ns.length G.ns.length) (cntZ G.ns.length ((S ++ L).take k)))) (fun i _ => S.length - (intOf i).toNat)
  case atStart => exact ⟨0, by omega, rfl, HXM, HN0⟩
  case round =>
    obtain ⟨k, hk, rfl, hxk, hO⟩ := hrel
    clear HXM HN0
    by_cases hlt : k < S.length
    · obtain ⟨m, hm, hmn, hz, hset⟩ := cnt_next HM.out.nd HM.out.lt (k := k) (by rw [List.length_append]; omega)
      rw [app_getL hlt] at hm
      obtain ⟨lb, off, rfl, hc⟩ := I1.out.get (by omega)
      have c1 := hxk.out.cell (ints_cell hc hlt)
      rw [hm] at c1
      have c2 := own_intAt hO.out cntZ_len hmn
      rw [hz] at c2
      obtain ⟨cur, hh⟩ := own_heap hO.out
      have fz := (cells_of hh).2
      have hS := own_setI hO.out cntZ_len m 1
      rw [hset] at hS
      have HS2 := Lib.hid hS
      have HX2 := Lib.hid (hxk.out.setCell (p := ⟨X, m, none⟩) (by rw [HX3.out]; exact Nat.le_refl _) (.int .i64 1))
      have ib0 : (0 : Int) ≤ (k : Int) := by omega
      have ib1 : (k : Int) < (S.length : Int) := by omega
      have ib2 : (0 : Int) ≤ (m : Int) := by omega
      have ib3 : (m : Int) < (G.ns.length : Int) := by omega
      clear hS hh hO hxk hm hz hset hc
      go_wp2_with fail
      go_roundw
      case rel => exact ⟨k + 1, by omega, by go_num, HX2, HS2⟩
      case measure => simp [intOf]; omega
    obtain rfl : k = S.length := by omega
    clear hlt hk
    obtain ⟨wo, rfl⟩ : ∃ wo : World, wo = wr := ⟨_, rfl⟩
    go_wp2_with fail
    go_loopw [16] (fun i wr => ∃ k : Nat, k ≤ L.length ∧ i = .int .i64 k ∧ Hid (Ext w3 wr) ∧ Hid (Own 3 1 intC wr X (.slice (some ⟨X, 0, none⟩) G.ns.length G.ns.length) (cntZ G.ns.length ((S ++ L).take (S.length + k))))) (fun i _ => L.length - (intOf i).toNat)
    case atStart => exact ⟨0, by omega, rfl, hxk, hO⟩
    case round =>
      clear hxk hO
      obtain ⟨k, hk, rfl, hxk, hO⟩ := hrel
      by_cases hlt : k < L.length
      · obtain ⟨m, hm, hmn, hz, hset⟩ := cnt_next HM.out.nd HM.out.lt (k := S.length + k) (by rw [List.length_append]; omega)
        rw [app_getR] at hm
        obtain ⟨lb, off, rfl, hc⟩ := I2.out.get (by omega)
        have c1 := hxk.out.cell (ints_cell hc hlt)
        rw [hm] at c1
        have c2 := own_intAt hO.out cntZ_len hmn
        rw [hz] at c2
        obtain ⟨cur, hh⟩ := own_heap hO.out
        have fz := (cells_of hh).2
        have hS := own_setI hO.out cntZ_len m 1
        rw [hset] at hS
        have HS2 := Lib.hid hS
        have HX2 := Lib.hid (hxk.out.setCell (p := ⟨X, m, none⟩) (by rw [HX3.out]; exact Nat.le_refl _) (.int .i64 1))
        have ib0 : (0 : Int) ≤ (k : Int) := by omega
        have ib1 : (k : Int) < (L.length : Int) := by omega
        have ib2 : (0 : Int) ≤ (m : Int) := by omega
        have ib3 : (m : Int) < (G.ns.length : Int) := by omega
        clear hS hh hO hxk hm hz hset hc
        go_wp2_with fail
        go_roundw
        case rel => exact ⟨k + 1, by omega, by go_num, HX2, HS2⟩
        case measure => simp [intOf]; omega
      obtain rfl : k = L.length := by omega
      clear hlt hk
      have HCN : Hid (Pers wr fun w => Own 3 1 intC w X (.slice (some ⟨X, 0, none⟩) G.ns.length G.ns.length) (cntZ G.ns.length (S ++ L))) := Lib.hid (pers_own (by
        have := hO.out
        rw [List.take_of_length_le (by rw [List.length_append]; omega)] at this
        exact this))
      replace HX := Lib.hid (HX.out.trans hxk.out)
      replace HG := Lib.hid (HG.out.ext hxk.out)
      replace HBX := Lib.hid (HBX.out.re hxk.out)
      replace I5 := Lib.hid (I5.out.ext hxk.out)
      clear hxk hO I1 I2
      obtain ⟨W, rfl⟩ : ∃ W : World, W = wr := ⟨_, rfl⟩
      have HCL : Hid (∀ i, i < G.ns.length → (i : Int) ∈ S ++ L → ∀ v ∈ (G.ns.getD i default).fields, v.1 = 2 → v.2 ∈ S ++ L) := Lib.hid (fun i hi hm v hv h2 => HM.out.closed HRG.out hi hm hv h2)
      have HRT : Hid (∀ v ∈ G.rs, v.1 = 2 → v.2 ∈ S ++ L) := Lib.hid (fun v hv h2 => HM.out.root HRG.out hv h2)
      have HLM : Hid (∀ x ∈ S ++ L, 0 ≤ x ∧ x < G.ns.length) := Lib.hid HM.out.lt
      have HRM : Hid (∀ k : Nat, k < G.ns.length → decide ((k : Int) ∈ R) = decide ((k : Int) ∈ S ++ L)) := Lib.hid (fun k hk => decide_eq_decide.2 (by
        rw [HRR.out, rise_mem]
        exact ⟨fun h => h.2.2, fun h => ⟨by omega, by omega, h⟩⟩))
      have HRL : Hid (R.length = (riseL G.ns.length (S ++ L)).length) := Lib.hid (by rw [HRR.out, ordZ_len])
      clear HM HRR HS HL HC HR HE2
      generalize hMM : S ++ L = M at *
      clear hMM
      go_wp2_with fail
      go_loopw [17, 18] (fun t i wr => ∃ k : Nat, k ≤ G.ns.length ∧ i = .int .i64 k ∧ t = .int .i64 ((riseL k M).length : Nat) ∧ Hid (Ext W wr)) (fun t i _ => G.ns.length - (intOf i).toNat)
      case atStart => exact ⟨0, by omega, rfl, rfl, Lib.hid (Ext.refl _)⟩
      case round =>
        obtain ⟨k, hk, rfl, rfl, hxk⟩ := hrel
        obtain ⟨wa, rfl⟩ : ∃ wa : World, wa = wr := ⟨_, rfl⟩
        by_cases hlt : k < G.ns.length
        rotate_left
        · obtain rfl : k = G.ns.length := by omega
          clear hlt hk
          have kB := (cells_of (HBX.out.at hxk.out)).1
          go_wp2_with fail
          clear kB
          go_loopw [21] (fun j wr => ∃ q : Nat, q ≤ G.rs.length ∧ j = .int .i64 q ∧ Hid (Ext wa wr)) (fun j _ => G.rs.length - (intOf j).toNat)
          case atStart => exact ⟨0, by omega, rfl, Lib.hid (Ext.refl _)⟩
          case round =>
            obtain ⟨q, hq, rfl, hxq⟩ := hrel
            have HXQ := Lib.hid (hxk.out.trans hxq.out)
            have kB := (cells_of (HBX.out.at HXQ.out)).1
            by_cases hqt : q < G.rs.length
            rotate_left
            · obtain rfl : q = G.rs.length := by omega
              have hfin : (((riseL G.ns.length M).length : Int) == (R.length : Int)) = true := by rw [HRL.out]; simp
              clear hqt hq
              go_wp2_with fail
              refine (awake17_any _).mono ?_
              rintro e w9 ⟨rfl, hx⟩
              have HX9 := Lib.hid ((HX.out.trans HXQ.out).trans hx)
              clear hx
              go_wp2_with fail
              go_ret
              exact ⟨rfl, HX9.out⟩
            obtain ⟨lb, off, hB, hc⟩ := HG.out.roots.get (by omega)
            obtain ⟨v1, v2⟩ := spans_cell hc hqt
            have c2 := HXQ.out.cell v1
            have c3 := HXQ.out.cell v2
            rw [hB] at kB
            have ib2 : (0 : Int) ≤ (q : Int) := by omega
            have ib3 : (q : Int) < (G.rs.length : Int) := by omega
            have HCW := Lib.hid (HCN.out.at HXQ.out)
            have HVX := Lib.hid (HRT.out _ (getD_mem (d := ((0, 0) : Int × Int)) hqt))
            have HQT := Lib.hid hqt
            clear hc v1 v2 hB hqt
            generalize G.rs.getD q (0, 0) = v at *
            by_cases hv : v.1 = 2
            rotate_left
            · have hv2 : (v.1 == 2) = false := by rw [beq_eq_false_iff_ne]; exact hv
              clear hv HVX HCW
              go_wp2_with fail
              go_roundw
              case rel => exact ⟨q + 1, by have := HQT.out; omega, by go_num, hxq⟩
              case measure => have := HQT.out; simp [intOf]; omega
            have hvm := HVX.out hv
            obtain ⟨y1, y2⟩ := HLM.out _ hvm
            obtain ⟨m, hm⟩ := Int.eq_ofNat_of_zero_le y1
            have hmn : m < G.ns.length := by omega
            have cm := own_intAt HCW.out cntZ_len hmn
            rw [cntZ_get hmn, if_pos (by rw [← hm]; exact hvm)] at cm
            rw [hv] at c2
            rw [hm] at c3
            have ib4 : (0 : Int) ≤ (m : Int) := by omega
            have ib5 : (m : Int) < (G.ns.length : Int) := by omega
            clear hvm y1 y2 hm hmn hv HVX HCW
            go_wp2_with fail
            go_roundw
            case rel => exact ⟨q + 1, by have := HQT.out; omega, by go_num, hxq⟩
            case measure => have := HQT.out; simp [intOf]; omega
        cases hin : decide ((k : Int) ∈ M) with
        | true =>
          have cn := own_intAt (HCN.out.at hxk.out) cntZ_len hlt
          rw [cntZ_get hlt, if_pos (of_decide_eq_true hin)] at cn
          have HCK : Hid (∀ w, Ext wa w → w.cell? ⟨X, k, none⟩ = some (.int .i64 1)) := Lib.hid (fun w h => h.cell cn)
          have HST := Lib.hid (fun u : ExtOf wa => rstarts_is A5 c5 R (k : Int) true (by rw [HRM.out k hlt, hin]) u.1 (by have := HRN.out; omega) (I5.out.ext (hxk.out.trans u.2)))
          have HIN := Lib.hid hin
          have l1 := pers_cell cn
          have hs0 : Ext wa wa := Ext.refl _
          have HLT := Lib.hid hlt
          clear cn hin hlt
          go_wp2_with fail
          (refine wp_region_ext (W := wa) (by kernel_rfl) (by kernel_rfl) (by with_reducible assumption) ?_; (repeat (go_big_quiet_step (first | (go_at_call 30; with_reducible exact Calls.ext_of (HST.out _))))); refine wpQuiet_nil ?_; intro w1 hx)
          have HX1 := Lib.hid (hxk.out.trans hx)
          have c1 := HCK.out _ hx
          clear l1 hs0 hx HST HCK
          obtain ⟨wb, rfl⟩ : ∃ wb : World, wb = w1 := ⟨_, rfl⟩
          go_wp2_with fail
          clear c1
          go_loopw [19] (fun j wr => ∃ q : Nat, q ≤ (G.ns.getD k default).fields.length ∧ j = .int .i64 q ∧ Hid (Ext wb wr)) (fun j _ => (G.ns.getD k default).fields.length - (intOf j).toNat)
          case atStart => exact ⟨0, by omega, rfl, Lib.hid (Ext.refl _)⟩
          case round =>
            obtain ⟨q, hq, rfl, hxq⟩ := hrel
            have HXQ := Lib.hid (HX1.out.trans hxq.out)
            have kB := (cells_of (HBX.out.at HXQ.out)).1
            have hlt := HLT.out
            obtain ⟨nb, noff, hA, hcn⟩ := HG.out.nodes.row.get (by omega)
            obtain ⟨d0, d1, d2⟩ := nodes_cell hcn hlt
            have e1 := HXQ.out.cell d1
            have HNA := Lib.hid (HG.out.nodes.each _ (getD_mem (d := default) hlt)).fields
            have hfl := HNF.out _ (getD_mem (d := default) hlt)
            have HCLK := Lib.hid (fun v hv h2 => HCL.out k hlt (of_decide_eq_true HIN.out) v hv h2)
            rw [hA] at kB
            have ib0 : (0 : Int) ≤ (k : Int) := by omega
            have ib1 : (k : Int) < (G.ns.length : Int) := by omega
            clear hcn d0 d1 d2 hA
            generalize G.ns.getD k default = x at *
            by_cases hqt : q < x.fields.length
            rotate_left
            · obtain rfl : q = x.fields.length := by omega
              have HRS := Lib.hid (riseL_succ k M)
              clear hqt hq
              have HRLK := Lib.hid (riseL_len k M)
              have hlt := HLT.out
              go_wp2_with fail
              go_roundw
              case rel => exact ⟨k + 1, by omega, by go_num, by rw [rise_one HRS.out HIN.out (by have := HRLK.out; omega)], HXQ⟩
              case measure => simp [intOf]; omega
            obtain ⟨lb, off, hB, hc⟩ := HNA.out.get (by omega)
            obtain ⟨v1, v2⟩ := spans_cell hc hqt
            have c2 := HXQ.out.cell v1
            have c3 := HXQ.out.cell v2
            rw [hB] at e1
            have ib2 : (0 : Int) ≤ (q : Int) := by omega
            have ib3 : (q : Int) < (x.fields.length : Int) := by omega
            have HVM := Lib.hid (getD_mem (d := ((0, 0) : Int × Int)) hqt)
            have HQT := Lib.hid hqt
            have cn := own_intAt (HCN.out.at HXQ.out) cntZ_len hlt
            rw [cntZ_get hlt, if_pos (of_decide_eq_true HIN.out)] at cn
            have hxs : X < wr.heap.size := (own_below (HCN.out.at HXQ.out) rfl).2
            have hxn := Lib.hid (hxq.out.alloc (.cells #[.int .i64 (x.fields.getD q (0, 0)).1, .int .i64 (x.fields.getD q (0, 0)).2] 53))
            clear hc v1 v2 hB hqt
            have HCW := Lib.hid (HCN.out.at HXQ.out)
            have HVX := Lib.hid (HCLK.out _ HVM.out)
            clear HCLK HVM
            generalize x.fields.getD q (0, 0) = v at *
            by_cases hv : v.1 = 2
            rotate_left
            · have hv2 : (v.1 == 2) = false := by rw [beq_eq_false_iff_ne]; exact hv
              clear hv HVX HCW
              go_wp2_with fail
              go_roundw
              case rel => exact ⟨q + 1, by have := HQT.out; omega, by go_num, hxn⟩
              case measure => have := HQT.out; simp [intOf]; omega
            have hvm := HVX.out hv
            obtain ⟨y1, y2⟩ := HLM.out _ hvm
            obtain ⟨m, hm⟩ := Int.eq_ofNat_of_zero_le y1
            have hmn : m < G.ns.length := by omega
            have cm := own_intAt HCW.out cntZ_len hmn
            rw [cntZ_get hmn, if_pos (by rw [← hm]; exact hvm)] at cm
            rw [hv] at c2
            rw [hm] at c3
            have ib4 : (0 : Int) ≤ (m : Int) := by omega
            have ib5 : (m : Int) < (G.ns.length : Int) := by omega
            rw [hv, hm] at hxn
            clear hvm y1 y2 hm hmn hv HVX HCW
            go_wp2_with fail
            go_roundw
            case rel => exact ⟨q + 1, by have := HQT.out; omega, by go_num, hxn⟩
            case measure => have := HQT.out; simp [intOf]; omega
        | false =>
          have cn := own_intAt (HCN.out.at hxk.out) cntZ_len hlt
          rw [cntZ_get hlt, if_neg (of_decide_eq_false hin)] at cn
          have HCK : Hid (∀ w, Ext wa w → w.cell? ⟨X, k, none⟩ = some (.int .i64 0)) := Lib.hid (fun w h => h.cell cn)
          have HST := Lib.hid (fun u : ExtOf wa => rstarts_is A5 c5 R (k : Int) false (by rw [HRM.out k hlt, hin]) u.1 (by have := HRN.out; omega) (I5.out.ext (hxk.out.trans u.2)))
          have HIN := Lib.hid hin
          have l1 := pers_cell cn
          have hs0 : Ext wa wa := Ext.refl _
          have HLT := Lib.hid hlt
          clear cn hin hlt
          go_wp2_with fail
          (refine wp_region_ext (W := wa) (by kernel_rfl) (by kernel_rfl) (by with_reducible assumption) ?_; (repeat (go_big_quiet_step (first | (go_at_call 30; with_reducible exact Calls.ext_of (HST.out _))))); refine wpQuiet_nil ?_; intro w1 hx)
          have HX1 := Lib.hid (hxk.out.trans hx)
          have c1 := HCK.out _ hx
          clear l1 hs0 hx HST HCK
          obtain ⟨wb, rfl⟩ : ∃ wb : World, wb = w1 := ⟨_, rfl⟩
          go_wp2_with fail
          clear c1
          go_loopw [19] (fun j wr => ∃ q : Nat, q ≤ (G.ns.getD k default).fields.length ∧ j = .int .i64 q ∧ Hid (Ext wb wr)) (fun j _ => (G.ns.getD k default).fields.length - (intOf j).toNat)
          case atStart => exact ⟨0, by omega, rfl, Lib.hid (Ext.refl _)⟩
          case round =>
            obtain ⟨q, hq, rfl, hxq⟩ := hrel
            have HXQ := Lib.hid (HX1.out.trans hxq.out)
            have kB := (cells_of (HBX.out.at HXQ.out)).1
            have hlt := HLT.out
            obtain ⟨nb, noff, hA, hcn⟩ := HG.out.nodes.row.get (by omega)
            obtain ⟨d0, d1, d2⟩ := nodes_cell hcn hlt
            have e1 := HXQ.out.cell d1
            have HNA := Lib.hid (HG.out.nodes.each _ (getD_mem (d := default) hlt)).fields
            have hfl := HNF.out _ (getD_mem (d := default) hlt)
            rw [hA] at kB
            have ib0 : (0 : Int) ≤ (k : Int) := by omega
            have ib1 : (k : Int) < (G.ns.length : Int) := by omega
            clear hcn d0 d1 d2 hA
            generalize G.ns.getD k default = x at *
            by_cases hqt : q < x.fields.length
            rotate_left
            · obtain rfl : q = x.fields.length := by omega
              have HRS := Lib.hid (riseL_succ k M)
              clear hqt hq
              have HRLK := Lib.hid (riseL_len k M)
              have hlt := HLT.out
              go_wp2_with fail
              go_roundw
              case rel => exact ⟨k + 1, by omega, by go_num, by rw [rise_none HRS.out HIN.out (by have := HRLK.out; omega)], HXQ⟩
              case measure => simp [intOf]; omega
            obtain ⟨lb, off, hB, hc⟩ := HNA.out.get (by omega)
            obtain ⟨v1, v2⟩ := spans_cell hc hqt
            have c2 := HXQ.out.cell v1
            have c3 := HXQ.out.cell v2
            rw [hB] at e1
            have ib2 : (0 : Int) ≤ (q : Int) := by omega
            have ib3 : (q : Int) < (x.fields.length : Int) := by omega
            have HVM := Lib.hid (getD_mem (d := ((0, 0) : Int × Int)) hqt)
            have HQT := Lib.hid hqt
            have cn := own_intAt (HCN.out.at HXQ.out) cntZ_len hlt
            rw [cntZ_get hlt, if_neg (of_decide_eq_false HIN.out)] at cn
            have hxs : X < wr.heap.size := (own_below (HCN.out.at HXQ.out) rfl).2
            have hxn := Lib.hid (hxq.out.alloc (.cells #[.int .i64 (x.fields.getD q (0, 0)).1, .int .i64 (x.fields.getD q (0, 0)).2] 53))
            clear hc v1 v2 hB hqt
            clear HVM
            generalize x.fields.getD q (0, 0) = v at *
            go_wp2_with fail
            go_roundw
            case rel => exact ⟨q + 1, by have := HQT.out; omega, by go_num, hxn⟩
            case measure => have := HQT.out; simp [intOf]; omega
theorem reachSame_fin {v0 : Value} {lim ord blk : Int} {w : World} (h0 : IsGraph w v0) (h1 : (Lit.int .i64 lim).wf = true) (h2 : (Lit.int .i64 ord).wf = true) (h3 : (Lit.int .i64 blk).wf = true) :
    Calls Try.prog 8 #[v0, .int .i64 lim, .int .i64 ord, .int .i64 blk] w fun e w' => e = .returned (.bool true) ∧ Ext w w' := by
  obtain ⟨G, rfl, hG, oG⟩ := h0
  exact reachSame_any G lim ord blk w hG oG (i64_of_wf h1) (i64_of_wf h3)
end Go.Proofs.Ytphpppjfogpohaa

