/- Merged by program (merge.py) out of: LwCa, LwCb, LwCc. -/
import Derived.Test.YtphpppjfogpohaaMc24
import Derived.Test.YtphpppjfogpohaaMc16
import Derived.Test.YtphpppjfogpohaaMc26
/- The law CanonMatches. -/
set_option linter.unusedSimpArgs false
set_option linter.unusedVariables false
namespace Go.Proofs.Ytphpppjfogpohaa
open Go.RowKit Go.Shelf
set_option maxRecDepth 100000
set_option maxHeartbeats 4000000
/-- What Canon answers is a graph that may be. -/
theorem can_graph {G H : GraphD} (oG : GOk G) (h1 : H.ns.map nodeV = canV G) (h2 : H.rs = canQ G) (hs : Shp H) : GraphOk H := by
  cases hR : rightG G with
  | true => exact (can_ok oG hR h1 h2 hs).1.1
  | false =>
    have e1 : H.ns = [] := by rw [canV, hR] at h1; simpa using h1
    have e2 : H.rs = [] := by rw [canQ, hR] at h2; simpa using h2
    exact ⟨by simp [e1], by simp [e2], hs.a, hs.b, hs.c, hs.d, by simp [e1], by simp [e2]⟩
theorem same_of {G H : GraphD} {vs : List NodV} {q : List (Int × Int)} (h1 : G.ns.map nodeV = vs) (h2 : G.rs = q) (h3 : H.ns.map nodeV = vs) (h4 : H.rs = q) : sameG G H = true := by
  unfold sameG sameL
  rw [h1, h2, h3, h4]
  simp
theorem canonMatches_any (A B : GraphD) (V : World) (hA : GraphAt V A) (hB : GraphAt V B) (oA : GraphOk A) (oB : GraphOk B) :
    Calls Try.prog 3 #[.agg #[.slice A.nA A.ns.length A.ncap, .slice A.rA A.rs.length A.rcap], .agg #[.slice B.nA B.ns.length B.ncap, .slice B.rA B.rs.length B.rcap]] V fun e w' => e = .returned (.bool true) ∧ Ext V w' := by
  have hx0 := ((Ext.refl V).alloc (.cells #[.slice A.nA A.ns.length A.ncap, .slice A.rA A.rs.length A.rcap] 25)).alloc (.cells #[.slice B.nA B.ns.length B.ncap, .slice B.rA B.rs.length B.rcap] 25)
  have HBA := Lib.hid ((pers_new V #[.slice A.nA A.ns.length A.ncap, .slice A.rA A.rs.length A.rcap] 25 (V.heap.size) rfl).re ((Ext.refl _).alloc (.cells #[.slice B.nA B.ns.length B.ncap, .slice B.rA B.rs.length B.rcap] 25)))
  have HBB := Lib.hid ((pers_new (V.alloc (.cells #[.slice A.nA A.ns.length A.ncap, .slice A.rA A.rs.length A.rcap] 25)) #[.slice B.nA B.ns.length B.ncap, .slice B.rA B.rs.length B.rcap] 25 (V.heap.size + 1) (by simp)))
  have HX := Lib.hid hx0
  have HGA := Lib.hid (hA.ext hx0)
  have HOA := Lib.hid oA
  have HGB := Lib.hid (hB.ext hx0)
  have HOB := Lib.hid oB
  clear hx0 hA oA hB oB
  cases hLA : largeG A with
  | true =>
    have k0 := (cells_of HBA.out.here).1
    have l0 := lt_of_heap HBA.out.here
    go_enter Try.func3, Try.ntmps3
    go_wp2_with fail
    clear k0 l0
    refine (large_is A true hLA _ HGA.out HOA.out).mono ?_
    rintro e w1 ⟨rfl, hx⟩
    replace HX := Lib.hid (HX.out.trans hx)
    replace HGA := Lib.hid (HGA.out.ext hx)
    replace HGB := Lib.hid (HGB.out.ext hx)
    replace HBA := Lib.hid (HBA.out.re hx)
    replace HBB := Lib.hid (HBB.out.re hx)
    clear hx
    go_wp2_with fail
    refine (awake18_any _).mono ?_
    rintro e w9 ⟨rfl, hx⟩
    replace HX := Lib.hid (HX.out.trans hx)
    clear hx
    go_wp2_with fail
    go_returns
    exact ⟨rfl, HX.out⟩
  | false =>
  cases hLB : largeG B with
  | true =>
    have k0 := (cells_of HBA.out.here).1
    have l0 := lt_of_heap HBA.out.here
    go_enter Try.func3, Try.ntmps3
    go_wp2_with fail
    clear k0 l0
    refine (large_is A false hLA _ HGA.out HOA.out).mono ?_
    rintro e w1 ⟨rfl, hx⟩
    replace HX := Lib.hid (HX.out.trans hx)
    replace HGA := Lib.hid (HGA.out.ext hx)
    replace HGB := Lib.hid (HGB.out.ext hx)
    replace HBA := Lib.hid (HBA.out.re hx)
    replace HBB := Lib.hid (HBB.out.re hx)
    clear hx
    have k0 := (cells_of HBB.out.here).1
    have l0 := lt_of_heap HBB.out.here
    go_wp2_with fail
    clear k0 l0
    refine (large_is B true hLB _ HGB.out HOB.out).mono ?_
    rintro e w2 ⟨rfl, hx⟩
    replace HX := Lib.hid (HX.out.trans hx)
    replace HGA := Lib.hid (HGA.out.ext hx)
    replace HGB := Lib.hid (HGB.out.ext hx)
    replace HBA := Lib.hid (HBA.out.re hx)
    replace HBB := Lib.hid (HBB.out.re hx)
    clear hx
    go_wp2_with fail
    refine (awake18_any _).mono ?_
    rintro e w9 ⟨rfl, hx⟩
    replace HX := Lib.hid (HX.out.trans hx)
    clear hx
    go_wp2_with fail
    go_returns
    exact ⟨rfl, HX.out⟩
  | false =>
  have HKA : Hid (GOk A) := Lib.hid ⟨HOA.out, hLA⟩
  have HKB : Hid (GOk B) := Lib.hid ⟨HOB.out, hLB⟩
  have HLN : Hid ((mtS A B).length ≤ 60) := Lib.hid (by
    unfold mtS
    split
    · rw [partP_len]; have := hLA; simp [largeG] at this; omega
    · simp)
  obtain ⟨r, hr⟩ : ∃ r, alikeG A B = r := ⟨_, rfl⟩
  obtain ⟨S, hS⟩ : ∃ S, mtS A B = S := ⟨_, rfl⟩
  obtain ⟨c, hc⟩ : ∃ c, canE A = c := ⟨_, rfl⟩
  have HR := Lib.hid hr
  have HS := Lib.hid hS
  have HC := Lib.hid hc
  rw [hS] at HLN
  clear hr hS hc
  have k0 := (cells_of HBA.out.here).1
  have l0 := lt_of_heap HBA.out.here
  go_enter Try.func3, Try.ntmps3
  go_wp2_with fail
  clear k0 l0
  refine (large_is A false hLA _ HGA.out HOA.out).mono ?_
  rintro e w1 ⟨rfl, hx⟩
  replace HX := Lib.hid (HX.out.trans hx)
  replace HGA := Lib.hid (HGA.out.ext hx)
  replace HGB := Lib.hid (HGB.out.ext hx)
  replace HBA := Lib.hid (HBA.out.re hx)
  replace HBB := Lib.hid (HBB.out.re hx)
  clear hx
  have k0 := (cells_of HBB.out.here).1
  have l0 := lt_of_heap HBB.out.here
  go_wp2_with fail
  clear k0 l0
  refine (large_is B false hLB _ HGB.out HOB.out).mono ?_
  rintro e w2 ⟨rfl, hx⟩
  replace HX := Lib.hid (HX.out.trans hx)
  replace HGA := Lib.hid (HGA.out.ext hx)
  replace HGB := Lib.hid (HGB.out.ext hx)
  replace HBA := Lib.hid (HBA.out.re hx)
  replace HBB := Lib.hid (HBB.out.re hx)
  clear hx
  have k0 := (cells_of HBA.out.here).1
  have l0 := lt_of_heap HBA.out.here
  have k1 := (cells_of HBB.out.here).1
  have l1 := lt_of_heap HBB.out.here
  go_wp2_with fail
  clear k0 l0 k1 l1
  have Z0 := match_any A B _ HGA.out HGB.out HKA.out HKB.out
  unfold RetMt at Z0
  rw [HR.out, HS.out] at Z0
  refine Z0.mono ?_
  clear Z0
  rintro e w3 ⟨A1, c1, rfl, ho1, hx⟩
  replace HX := Lib.hid (HX.out.trans hx)
  replace HGA := Lib.hid (HGA.out.ext hx)
  replace HGB := Lib.hid (HGB.out.ext hx)
  replace HBA := Lib.hid (HBA.out.re hx)
  replace HBB := Lib.hid (HBB.out.re hx)
  clear hx
  have I1 := Lib.hid (own_ints ho1)
  clear ho1
  have k0 := (cells_of HBA.out.here).1
  have l0 := lt_of_heap HBA.out.here
  have k1 := (cells_of HBB.out.here).1
  have l1 := lt_of_heap HBB.out.here
  go_wp2_with fail
  clear k0 l0 k1 l1
  have Z0 := rmatch_any A B _ HGA.out HGB.out HKA.out HKB.out
  unfold RetMt at Z0
  rw [HR.out, HS.out] at Z0
  refine Z0.mono ?_
  clear Z0
  rintro e w4 ⟨A2, c2, rfl, ho2, hx⟩
  replace HX := Lib.hid (HX.out.trans hx)
  replace HGA := Lib.hid (HGA.out.ext hx)
  replace HGB := Lib.hid (HGB.out.ext hx)
  replace I1 := Lib.hid (I1.out.ext hx)
  replace HBA := Lib.hid (HBA.out.re hx)
  replace HBB := Lib.hid (HBB.out.re hx)
  clear hx
  have I2 := Lib.hid (own_ints ho2)
  clear ho2
  have k0 := (cells_of HBA.out.here).1
  have l0 := lt_of_heap HBA.out.here
  go_wp2_with fail
  clear k0 l0
  have Z0 := canon_any A _ HGA.out HKA.out
  rw [HC.out] at Z0
  refine Z0.mono ?_
  clear Z0
  rintro e w5 ⟨C, rfl, g1, g2, g3, g4, g5, g6, g7, g8, hx⟩
  replace HX := Lib.hid (HX.out.trans hx)
  replace HGA := Lib.hid (HGA.out.ext hx)
  replace HGB := Lib.hid (HGB.out.ext hx)
  replace I1 := Lib.hid (I1.out.ext hx)
  replace I2 := Lib.hid (I2.out.ext hx)
  replace HBA := Lib.hid (HBA.out.re hx)
  replace HBB := Lib.hid (HBB.out.re hx)
  clear hx
  have HGC := Lib.hid g1
  have HSC := Lib.hid (show Shp C from ⟨g4, g5, g6, g7, g8⟩)
  have HFC := Lib.hid (show C.ns.map nodeV = canV A ∧ C.rs = canQ A from ⟨g2, g3⟩)
  clear g1 g2 g3 g4 g5 g6 g7 g8
  have k0 := (cells_of HBA.out.here).1
  have l0 := lt_of_heap HBA.out.here
  go_wp2_with fail
  clear k0 l0
  have hy := (Ext.refl w5).alloc (.cells #[.slice C.nA C.ns.length C.ncap, .slice C.rA C.rs.length C.rcap] 25)
  have HBC := Lib.hid (pers_new w5 #[.slice C.nA C.ns.length C.ncap, .slice C.rA C.rs.length C.rcap] 25 _ rfl)
  replace HX := Lib.hid (HX.out.trans hy)
  replace HGA := Lib.hid (HGA.out.ext hy)
  replace HGB := Lib.hid (HGB.out.ext hy)
  replace I1 := Lib.hid (I1.out.ext hy)
  replace I2 := Lib.hid (I2.out.ext hy)
  replace HGC := Lib.hid (HGC.out.ext hy)
  replace HBA := Lib.hid (HBA.out.re hy)
  replace HBB := Lib.hid (HBB.out.re hy)
  clear hy
  generalize w5.alloc (.cells #[.slice C.nA C.ns.length C.ncap, .slice C.rA C.rs.length C.rcap] 25) = W5 at *
  generalize w5.heap.size = X5 at *
  have Z0 := refcanon_any A _ HGA.out HKA.out
  rw [HC.out] at Z0
  refine Z0.mono ?_
  clear Z0
  rintro e w6 ⟨D, rfl, g1, g2, g3, g4, g5, g6, g7, g8, hx⟩
  replace HX := Lib.hid (HX.out.trans hx)
  replace HGA := Lib.hid (HGA.out.ext hx)
  replace HGB := Lib.hid (HGB.out.ext hx)
  replace I1 := Lib.hid (I1.out.ext hx)
  replace I2 := Lib.hid (I2.out.ext hx)
  replace HGC := Lib.hid (HGC.out.ext hx)
  replace HBA := Lib.hid (HBA.out.re hx)
  replace HBB := Lib.hid (HBB.out.re hx)
  replace HBC := Lib.hid (HBC.out.re hx)
  clear hx
  have HGD := Lib.hid g1
  have HSD := Lib.hid (show Shp D from ⟨g4, g5, g6, g7, g8⟩)
  have HFD := Lib.hid (show D.ns.map nodeV = canV A ∧ D.rs = canQ A from ⟨g2, g3⟩)
  clear g1 g2 g3 g4 g5 g6 g7 g8
  go_wp2_with fail
  have hy := (Ext.refl w6).alloc (.cells #[.slice D.nA D.ns.length D.ncap, .slice D.rA D.rs.length D.rcap] 25)
  have HBD := Lib.hid (pers_new w6 #[.slice D.nA D.ns.length D.ncap, .slice D.rA D.rs.length D.rcap] 25 _ rfl)
  replace HX := Lib.hid (HX.out.trans hy)
  replace HGA := Lib.hid (HGA.out.ext hy)
  replace HGB := Lib.hid (HGB.out.ext hy)
  replace I1 := Lib.hid (I1.out.ext hy)
  replace I2 := Lib.hid (I2.out.ext hy)
  replace HGC := Lib.hid (HGC.out.ext hy)
  replace HGD := Lib.hid (HGD.out.ext hy)
  replace HBA := Lib.hid (HBA.out.re hy)
  replace HBB := Lib.hid (HBB.out.re hy)
  replace HBC := Lib.hid (HBC.out.re hy)
  clear hy
  generalize w6.alloc (.cells #[.slice D.nA D.ns.length D.ncap, .slice D.rA D.rs.length D.rcap] 25) = W6 at *
  generalize w6.heap.size = X6 at *
  have HSM := Lib.hid (same_of HFC.out.1 HFC.out.2 HFD.out.1 HFD.out.2)
  have HOC := Lib.hid (can_graph HKA.out HFC.out.1 HFC.out.2 HSC.out)
  have HOD := Lib.hid (can_graph HKA.out HFD.out.1 HFD.out.2 HSD.out)
  cases r
  all_goals
    refine (ints_is A1 A2 c1 c2 S S true (by simp) _ (by have := HLN.out; omega) (by have := HLN.out; omega) I1.out I2.out).mono ?_
    rintro e w7 ⟨rfl, hx⟩
    replace HX := Lib.hid (HX.out.trans hx)
    replace HGA := Lib.hid (HGA.out.ext hx)
    replace HGB := Lib.hid (HGB.out.ext hx)
    replace I1 := Lib.hid (I1.out.ext hx)
    replace I2 := Lib.hid (I2.out.ext hx)
    replace HGC := Lib.hid (HGC.out.ext hx)
    replace HGD := Lib.hid (HGD.out.ext hx)
    replace HBA := Lib.hid (HBA.out.re hx)
    replace HBB := Lib.hid (HBB.out.re hx)
    replace HBC := Lib.hid (HBC.out.re hx)
    replace HBD := Lib.hid (HBD.out.re hx)
    clear hx
    have k0 := (cells_of HBA.out.here).1
    have l0 := lt_of_heap HBA.out.here
    have k1 := (cells_of HBB.out.here).1
    have l1 := lt_of_heap HBB.out.here
    go_wp2_with fail
    clear k0 l0 k1 l1
    refine (alike_is A B _ HR.out _ HGA.out HGB.out HKA.out HKB.out).mono ?_
    rintro e w8 ⟨rfl, hx⟩
    replace HX := Lib.hid (HX.out.trans hx)
    replace HGA := Lib.hid (HGA.out.ext hx)
    replace HGB := Lib.hid (HGB.out.ext hx)
    replace I1 := Lib.hid (I1.out.ext hx)
    replace I2 := Lib.hid (I2.out.ext hx)
    replace HGC := Lib.hid (HGC.out.ext hx)
    replace HGD := Lib.hid (HGD.out.ext hx)
    replace HBA := Lib.hid (HBA.out.re hx)
    replace HBB := Lib.hid (HBB.out.re hx)
    replace HBC := Lib.hid (HBC.out.re hx)
    replace HBD := Lib.hid (HBD.out.re hx)
    clear hx
    have k0 := (cells_of HBC.out.here).1
    have l0 := lt_of_heap HBC.out.here
    have k1 := (cells_of HBD.out.here).1
    have l1 := lt_of_heap HBD.out.here
    go_wp2_with fail
    clear k0 l0 k1 l1
    refine (grefsame_is C D true _ HSM.out HGC.out HGD.out HOC.out HOD.out).mono ?_
    rintro e w9 ⟨rfl, hx⟩
    replace HX := Lib.hid (HX.out.trans hx)
    replace HGA := Lib.hid (HGA.out.ext hx)
    replace HGB := Lib.hid (HGB.out.ext hx)
    replace I1 := Lib.hid (I1.out.ext hx)
    replace I2 := Lib.hid (I2.out.ext hx)
    replace HGC := Lib.hid (HGC.out.ext hx)
    replace HGD := Lib.hid (HGD.out.ext hx)
    replace HBA := Lib.hid (HBA.out.re hx)
    replace HBB := Lib.hid (HBB.out.re hx)
    replace HBC := Lib.hid (HBC.out.re hx)
    replace HBD := Lib.hid (HBD.out.re hx)
    clear hx
    go_wp2_with fail
    refine (awake18_any _).mono ?_
    rintro e w10 ⟨rfl, hx⟩
    replace HX := Lib.hid (HX.out.trans hx)
    clear hx
    go_wp2_with fail
    go_returns
    exact ⟨rfl, HX.out⟩
theorem canonMatches_fin {v0 v1 : Value} {w : World} (h0 : IsGraph w v0) (h1 : IsGraph w v1) :
    Calls Try.prog 3 #[v0, v1] w fun e w' => e = .returned (.bool true) ∧ Ext w w' := by
  obtain ⟨G, rfl, hG, oG⟩ := h0
  obtain ⟨H, rfl, hH, oH⟩ := h1
  exact canonMatches_any G H w hG hH oG oH
end Go.Proofs.Ytphpppjfogpohaa

/- The law CanonTurns. -/
set_option linter.unusedSimpArgs false
set_option linter.unusedVariables false
namespace Go.Proofs.Ytphpppjfogpohaa
open Go.RowKit Go.Shelf
set_option maxRecDepth 100000
set_option maxHeartbeats 4000000
theorem can_can {G C : GraphD} (oG : GOk G) (hR : rightG G = true) (h1 : C.ns.map nodeV = canV G) (h2 : C.rs = canQ G) (hs : Shp C) : GOk C ∧ rightG C = true ∧ canV C = canV G ∧ canQ C = canQ G := by
  obtain ⟨a, b⟩ := can_ok oG hR h1 h2 hs
  obtain ⟨c, d⟩ := turned_can oG hR (ordOk_of oG hR) (h1.trans (by rw [canV, if_pos hR])) (h2.trans (by rw [canQ, if_pos hR])) hs
  exact ⟨a, b, c, d⟩
theorem canonTurns_any (G : GraphD) (A : Option Addr) (cap : Nat) (o : List Int) (V : World) (hG : GraphAt V G) (oG : GraphOk G) (hl : IntsAt V A o) (how : ∀ x ∈ o, -9223372036854775808 ≤ x ∧ x ≤ 9223372036854775807) (hlen : o.length ≤ 9223372036854775807) :
    Calls Try.prog 4 #[.agg #[.slice G.nA G.ns.length G.ncap, .slice G.rA G.rs.length G.rcap], .slice A o.length cap] V fun e w' => e = .returned (.bool true) ∧ Ext V w' := by
  have hx0 := (Ext.refl V).alloc (.cells #[.slice G.nA G.ns.length G.ncap, .slice G.rA G.rs.length G.rcap] 25)
  have HBG := Lib.hid ((pers_new V #[.slice G.nA G.ns.length G.ncap, .slice G.rA G.rs.length G.rcap] 25 (V.heap.size) rfl))
  have HX := Lib.hid hx0
  have HGG := Lib.hid (hG.ext hx0)
  have HOG := Lib.hid oG
  clear hx0 hG oG
  have HI := Lib.hid (hl.ext HX.out)
  have HOW := Lib.hid how
  clear hl how
  cases hLG : largeG G with
  | true =>
    have k0 := (cells_of HBG.out.here).1
    have l0 := lt_of_heap HBG.out.here
    go_enter Try.func4, Try.ntmps4
    go_wp2_with fail
    clear k0 l0
    refine (large_is G true hLG _ HGG.out HOG.out).mono ?_
    rintro e w1 ⟨rfl, hx⟩
    replace HX := Lib.hid (HX.out.trans hx)
    replace HGG := Lib.hid (HGG.out.ext hx)
    replace HI := Lib.hid (HI.out.ext hx)
    replace HBG := Lib.hid (HBG.out.re hx)
    clear hx
    go_wp2_with fail
    refine (awake18_any _).mono ?_
    rintro e w9 ⟨rfl, hx⟩
    replace HX := Lib.hid (HX.out.trans hx)
    clear hx
    go_wp2_with fail
    go_returns
    exact ⟨rfl, HX.out⟩
  | false =>
  have HKG : Hid (GOk G) := Lib.hid ⟨HOG.out, hLG⟩
  by_cases hq : 100 < o.length
  · have h1 : decide ((100 : Int) < (o.length : Int)) = true := by simp; omega
    clear hq
    have k0 := (cells_of HBG.out.here).1
    have l0 := lt_of_heap HBG.out.here
    go_enter Try.func4, Try.ntmps4
    go_wp2_with fail
    clear k0 l0
    refine (large_is G false hLG _ HGG.out HOG.out).mono ?_
    rintro e w1 ⟨rfl, hx⟩
    replace HX := Lib.hid (HX.out.trans hx)
    replace HGG := Lib.hid (HGG.out.ext hx)
    replace HI := Lib.hid (HI.out.ext hx)
    replace HBG := Lib.hid (HBG.out.re hx)
    clear hx
    go_wp2_with fail
    refine (awake18_any _).mono ?_
    rintro e w2 ⟨rfl, hx⟩
    replace HX := Lib.hid (HX.out.trans hx)
    clear hx
    go_wp2_with fail
    go_returns
    exact ⟨rfl, HX.out⟩
  have h1 : decide ((100 : Int) < (o.length : Int)) = false := by simp; omega
  have hol : o.length ≤ 1000 := by omega
  clear hq
  obtain ⟨er, her⟩ : ∃ e, renE G o = e := ⟨_, rfl⟩
  have HER := Lib.hid her
  clear her
  have k0 := (cells_of HBG.out.here).1
  have l0 := lt_of_heap HBG.out.here
  go_enter Try.func4, Try.ntmps4
  go_wp2_with fail
  clear k0 l0
  refine (large_is G false hLG _ HGG.out HOG.out).mono ?_
  rintro e w1 ⟨rfl, hx⟩
  replace HX := Lib.hid (HX.out.trans hx)
  replace HGG := Lib.hid (HGG.out.ext hx)
  replace HI := Lib.hid (HI.out.ext hx)
  replace HBG := Lib.hid (HBG.out.re hx)
  clear hx
  have k0 := (cells_of HBG.out.here).1
  have l0 := lt_of_heap HBG.out.here
  go_wp2_with fail
  clear k0 l0
  have Z0 := ren_any G A cap o _ HGG.out HOG.out HI.out hol HOW.out
  rw [HER.out] at Z0
  refine Z0.mono ?_
  clear Z0
  rintro e w2 ⟨H, rfl, g1, g2, g3, g4, g5, g6, g7, g8, hx⟩
  replace HX := Lib.hid (HX.out.trans hx)
  replace HGG := Lib.hid (HGG.out.ext hx)
  replace HI := Lib.hid (HI.out.ext hx)
  replace HBG := Lib.hid (HBG.out.re hx)
  clear hx
  have HGH := Lib.hid g1
  have HSH := Lib.hid (show Shp H from ⟨g4, g5, g6, g7, g8⟩)
  have HFH := Lib.hid (show H.ns.map nodeV = renN G o ∧ H.rs = renR G o from ⟨g2, g3⟩)
  clear g1 g2 g3 g4 g5 g6 g7 g8
  by_cases her : er = 0
  rotate_left
  · have hne : (er != 0) = true := by simpa using her
    have hne2 : (er == 0) = false := by simpa using her
    go_wp2_with fail
    refine (awake18_any _).mono ?_
    rintro e w9 ⟨rfl, hx⟩
    replace HX := Lib.hid ((HX.out.alloc _).trans hx)
    clear hx
    go_wp2_with fail
    go_returns
    exact ⟨rfl, HX.out⟩
  subst her
  have k0 := (cells_of HBG.out.here).1
  have l0 := lt_of_heap HBG.out.here
  go_wp2_with fail
  clear k0 l0
  have hy := (Ext.refl w2).alloc (.cells #[.slice H.nA H.ns.length H.ncap, .slice H.rA H.rs.length H.rcap] 25)
  have HBH := Lib.hid (pers_new w2 #[.slice H.nA H.ns.length H.ncap, .slice H.rA H.rs.length H.rcap] 25 _ rfl)
  replace HX := Lib.hid (HX.out.trans hy)
  replace HGG := Lib.hid (HGG.out.ext hy)
  replace HI := Lib.hid (HI.out.ext hy)
  replace HGH := Lib.hid (HGH.out.ext hy)
  replace HBG := Lib.hid (HBG.out.re hy)
  clear hy
  generalize w2.alloc (.cells #[.slice H.nA H.ns.length H.ncap, .slice H.rA H.rs.length H.rcap] 25) = W2 at *
  generalize w2.heap.size = X2 at *
  have HRG : Hid (rightG G = true) := Lib.hid (ord_ren HER.out).1
  have HRH := Lib.hid (ren_ok HKG.out HER.out HFH.out.1 HFH.out.2 HSH.out)
  have HC0 : Hid (canE G = 0) := Lib.hid (by rw [canE, if_pos HRG.out])
  have HC1 : Hid (canE H = 0) := Lib.hid (by rw [canE, if_pos HRH.out.2.1])
  have Z0 := canon_any G _ HGG.out HKG.out
  rw [HC0.out] at Z0
  refine Z0.mono ?_
  clear Z0
  rintro e w3 ⟨C, rfl, g1, g2, g3, g4, g5, g6, g7, g8, hx⟩
  replace HX := Lib.hid (HX.out.trans hx)
  replace HGG := Lib.hid (HGG.out.ext hx)
  replace HI := Lib.hid (HI.out.ext hx)
  replace HGH := Lib.hid (HGH.out.ext hx)
  replace HBG := Lib.hid (HBG.out.re hx)
  replace HBH := Lib.hid (HBH.out.re hx)
  clear hx
  have HGC := Lib.hid g1
  have HSC := Lib.hid (show Shp C from ⟨g4, g5, g6, g7, g8⟩)
  have HFC := Lib.hid (show C.ns.map nodeV = canV G ∧ C.rs = canQ G from ⟨g2, g3⟩)
  clear g1 g2 g3 g4 g5 g6 g7 g8
  have k0 := (cells_of HBH.out.here).1
  have l0 := lt_of_heap HBH.out.here
  go_wp2_with fail
  clear k0 l0
  have hy := (Ext.refl w3).alloc (.cells #[.slice C.nA C.ns.length C.ncap, .slice C.rA C.rs.length C.rcap] 25)
  have HBC := Lib.hid (pers_new w3 #[.slice C.nA C.ns.length C.ncap, .slice C.rA C.rs.length C.rcap] 25 _ rfl)
  replace HX := Lib.hid (HX.out.trans hy)
  replace HGG := Lib.hid (HGG.out.ext hy)
  replace HI := Lib.hid (HI.out.ext hy)
  replace HGH := Lib.hid (HGH.out.ext hy)
  replace HGC := Lib.hid (HGC.out.ext hy)
  replace HBG := Lib.hid (HBG.out.re hy)
  replace HBH := Lib.hid (HBH.out.re hy)
  clear hy
  generalize w3.alloc (.cells #[.slice C.nA C.ns.length C.ncap, .slice C.rA C.rs.length C.rcap] 25) = W3 at *
  generalize w3.heap.size = X3 at *
  have Z0 := canon_any H _ HGH.out HRH.out.1
  rw [HC1.out] at Z0
  refine Z0.mono ?_
  clear Z0
  rintro e w4 ⟨D, rfl, g1, g2, g3, g4, g5, g6, g7, g8, hx⟩
  replace HX := Lib.hid (HX.out.trans hx)
  replace HGG := Lib.hid (HGG.out.ext hx)
  replace HI := Lib.hid (HI.out.ext hx)
  replace HGH := Lib.hid (HGH.out.ext hx)
  replace HGC := Lib.hid (HGC.out.ext hx)
  replace HBG := Lib.hid (HBG.out.re hx)
  replace HBH := Lib.hid (HBH.out.re hx)
  replace HBC := Lib.hid (HBC.out.re hx)
  clear hx
  have HGD := Lib.hid g1
  have HSD := Lib.hid (show Shp D from ⟨g4, g5, g6, g7, g8⟩)
  have HFD := Lib.hid (show D.ns.map nodeV = canV H ∧ D.rs = canQ H from ⟨g2, g3⟩)
  clear g1 g2 g3 g4 g5 g6 g7 g8
  have k0 := (cells_of HBC.out.here).1
  have l0 := lt_of_heap HBC.out.here
  go_wp2_with fail
  clear k0 l0
  have hy := (Ext.refl w4).alloc (.cells #[.slice D.nA D.ns.length D.ncap, .slice D.rA D.rs.length D.rcap] 25)
  have HBD := Lib.hid (pers_new w4 #[.slice D.nA D.ns.length D.ncap, .slice D.rA D.rs.length D.rcap] 25 _ rfl)
  replace HX := Lib.hid (HX.out.trans hy)
  replace HGG := Lib.hid (HGG.out.ext hy)
  replace HI := Lib.hid (HI.out.ext hy)
  replace HGH := Lib.hid (HGH.out.ext hy)
  replace HGC := Lib.hid (HGC.out.ext hy)
  replace HGD := Lib.hid (HGD.out.ext hy)
  replace HBG := Lib.hid (HBG.out.re hy)
  replace HBH := Lib.hid (HBH.out.re hy)
  replace HBC := Lib.hid (HBC.out.re hy)
  clear hy
  generalize w4.alloc (.cells #[.slice D.nA D.ns.length D.ncap, .slice D.rA D.rs.length D.rcap] 25) = W4 at *
  generalize w4.heap.size = X4 at *
  have HCC := Lib.hid (can_can HKG.out HRG.out HFC.out.1 HFC.out.2 HSC.out)
  have HDD := Lib.hid (can_can HRH.out.1 HRH.out.2.1 HFD.out.1 HFD.out.2 HSD.out)
  have HC2 : Hid (canE C = 0) := Lib.hid (by rw [canE, if_pos HCC.out.2.1])
  have Z0 := canon_any C _ HGC.out HCC.out.1
  rw [HC2.out] at Z0
  refine Z0.mono ?_
  clear Z0
  rintro e w5 ⟨E, rfl, g1, g2, g3, g4, g5, g6, g7, g8, hx⟩
  replace HX := Lib.hid (HX.out.trans hx)
  replace HGG := Lib.hid (HGG.out.ext hx)
  replace HI := Lib.hid (HI.out.ext hx)
  replace HGH := Lib.hid (HGH.out.ext hx)
  replace HGC := Lib.hid (HGC.out.ext hx)
  replace HGD := Lib.hid (HGD.out.ext hx)
  replace HBG := Lib.hid (HBG.out.re hx)
  replace HBH := Lib.hid (HBH.out.re hx)
  replace HBC := Lib.hid (HBC.out.re hx)
  replace HBD := Lib.hid (HBD.out.re hx)
  clear hx
  have HGE := Lib.hid g1
  have HSE := Lib.hid (show Shp E from ⟨g4, g5, g6, g7, g8⟩)
  have HFE := Lib.hid (show E.ns.map nodeV = canV C ∧ E.rs = canQ C from ⟨g2, g3⟩)
  clear g1 g2 g3 g4 g5 g6 g7 g8
  have k0 := (cells_of HBC.out.here).1
  have l0 := lt_of_heap HBC.out.here
  have k1 := (cells_of HBD.out.here).1
  have l1 := lt_of_heap HBD.out.here
  go_wp2_with fail
  clear k0 l0 k1 l1
  have HEE := Lib.hid (can_can HCC.out.1 HCC.out.2.1 HFE.out.1 HFE.out.2 HSE.out)
  have HS1 : Hid (sameG C D = true) := Lib.hid (same_of (vs := canV G) (q := canQ G) HFC.out.1 HFC.out.2 (HFD.out.1.trans HRH.out.2.2.1) (HFD.out.2.trans HRH.out.2.2.2))
  have HS2 : Hid (sameG E C = true) := Lib.hid (same_of (vs := canV G) (q := canQ G) (HFE.out.1.trans HCC.out.2.2.1) (HFE.out.2.trans HCC.out.2.2.2) HFC.out.1 HFC.out.2)
  have HA1 : Hid (alikeG G H = true) := Lib.hid (alikeG_iff.2 ⟨HRG.out, HRH.out.2.1, HRH.out.2.2.2.symm, HRH.out.2.2.1.symm⟩)
  have HA2 : Hid (alikeG C H = true) := Lib.hid (alikeG_iff.2 ⟨HCC.out.2.1, HRH.out.2.1, HCC.out.2.2.2.trans HRH.out.2.2.2.symm, HCC.out.2.2.1.trans HRH.out.2.2.1.symm⟩)
  have hy := (Ext.refl w5).alloc (.cells #[.slice E.nA E.ns.length E.ncap, .slice E.rA E.rs.length E.rcap] 25)
  have HBE := Lib.hid (pers_new w5 #[.slice E.nA E.ns.length E.ncap, .slice E.rA E.rs.length E.rcap] 25 _ rfl)
  replace HX := Lib.hid (HX.out.trans hy)
  replace HGG := Lib.hid (HGG.out.ext hy)
  replace HI := Lib.hid (HI.out.ext hy)
  replace HGH := Lib.hid (HGH.out.ext hy)
  replace HGC := Lib.hid (HGC.out.ext hy)
  replace HGD := Lib.hid (HGD.out.ext hy)
  replace HGE := Lib.hid (HGE.out.ext hy)
  replace HBG := Lib.hid (HBG.out.re hy)
  replace HBH := Lib.hid (HBH.out.re hy)
  replace HBC := Lib.hid (HBC.out.re hy)
  replace HBD := Lib.hid (HBD.out.re hy)
  clear hy
  generalize w5.alloc (.cells #[.slice E.nA E.ns.length E.ncap, .slice E.rA E.rs.length E.rcap] 25) = W5 at *
  generalize w5.heap.size = X5 at *
  refine (grefsame_is C D true _ HS1.out HGC.out HGD.out HCC.out.1.1 HDD.out.1.1).mono ?_
  rintro e w6 ⟨rfl, hx⟩
  replace HX := Lib.hid (HX.out.trans hx)
  replace HGG := Lib.hid (HGG.out.ext hx)
  replace HI := Lib.hid (HI.out.ext hx)
  replace HGH := Lib.hid (HGH.out.ext hx)
  replace HGC := Lib.hid (HGC.out.ext hx)
  replace HGD := Lib.hid (HGD.out.ext hx)
  replace HGE := Lib.hid (HGE.out.ext hx)
  replace HBG := Lib.hid (HBG.out.re hx)
  replace HBH := Lib.hid (HBH.out.re hx)
  replace HBC := Lib.hid (HBC.out.re hx)
  replace HBD := Lib.hid (HBD.out.re hx)
  replace HBE := Lib.hid (HBE.out.re hx)
  clear hx
  have k0 := (cells_of HBE.out.here).1
  have l0 := lt_of_heap HBE.out.here
  have k1 := (cells_of HBC.out.here).1
  have l1 := lt_of_heap HBC.out.here
  go_wp2_with fail
  clear k0 l0 k1 l1
  refine (grefsame_is E C true _ HS2.out HGE.out HGC.out HEE.out.1.1 HCC.out.1.1).mono ?_
  rintro e w7 ⟨rfl, hx⟩
  replace HX := Lib.hid (HX.out.trans hx)
  replace HGG := Lib.hid (HGG.out.ext hx)
  replace HI := Lib.hid (HI.out.ext hx)
  replace HGH := Lib.hid (HGH.out.ext hx)
  replace HGC := Lib.hid (HGC.out.ext hx)
  replace HGD := Lib.hid (HGD.out.ext hx)
  replace HGE := Lib.hid (HGE.out.ext hx)
  replace HBG := Lib.hid (HBG.out.re hx)
  replace HBH := Lib.hid (HBH.out.re hx)
  replace HBC := Lib.hid (HBC.out.re hx)
  replace HBD := Lib.hid (HBD.out.re hx)
  replace HBE := Lib.hid (HBE.out.re hx)
  clear hx
  have k0 := (cells_of HBG.out.here).1
  have l0 := lt_of_heap HBG.out.here
  have k1 := (cells_of HBH.out.here).1
  have l1 := lt_of_heap HBH.out.here
  go_wp2_with fail
  clear k0 l0 k1 l1
  refine (alike_is G H true HA1.out _ HGG.out HGH.out HKG.out HRH.out.1).mono ?_
  rintro e w8 ⟨rfl, hx⟩
  replace HX := Lib.hid (HX.out.trans hx)
  replace HGG := Lib.hid (HGG.out.ext hx)
  replace HI := Lib.hid (HI.out.ext hx)
  replace HGH := Lib.hid (HGH.out.ext hx)
  replace HGC := Lib.hid (HGC.out.ext hx)
  replace HGD := Lib.hid (HGD.out.ext hx)
  replace HGE := Lib.hid (HGE.out.ext hx)
  replace HBG := Lib.hid (HBG.out.re hx)
  replace HBH := Lib.hid (HBH.out.re hx)
  replace HBC := Lib.hid (HBC.out.re hx)
  replace HBD := Lib.hid (HBD.out.re hx)
  replace HBE := Lib.hid (HBE.out.re hx)
  clear hx
  have k0 := (cells_of HBC.out.here).1
  have l0 := lt_of_heap HBC.out.here
  have k1 := (cells_of HBH.out.here).1
  have l1 := lt_of_heap HBH.out.here
  go_wp2_with fail
  clear k0 l0 k1 l1
  refine (alike_is C H true HA2.out _ HGC.out HGH.out HCC.out.1 HRH.out.1).mono ?_
  rintro e w9 ⟨rfl, hx⟩
  replace HX := Lib.hid (HX.out.trans hx)
  replace HGG := Lib.hid (HGG.out.ext hx)
  replace HI := Lib.hid (HI.out.ext hx)
  replace HGH := Lib.hid (HGH.out.ext hx)
  replace HGC := Lib.hid (HGC.out.ext hx)
  replace HGD := Lib.hid (HGD.out.ext hx)
  replace HGE := Lib.hid (HGE.out.ext hx)
  replace HBG := Lib.hid (HBG.out.re hx)
  replace HBH := Lib.hid (HBH.out.re hx)
  replace HBC := Lib.hid (HBC.out.re hx)
  replace HBD := Lib.hid (HBD.out.re hx)
  replace HBE := Lib.hid (HBE.out.re hx)
  clear hx
  go_wp2_with fail
  refine (awake18_any _).mono ?_
  rintro e w10 ⟨rfl, hx⟩
  replace HX := Lib.hid (HX.out.trans hx)
  clear hx
  go_wp2_with fail
  go_returns
  exact ⟨rfl, HX.out⟩
theorem canonTurns_fin {v0 v1 : Value} {w : World} (h0 : IsGraph w v0) (h1 : IsInts w v1) :
    Calls Try.prog 4 #[v0, v1] w fun e w' => e = .returned (.bool true) ∧ Ext w w' := by
  obtain ⟨G, rfl, hG, oG⟩ := h0
  obtain ⟨⟨A, cap, xs⟩, rfl, hl⟩ := h1
  have := hl.wt
  exact canonTurns_any G A cap xs w hG oG hl.row hl.each (by simp only at this; omega)
end Go.Proofs.Ytphpppjfogpohaa

/- The law CanonLike. -/
set_option linter.unusedSimpArgs false
set_option linter.unusedVariables false
namespace Go.Proofs.Ytphpppjfogpohaa
open Go.RowKit Go.Shelf
set_option maxRecDepth 100000
set_option maxHeartbeats 4000000
theorem canonLike_any (A B C : GraphD) (V : World) (hA : GraphAt V A) (hB : GraphAt V B) (hC : GraphAt V C) (oA : GraphOk A) (oB : GraphOk B) (oC : GraphOk C) :
    Calls Try.prog 5 #[.agg #[.slice A.nA A.ns.length A.ncap, .slice A.rA A.rs.length A.rcap], .agg #[.slice B.nA B.ns.length B.ncap, .slice B.rA B.rs.length B.rcap], .agg #[.slice C.nA C.ns.length C.ncap, .slice C.rA C.rs.length C.rcap]] V fun e w' => e = .returned (.bool true) ∧ Ext V w' := by
  have hx0 := (((Ext.refl V).alloc (.cells #[.slice A.nA A.ns.length A.ncap, .slice A.rA A.rs.length A.rcap] 25)).alloc (.cells #[.slice B.nA B.ns.length B.ncap, .slice B.rA B.rs.length B.rcap] 25)).alloc (.cells #[.slice C.nA C.ns.length C.ncap, .slice C.rA C.rs.length C.rcap] 25)
  have HBA := Lib.hid ((pers_new V #[.slice A.nA A.ns.length A.ncap, .slice A.rA A.rs.length A.rcap] 25 (V.heap.size) rfl).re (((Ext.refl _).alloc (.cells #[.slice B.nA B.ns.length B.ncap, .slice B.rA B.rs.length B.rcap] 25)).alloc (.cells #[.slice C.nA C.ns.length C.ncap, .slice C.rA C.rs.length C.rcap] 25)))
  have HBB := Lib.hid ((pers_new (V.alloc (.cells #[.slice A.nA A.ns.length A.ncap, .slice A.rA A.rs.length A.rcap] 25)) #[.slice B.nA B.ns.length B.ncap, .slice B.rA B.rs.length B.rcap] 25 (V.heap.size + 1) (by simp)).re ((Ext.refl _).alloc (.cells #[.slice C.nA C.ns.length C.ncap, .slice C.rA C.rs.length C.rcap] 25)))
  have HBC := Lib.hid ((pers_new ((V.alloc (.cells #[.slice A.nA A.ns.length A.ncap, .slice A.rA A.rs.length A.rcap] 25)).alloc (.cells #[.slice B.nA B.ns.length B.ncap, .slice B.rA B.rs.length B.rcap] 25)) #[.slice C.nA C.ns.length C.ncap, .slice C.rA C.rs.length C.rcap] 25 (V.heap.size + 1 + 1) (by simp)))
  have HX := Lib.hid hx0
  have HGA := Lib.hid (hA.ext hx0)
  have HOA := Lib.hid oA
  have HGB := Lib.hid (hB.ext hx0)
  have HOB := Lib.hid oB
  have HGC := Lib.hid (hC.ext hx0)
  have HOC := Lib.hid oC
  clear hx0 hA oA hB oB hC oC
  cases hLA : largeG A with
  | true =>
    have k0 := (cells_of HBA.out.here).1
    have l0 := lt_of_heap HBA.out.here
    go_enter Try.func5, Try.ntmps5
    go_wp2_with fail
    clear k0 l0
    refine (large_is A true hLA _ HGA.out HOA.out).mono ?_
    rintro e w1 ⟨rfl, hx⟩
    replace HX := Lib.hid (HX.out.trans hx)
    replace HGA := Lib.hid (HGA.out.ext hx)
    replace HGB := Lib.hid (HGB.out.ext hx)
    replace HGC := Lib.hid (HGC.out.ext hx)
    replace HBA := Lib.hid (HBA.out.re hx)
    replace HBB := Lib.hid (HBB.out.re hx)
    replace HBC := Lib.hid (HBC.out.re hx)
    clear hx
    go_wp2_with fail
    refine (awake18_any _).mono ?_
    rintro e w9 ⟨rfl, hx⟩
    replace HX := Lib.hid (HX.out.trans hx)
    clear hx
    go_wp2_with fail
    go_returns
    exact ⟨rfl, HX.out⟩
  | false =>
  cases hLB : largeG B with
  | true =>
    have k0 := (cells_of HBA.out.here).1
    have l0 := lt_of_heap HBA.out.here
    go_enter Try.func5, Try.ntmps5
    go_wp2_with fail
    clear k0 l0
    refine (large_is A false hLA _ HGA.out HOA.out).mono ?_
    rintro e w1 ⟨rfl, hx⟩
    replace HX := Lib.hid (HX.out.trans hx)
    replace HGA := Lib.hid (HGA.out.ext hx)
    replace HGB := Lib.hid (HGB.out.ext hx)
    replace HGC := Lib.hid (HGC.out.ext hx)
    replace HBA := Lib.hid (HBA.out.re hx)
    replace HBB := Lib.hid (HBB.out.re hx)
    replace HBC := Lib.hid (HBC.out.re hx)
    clear hx
    have k0 := (cells_of HBB.out.here).1
    have l0 := lt_of_heap HBB.out.here
    go_wp2_with fail
    clear k0 l0
    refine (large_is B true hLB _ HGB.out HOB.out).mono ?_
    rintro e w2 ⟨rfl, hx⟩
    replace HX := Lib.hid (HX.out.trans hx)
    replace HGA := Lib.hid (HGA.out.ext hx)
    replace HGB := Lib.hid (HGB.out.ext hx)
    replace HGC := Lib.hid (HGC.out.ext hx)
    replace HBA := Lib.hid (HBA.out.re hx)
    replace HBB := Lib.hid (HBB.out.re hx)
    replace HBC := Lib.hid (HBC.out.re hx)
    clear hx
    go_wp2_with fail
    refine (awake18_any _).mono ?_
    rintro e w9 ⟨rfl, hx⟩
    replace HX := Lib.hid (HX.out.trans hx)
    clear hx
    go_wp2_with fail
    go_returns
    exact ⟨rfl, HX.out⟩
  | false =>
  cases hLC : largeG C with
  | true =>
    have k0 := (cells_of HBA.out.here).1
    have l0 := lt_of_heap HBA.out.here
    go_enter Try.func5, Try.ntmps5
    go_wp2_with fail
    clear k0 l0
    refine (large_is A false hLA _ HGA.out HOA.out).mono ?_
    rintro e w1 ⟨rfl, hx⟩
    replace HX := Lib.hid (HX.out.trans hx)
    replace HGA := Lib.hid (HGA.out.ext hx)
    replace HGB := Lib.hid (HGB.out.ext hx)
    replace HGC := Lib.hid (HGC.out.ext hx)
    replace HBA := Lib.hid (HBA.out.re hx)
    replace HBB := Lib.hid (HBB.out.re hx)
    replace HBC := Lib.hid (HBC.out.re hx)
    clear hx
    have k0 := (cells_of HBB.out.here).1
    have l0 := lt_of_heap HBB.out.here
    go_wp2_with fail
    clear k0 l0
    refine (large_is B false hLB _ HGB.out HOB.out).mono ?_
    rintro e w2 ⟨rfl, hx⟩
    replace HX := Lib.hid (HX.out.trans hx)
    replace HGA := Lib.hid (HGA.out.ext hx)
    replace HGB := Lib.hid (HGB.out.ext hx)
    replace HGC := Lib.hid (HGC.out.ext hx)
    replace HBA := Lib.hid (HBA.out.re hx)
    replace HBB := Lib.hid (HBB.out.re hx)
    replace HBC := Lib.hid (HBC.out.re hx)
    clear hx
    have k0 := (cells_of HBC.out.here).1
    have l0 := lt_of_heap HBC.out.here
    go_wp2_with fail
    clear k0 l0
    refine (large_is C true hLC _ HGC.out HOC.out).mono ?_
    rintro e w3 ⟨rfl, hx⟩
    replace HX := Lib.hid (HX.out.trans hx)
    replace HGA := Lib.hid (HGA.out.ext hx)
    replace HGB := Lib.hid (HGB.out.ext hx)
    replace HGC := Lib.hid (HGC.out.ext hx)
    replace HBA := Lib.hid (HBA.out.re hx)
    replace HBB := Lib.hid (HBB.out.re hx)
    replace HBC := Lib.hid (HBC.out.re hx)
    clear hx
    go_wp2_with fail
    refine (awake18_any _).mono ?_
    rintro e w9 ⟨rfl, hx⟩
    replace HX := Lib.hid (HX.out.trans hx)
    clear hx
    go_wp2_with fail
    go_returns
    exact ⟨rfl, HX.out⟩
  | false =>
  have HKA : Hid (GOk A) := Lib.hid ⟨HOA.out, hLA⟩
  have HKB : Hid (GOk B) := Lib.hid ⟨HOB.out, hLB⟩
  have HKC : Hid (GOk C) := Lib.hid ⟨HOC.out, hLC⟩
  obtain ⟨r1, hr1⟩ : ∃ r, alikeG A B = r := ⟨_, rfl⟩
  obtain ⟨r2, hr2⟩ : ∃ r, alikeG B C = r := ⟨_, rfl⟩
  obtain ⟨r3, hr3⟩ : ∃ r, alikeG A C = r := ⟨_, rfl⟩
  obtain ⟨ra, hra⟩ : ∃ r, rightG A = r := ⟨_, rfl⟩
  have hrr : r1 = true → r2 = r3 := fun h => by
    rw [← hr2, ← hr3]
    exact alikeG_trans (hr1.trans h)
  have H1 := Lib.hid hr1
  have H2 := Lib.hid hr2
  have H3 := Lib.hid hr3
  have H4 := Lib.hid hra
  have H5 : Hid (alikeG A A = ra) := Lib.hid ((alikeG_self A).trans hra)
  have H6 : Hid (alikeG B A = r1) := Lib.hid ((alikeG_comm B A).trans hr1)
  clear hr1 hr2 hr3 hra
  have k0 := (cells_of HBA.out.here).1
  have l0 := lt_of_heap HBA.out.here
  go_enter Try.func5, Try.ntmps5
  go_wp2_with fail
  clear k0 l0
  refine (large_is A false hLA _ HGA.out HOA.out).mono ?_
  rintro e w1 ⟨rfl, hx⟩
  replace HX := Lib.hid (HX.out.trans hx)
  replace HGA := Lib.hid (HGA.out.ext hx)
  replace HGB := Lib.hid (HGB.out.ext hx)
  replace HGC := Lib.hid (HGC.out.ext hx)
  replace HBA := Lib.hid (HBA.out.re hx)
  replace HBB := Lib.hid (HBB.out.re hx)
  replace HBC := Lib.hid (HBC.out.re hx)
  clear hx
  have k0 := (cells_of HBB.out.here).1
  have l0 := lt_of_heap HBB.out.here
  go_wp2_with fail
  clear k0 l0
  refine (large_is B false hLB _ HGB.out HOB.out).mono ?_
  rintro e w2 ⟨rfl, hx⟩
  replace HX := Lib.hid (HX.out.trans hx)
  replace HGA := Lib.hid (HGA.out.ext hx)
  replace HGB := Lib.hid (HGB.out.ext hx)
  replace HGC := Lib.hid (HGC.out.ext hx)
  replace HBA := Lib.hid (HBA.out.re hx)
  replace HBB := Lib.hid (HBB.out.re hx)
  replace HBC := Lib.hid (HBC.out.re hx)
  clear hx
  have k0 := (cells_of HBC.out.here).1
  have l0 := lt_of_heap HBC.out.here
  go_wp2_with fail
  clear k0 l0
  refine (large_is C false hLC _ HGC.out HOC.out).mono ?_
  rintro e w3 ⟨rfl, hx⟩
  replace HX := Lib.hid (HX.out.trans hx)
  replace HGA := Lib.hid (HGA.out.ext hx)
  replace HGB := Lib.hid (HGB.out.ext hx)
  replace HGC := Lib.hid (HGC.out.ext hx)
  replace HBA := Lib.hid (HBA.out.re hx)
  replace HBB := Lib.hid (HBB.out.re hx)
  replace HBC := Lib.hid (HBC.out.re hx)
  clear hx
  go_wp2_with fail
  obtain ⟨wa, rfl⟩ : ∃ w : World, w = w3 := ⟨_, rfl⟩
  have b0 := HBA.out.cells
  have b1 := HBB.out.cells
  have b2 := HBC.out.cells
  have hs0 : Ext wa wa := Ext.refl _
  have C1 := Lib.hid (fun u : ExtOf wa => alike_is A B _ H1.out u.1 (HGA.out.ext u.2) (HGB.out.ext u.2) HKA.out HKB.out)
  have C2 := Lib.hid (fun u : ExtOf wa => alike_is B C _ H2.out u.1 (HGB.out.ext u.2) (HGC.out.ext u.2) HKB.out HKC.out)
  have C3 := Lib.hid (fun u : ExtOf wa => alike_is A C _ H3.out u.1 (HGA.out.ext u.2) (HGC.out.ext u.2) HKA.out HKC.out)
  (refine wp_region_ext (W := wa) (by kernel_rfl) (by kernel_rfl) (by with_reducible assumption) ?_; (repeat (go_big_quiet_step (first | (go_at_call 16; with_reducible exact Calls.ext_of (C1.out _)) | (go_at_call 16; with_reducible exact Calls.ext_of (C2.out _)) | (go_at_call 16; with_reducible exact Calls.ext_of (C3.out _))))); refine wpQuiet_nil ?_; intro w1 hx)
  clear b0 b1 b2 hs0 C1 C2 C3
  obtain ⟨wb, rfl⟩ : ∃ w : World, w = w1 := ⟨_, rfl⟩
  replace HX := Lib.hid (HX.out.trans hx)
  replace HGA := Lib.hid (HGA.out.ext hx)
  replace HGB := Lib.hid (HGB.out.ext hx)
  replace HGC := Lib.hid (HGC.out.ext hx)
  replace HBA := Lib.hid (HBA.out.re hx)
  replace HBB := Lib.hid (HBB.out.re hx)
  replace HBC := Lib.hid (HBC.out.re hx)
  clear hx
  go_wp2_with fail
  have b0 := HBA.out.cells
  have b1 := HBB.out.cells
  have b2 := HBC.out.cells
  have hs0 : Ext wb wb := Ext.refl _
  have C1 := Lib.hid (fun u : ExtOf wb => alike_is A A _ H5.out u.1 (HGA.out.ext u.2) (HGA.out.ext u.2) HKA.out HKA.out)
  have C2 := Lib.hid (fun u : ExtOf wb => alike_is B A _ H6.out u.1 (HGB.out.ext u.2) (HGA.out.ext u.2) HKB.out HKA.out)
  have C3 := Lib.hid (fun u : ExtOf wb => right_is A ra H4.out u.1 (HGA.out.ext u.2) (by have := HOA.out.nl; omega) (by have := HOA.out.rl; omega) (fun x hx => by have := (HOA.out.each x hx).fl; omega))
  have C4 := Lib.hid (fun u : ExtOf wb => awake18_any u.1)
  clear H1 H2 H3 H4 H5 H6
  cases ra
  all_goals cases r1
  all_goals (first | (have e := hrr rfl; subst e; cases r2) | skip)
  all_goals clear hrr
  all_goals
    (refine wp_region_ext (W := wb) (by kernel_rfl) (by kernel_rfl) (by with_reducible assumption) ?_; (repeat (go_big_quiet_step (first | (go_at_call 16; with_reducible exact Calls.ext_of (C1.out _)) | (go_at_call 16; with_reducible exact Calls.ext_of (C2.out _)) | (go_at_call 19; with_reducible exact Calls.ext_of (C3.out _)) | (go_at_call 10; with_reducible exact Calls.ext_of (C4.out _))))); refine wpQuiet_nil ?_; intro w1 hx)
    go_wp2_with fail
    go_returns
    exact ⟨rfl, HX.out.trans hx⟩
theorem canonLike_fin {v0 v1 v2 : Value} {w : World} (h0 : IsGraph w v0) (h1 : IsGraph w v1) (h2 : IsGraph w v2) :
    Calls Try.prog 5 #[v0, v1, v2] w fun e w' => e = .returned (.bool true) ∧ Ext w w' := by
  obtain ⟨G, rfl, hG, oG⟩ := h0
  obtain ⟨H, rfl, hH, oH⟩ := h1
  obtain ⟨K, rfl, hK, oK⟩ := h2
  exact canonLike_any G H K w hG hH hK oG oH oK
end Go.Proofs.Ytphpppjfogpohaa

