/- Two graphs held against one another: the program and the reference. -/
import Derived.Test.YtidfibheehcdgaaGraK
set_option linter.unusedSimpArgs false
set_option linter.unusedVariables false
namespace Go.Proofs.Ytidfibheehcdgaa
open Go.RowKit Go.Shelf

/-- What a node is. -/
def nodeV (x : NodeD) : Int × List (Int × Int) × List Int := (x.kind, x.fields, x.raws)
def sameN (x y : NodeD) : Bool := decide (x.kind = y.kind) && (decide (x.fields = y.fields) && decide (x.raws = y.raws))
def sameL (a b : List NodeD) : Bool := decide (a.map nodeV = b.map nodeV)
def sameG (G H : GraphD) : Bool := decide (G.rs = H.rs) && sameL G.ns H.ns
theorem sameN_iff {x y : NodeD} : sameN x y = true ↔ nodeV x = nodeV y := by simp [sameN, nodeV]
theorem sameL_all {a b : List NodeD} (hl : a.length = b.length) (h : ∀ i, i < a.length → sameN (a.getD i default) (b.getD i default) = true) : sameL a b = true := by
  unfold sameL
  rw [decide_eq_true_eq]
  refine List.ext_getElem (by simpa using hl) fun i h1 h2 => ?_
  have h1' : i < a.length := by simpa using h1
  have h2' : i < b.length := by simpa using h2
  have := sameN_iff.1 (h i h1')
  simpa [List.getElem?_eq_getElem h1', List.getElem?_eq_getElem h2'] using this
theorem sameL_len {a b : List NodeD} (h : a.length ≠ b.length) : sameL a b = false := by
  unfold sameL
  rw [decide_eq_false_iff_not]
  intro e
  have := congrArg List.length e
  simp at this
  exact h this
theorem sameL_one {a b : List NodeD} {k : Nat} (hk : k < a.length) (hk2 : k < b.length) (h : sameN (a.getD k default) (b.getD k default) = false) : sameL a b = false := by
  unfold sameL
  rw [decide_eq_false_iff_not]
  intro e
  have h2 : (a.map nodeV)[k]? = (b.map nodeV)[k]? := by rw [e]
  rw [List.getElem?_map, List.getElem?_map, List.getElem?_eq_getElem hk, List.getElem?_eq_getElem hk2] at h2
  simp only [Option.map_some, Option.some.injEq] at h2
  have h3 := sameN_iff.2 h2
  rw [List.getD_eq_getElem?_getD, List.getD_eq_getElem?_getD, List.getElem?_eq_getElem hk, List.getElem?_eq_getElem hk2] at h
  simp only [Option.getD_some] at h
  rw [h3] at h
  cases h
theorem upTo2 {a b : List NodeD} {k : Nat} (hq : ∀ i, i < k → sameN (a.getD i default) (b.getD i default) = true) (h : sameN (a.getD k default) (b.getD k default) = true) : ∀ i, i < k + 1 → sameN (a.getD i default) (b.getD i default) = true := fun i hi => by
  rcases Nat.lt_or_ge i k with h' | h'
  · exact hq i h'
  · obtain rfl : i = k := by omega
    exact h
/-- A node's bounds. -/
def NodeB (x : NodeD) : Prop := x.fields.length ≤ 9223372036854775807 ∧ x.raws.length ≤ 9223372036854775807
theorem equalV_is (A A2 : Option Addr) (cap cap2 : Nat) (xs ys : List (Int × Int)) (b : Bool) (hb : decide (xs = ys) = b) (W : World) (hlen : xs.length ≤ 9223372036854775807) (hlen2 : ys.length ≤ 9223372036854775807) (hl : SpansAt W A xs) (hl2 : SpansAt W A2 ys) :
    Calls Try.prog 35 #[.slice A xs.length cap, .slice A2 ys.length cap2] W fun e w' => e = .returned (.bool b) ∧ Ext W w' := by
  subst hb; exact equalV_any A A2 cap cap2 xs ys W hlen hlen2 hl hl2
theorem equalU_is (A A2 : Option Addr) (cap cap2 : Nat) (xs ys : List Int) (b : Bool) (hb : decide (xs = ys) = b) (W : World) (hlen : xs.length ≤ 9223372036854775807) (hlen2 : ys.length ≤ 9223372036854775807) (hl : WordsAt W A xs) (hl2 : WordsAt W A2 ys) :
    Calls Try.prog 38 #[.slice A xs.length cap, .slice A2 ys.length cap2] W fun e w' => e = .returned (.bool b) ∧ Ext W w' := by
  subst hb; exact equalU_any A A2 cap cap2 xs ys W hlen hlen2 hl hl2
theorem vals_is (A A2 : Option Addr) (cap cap2 : Nat) (xs ys : List (Int × Int)) (b : Bool) (hb : decide (xs = ys) = b) (W : World) (hlen : xs.length ≤ 9223372036854775807) (hlen2 : ys.length ≤ 9223372036854775807) (hl : SpansAt W A xs) (hl2 : SpansAt W A2 ys) :
    Calls Try.prog 33 #[.slice A xs.length cap, .slice A2 ys.length cap2] W fun e w' => e = .returned (.bool b) ∧ Ext W w' := by
  subst hb; exact vals_any A A2 cap cap2 xs ys W hlen hlen2 hl hl2
theorem refwords_is (A A2 : Option Addr) (cap cap2 : Nat) (xs ys : List Int) (b : Bool) (hb : decide (xs = ys) = b) (W : World) (hlen : xs.length ≤ 9223372036854775807) (hlen2 : ys.length ≤ 9223372036854775807) (hl : WordsAt W A xs) (hl2 : WordsAt W A2 ys) :
    Calls Try.prog 34 #[.slice A xs.length cap, .slice A2 ys.length cap2] W fun e w' => e = .returned (.bool b) ∧ Ext W w' := by
  subst hb; exact refwords_any A A2 cap cap2 xs ys W hlen hlen2 hl hl2

set_option maxRecDepth 100000
set_option maxHeartbeats 8000000
theorem same1_any (x y : NodeD) (W : World) (hx : NodeAt W x) (hy : NodeAt W y) (bx : NodeB x) (bY : NodeB y) :
    Calls Try.prog 37 #[.agg #[.int .i64 x.kind, .slice x.fA x.fields.length x.fcap, .slice x.rA x.raws.length x.rcap], .agg #[.int .i64 y.kind, .slice y.fA y.fields.length y.fcap, .slice y.rA y.raws.length y.rcap]] W fun e w' => e = .returned (.bool (sameN x y)) ∧ Ext W w' := by
  have HX := Lib.hid hx
  have HY := Lib.hid hy
  obtain ⟨x1, x2⟩ := bx
  obtain ⟨y1, y2⟩ := bY
  clear hx hy
  have hw : Ext W ((W.alloc (.cells #[.int .i64 x.kind, .slice x.fA x.fields.length x.fcap, .slice x.rA x.raws.length x.rcap] 34)).alloc (.cells #[.int .i64 y.kind, .slice y.fA y.fields.length y.fcap, .slice y.rA y.raws.length y.rcap] 34)) := ((Ext.refl W).alloc _).alloc _
  have k2 := fun w' (h : Ext ((W.alloc (.cells #[.int .i64 x.kind, .slice x.fA x.fields.length x.fcap, .slice x.rA x.raws.length x.rcap] 34)).alloc (.cells #[.int .i64 y.kind, .slice y.fA y.fields.length y.fcap, .slice y.rA y.raws.length y.rcap] 34)) w') => boxed W #[.int .i64 x.kind, .slice x.fA x.fields.length x.fcap, .slice x.rA x.raws.length x.rcap] 34 2 (.slice x.rA x.raws.length x.rcap) rfl w' (((Ext.refl _).alloc _).trans h)
  have k5 := fun w' => boxed (W.alloc (.cells #[.int .i64 x.kind, .slice x.fA x.fields.length x.fcap, .slice x.rA x.raws.length x.rcap] 34)) #[.int .i64 y.kind, .slice y.fA y.fields.length y.fcap, .slice y.rA y.raws.length y.rcap] 34 2 (.slice y.rA y.raws.length y.rcap) rfl w'
  simp only [World.size_alloc] at k5
  by_cases h1 : x.kind = y.kind
  rotate_left
  · have hd : (x.kind == y.kind) = false := by simpa using h1
    have HR := Lib.hid (show sameN x y = false by simp [sameN, h1])
    clear h1 k2 k5
    go_enter Try.func37, Try.ntmps37
    go_wp2_with fail
    go_ret
    exact ⟨ret_bool HR.out.symm, hw⟩
  have hd : (x.kind == y.kind) = true := by simpa using h1
  obtain ⟨b, hb⟩ : ∃ b, decide (x.fields = y.fields) = b := ⟨_, rfl⟩
  obtain ⟨c, hc⟩ : ∃ c, decide (x.raws = y.raws) = c := ⟨_, rfl⟩
  have HR := Lib.hid (show sameN x y = (b && c) by simp [sameN, h1, hb, hc])
  have HB := Lib.hid hb
  have HC := Lib.hid hc
  clear hb hc h1
  go_enter Try.func37, Try.ntmps37
  go_wp2_with fail
  refine (equalV_is x.fA y.fA x.fcap y.fcap x.fields y.fields b HB.out _ x1 y1 (HX.out.fields.ext hw) (HY.out.fields.ext hw)).mono ?_
  rintro e w1 ⟨rfl, hx1⟩
  have HW := Lib.hid (hw.trans hx1)
  have c2 := k2 w1 hx1
  have c5 := k5 w1 hx1
  clear hx1 k2 k5 hw
  cases b
  · go_wp2_with fail
    go_ret
    exact ⟨ret_bool HR.out.symm, HW.out⟩
  · go_wp2_with fail
    refine (equalU_is x.rA y.rA x.rcap y.rcap x.raws y.raws c HC.out _ x2 y2 (HX.out.raws.ext HW.out) (HY.out.raws.ext HW.out)).mono ?_
    rintro e w2 ⟨rfl, hx2⟩
    have HW2 := Lib.hid (HW.out.trans hx2)
    clear hx2
    go_wp2_with fail
    go_ret
    exact ⟨ret_bool (HR.out.trans (Bool.true_and _)).symm, HW2.out⟩
theorem equalF_any (A A2 : Option Addr) (cap cap2 : Nat) (xs ys : List NodeD) (W : World) (hlen : xs.length ≤ 9223372036854775807) (hlen2 : ys.length ≤ 9223372036854775807) (hl : NodesAt W A xs) (hl2 : NodesAt W A2 ys) (bx : ∀ x ∈ xs, NodeB x) (bY : ∀ x ∈ ys, NodeB x) :
    Calls Try.prog 36 #[.slice A xs.length cap, .slice A2 ys.length cap2, .func (.func 37) #[] #[]] W fun e w' => e = .returned (.bool (sameL xs ys)) ∧ Ext W w' := by
  have HL := Lib.hid hl
  have HL2 := Lib.hid hl2
  have HBX := Lib.hid bx
  have HBY := Lib.hid bY
  clear hl hl2 bx bY
  by_cases hne : xs.length = ys.length
  rotate_left
  · have h1 : ((xs.length : Int) != (ys.length : Int)) = true := by rw [bne_iff_ne]; omega
    have HR := Lib.hid (sameL_len hne)
    clear hne
    go_enter Try.func36, Try.ntmps36
    go_wp2_with fail
    go_ret
    exact ⟨ret_bool (by rw [HR.out]), Ext.refl _⟩
  have HN := Lib.hid hne
  have h1 : ((xs.length : Int) != (ys.length : Int)) = false := by rw [← HN.out]; simp
  clear hne
  go_enter Try.func36, Try.ntmps36
  go_wp2_with fail
  go_loopw [17] (fun i wr => ∃ k : Nat, k ≤ xs.length ∧ i = .int .i64 k ∧ Ext W wr ∧ Hid (∀ i, i < k → sameN (xs.getD i default) (ys.getD i default) = true)) (fun i _ => xs.length - (intOf i).toNat)
  case atStart => exact ⟨0, by omega, rfl, Ext.refl _, Lib.hid (by omega)⟩
  case round =>
    obtain ⟨k, hk, rfl, hxr, hq⟩ := hrel
    by_cases hlt : k < xs.length
    rotate_left
    · have HR := Lib.hid (sameL_all HN.out (fun i hi => hq.out i (by omega)))
      clear hq
      go_wp2_with fail
      go_ret
      exact ⟨ret_bool (by rw [HR.out]), hxr⟩
    have hlt2 : k < ys.length := by have := HN.out; omega
    obtain ⟨lb, off, rfl, hc⟩ := HL.out.row.get (by omega)
    obtain ⟨lb2, off2, rfl, hc2⟩ := HL2.out.row.get (by omega)
    obtain ⟨d0, d1, d2⟩ := nodes_cell hc hlt
    obtain ⟨d3, d4, d5⟩ := nodes_cell hc2 hlt2
    have e0 := hxr.cell d0
    have e1 := hxr.cell d1
    have e2 := hxr.cell d2
    have e3 := hxr.cell d3
    have e4 := hxr.cell d4
    have e5 := hxr.cell d5
    have HNX := Lib.hid (HL.out.each _ (getD_mem (d := default) hlt))
    have HNY := Lib.hid (HL2.out.each _ (getD_mem (d := default) hlt2))
    have hbx := Lib.hid (HBX.out _ (getD_mem (d := default) hlt))
    have hby := Lib.hid (HBY.out _ (getD_mem (d := default) hlt2))
    have HU := Lib.hid (fun h => upTo2 (a := xs) (b := ys) hq.out h)
    have HO := Lib.hid (fun h => sameL_one (a := xs) (b := ys) hlt hlt2 h)
    have hlb : lb < wr.heap.size := by
      have h : lb < W.heap.size := by
        unfold World.cell? at d0
        rcases Nat.lt_or_ge lb W.heap.size with h | h
        · exact h
        · rw [Array.getElem?_eq_none h] at d0; cases d0
      have := Ext.size hxr; omega
    have hlb2 : lb2 < wr.heap.size := by
      have h : lb2 < W.heap.size := by
        unfold World.cell? at d3
        rcases Nat.lt_or_ge lb2 W.heap.size with h | h
        · exact h
        · rw [Array.getElem?_eq_none h] at d3; cases d3
      have := Ext.size hxr; omega
    have ib1 : (k : Int) < (xs.length : Int) := by omega
    have ib2 : (k : Int) < (ys.length : Int) := by omega
    have ib3 : (0 : Int) ≤ (k : Int) := by omega
    clear hc hc2 d0 d1 d2 d3 d4 d5 hq HL HL2 HBX HBY
    generalize xs.getD k default = x at *
    generalize ys.getD k default = y at *
    have hw : Ext W ((wr.alloc (.cells #[.int .i64 x.kind, .slice x.fA x.fields.length x.fcap, .slice x.rA x.raws.length x.rcap] 34)).alloc (.cells #[.int .i64 y.kind, .slice y.fA y.fields.length y.fcap, .slice y.rA y.raws.length y.rcap] 34)) := (hxr.alloc _).alloc _
    go_wp2_with fail
    refine (same1_any x y _ (HNX.out.ext hw) (HNY.out.ext hw) hbx.out hby.out).mono ?_
    rintro e w1 ⟨rfl, hx1⟩
    have hW1 := hw.trans hx1
    clear hw hx1
    cases hs : sameN x y
    · have HR := Lib.hid (HO.out hs)
      clear HU HO hs
      go_wp2_with fail
      go_ret
      exact ⟨ret_bool HR.out.symm, hW1⟩
    · have HR := Lib.hid (HU.out hs)
      clear HU HO hs
      go_wp2_with fail
      go_roundw
      case rel => exact ⟨k + 1, by omega, by go_num, hW1, HR⟩
      case measure => simp [intOf]; omega
theorem same_any (G H : GraphD) (W : World) (hG : GraphAt W G) (hH : GraphAt W H) (oG : GraphOk G) (oH : GraphOk H) :
    Calls Try.prog 21 #[.agg #[.slice G.nA G.ns.length G.ncap, .slice G.rA G.rs.length G.rcap], .agg #[.slice H.nA H.ns.length H.ncap, .slice H.rA H.rs.length H.rcap]] W fun e w' => e = .returned (.bool (sameG G H)) ∧ Ext W w' := by
  have HG := Lib.hid hG
  have HH := Lib.hid hH
  have g1 := oG.nl
  have g2 := oG.rl
  have h1 := oH.nl
  have h2 := oH.rl
  have HBG := Lib.hid (show ∀ x ∈ G.ns, NodeB x from fun x hx => ⟨by have := (oG.each x hx).fl; omega, by have := (oG.each x hx).rl; omega⟩)
  have HBH := Lib.hid (show ∀ x ∈ H.ns, NodeB x from fun x hx => ⟨by have := (oH.each x hx).fl; omega, by have := (oH.each x hx).rl; omega⟩)
  have hw : Ext W ((W.alloc (.cells #[.slice G.nA G.ns.length G.ncap, .slice G.rA G.rs.length G.rcap] 25)).alloc (.cells #[.slice H.nA H.ns.length H.ncap, .slice H.rA H.rs.length H.rcap] 25)) := ((Ext.refl W).alloc _).alloc _
  have k2 := fun w' (h : Ext ((W.alloc (.cells #[.slice G.nA G.ns.length G.ncap, .slice G.rA G.rs.length G.rcap] 25)).alloc (.cells #[.slice H.nA H.ns.length H.ncap, .slice H.rA H.rs.length H.rcap] 25)) w') => boxed W #[.slice G.nA G.ns.length G.ncap, .slice G.rA G.rs.length G.rcap] 25 0 (.slice G.nA G.ns.length G.ncap) rfl w' (((Ext.refl _).alloc _).trans h)
  have k5 := fun w' => boxed (W.alloc (.cells #[.slice G.nA G.ns.length G.ncap, .slice G.rA G.rs.length G.rcap] 25)) #[.slice H.nA H.ns.length H.ncap, .slice H.rA H.rs.length H.rcap] 25 0 (.slice H.nA H.ns.length H.ncap) rfl w'
  simp only [World.size_alloc] at k5
  obtain ⟨b, hb⟩ : ∃ b, decide (G.rs = H.rs) = b := ⟨_, rfl⟩
  have HR := Lib.hid (show sameG G H = (b && sameL G.ns H.ns) by unfold sameG; rw [hb])
  have HB := Lib.hid hb
  clear hG hH oG oH hb
  go_enter Try.func21, Try.ntmps21
  go_wp2_with fail
  refine (equalV_is G.rA H.rA G.rcap H.rcap G.rs H.rs b HB.out _ (by omega) (by omega) (HG.out.roots.ext hw) (HH.out.roots.ext hw)).mono ?_
  rintro e w1 ⟨rfl, hx1⟩
  have HW := Lib.hid (hw.trans hx1)
  have c2 := k2 w1 hx1
  have c5 := k5 w1 hx1
  clear hx1 k2 k5 hw
  cases b
  · go_wp2_with fail
    go_ret
    exact ⟨ret_bool HR.out.symm, HW.out⟩
  · go_wp2_with fail
    refine (equalF_any G.nA H.nA G.ncap H.ncap G.ns H.ns _ (by omega) (by omega) (HG.out.nodes.ext HW.out) (HH.out.nodes.ext HW.out) HBG.out HBH.out).mono ?_
    rintro e w2 ⟨rfl, hx2⟩
    have HW2 := Lib.hid (HW.out.trans hx2)
    clear hx2
    go_wp2_with fail
    go_ret
    exact ⟨ret_bool (HR.out.trans (Bool.true_and _)).symm, HW2.out⟩
end Go.Proofs.Ytidfibheehcdgaa
