/- Merged by program (merge.py) out of: StW, OwnC, AwF. -/
import Derived.Test.YtkcpfimhbogdcaaMs30
import Derived.Test.YtkcpfimhbogdcaaMs19
import Derived.Test.YtkcpfimhbogdcaaMs31
import Derived.Test.YtkcpfimhbogdcaaMs13
/- The contracts of a heap that is a datum, and of the example's heaps. -/
set_option linter.unusedSimpArgs false
set_option linter.unusedVariables false
namespace Go.Proofs.Ytkcpfimhbogdcaa
open Go.RowKit Go.Shelf

theorem flat_setAt {α : Type} {n : Nat} {f : α → List Value} (hf : Cells n f) (y : α) (j : Nat) (hj : j < n) (u : Value) : ∀ (xs : List α) (k : Nat) (hk : k < xs.length), f y = (f xs[k]).set j u → (xs.set k y).flatMap f = (xs.flatMap f).set (k * n + j) u := by
  intro xs
  induction xs with
  | nil => intro k hk; simp at hk
  | cons x xs ih =>
    intro k hk h
    have hl : (f x).length = n := hf.1 x
    cases k with
    | zero =>
      simp only [List.set_cons_zero, List.flatMap_cons, Nat.zero_mul, Nat.zero_add]
      rw [List.set_append_left _ _ (by omega)]
      simp only [List.getElem_cons_zero] at h
      rw [h]
    | succ k =>
      simp only [List.set_cons_succ, List.flatMap_cons]
      have e : (k + 1) * n + j = n + (k * n + j) := by rw [Nat.succ_mul]; omega
      rw [List.set_append_right _ _ (by rw [hl, e]; omega), hl, e, Nat.add_sub_cancel_left]
      congr 1
      exact ih k (by simpa using hk) (by simpa using h)
theorem own_setAt {α : Type} {e : TypeId} {n : Nat} {f : α → List Value} {w : World} {B g N cap : Nat} {xs : List α} (hf : Cells n f) (h : Own e n f w B (.slice (some ⟨g, 0, none⟩) N cap) xs) (hn : xs.length = N) (k j : Nat) (hk : k < xs.length) (hj : j < n) (y : α) (u : Value) (hy : f y = (f xs[k]).set j u) :
    Own e n f (w.setCell ⟨g, k * n + j, none⟩ u) B (.slice (some ⟨g, 0, none⟩) N cap) (xs.set k y) := by
  unfold Own at h ⊢
  rw [List.length_set, flat_setAt hf y j hj u xs k hk hy, hn]
  rw [hn] at h
  exact (World.ownsRow.stored h (k * n + j) u).1
/-- What a heap's numbers are within. -/
structure StB (s : StD) : Prop where
  wb : ∀ z ∈ s.ws, 0 ≤ z ∧ z < 18446744073709551616
  tbb : ∀ x ∈ s.tb, (-9223372036854775808 ≤ x.1 ∧ x.1 ≤ 9223372036854775807)
  sb : ∀ x ∈ s.sl, 0 ≤ x.2.2 ∧ x.2.2 < 18446744073709551616
theorem stcheck_s (s : StD) (k : Int) (hk : checkZ s.c0 s.c1 s.c2 s.c3 s.snd s.ws s.top s.tb s.fr s.sl = k) (V : World) (h : StAt V s) (hl : StLe s) (hb : StB s) : Calls Try.prog 29 #[.agg #[.int .i64 s.c0, .int .i64 s.c1, .int .i64 s.c2, .int .i64 s.c3, .bool s.snd, .slice s.wA s.ws.length s.wc, .int .i64 s.top, .slice s.tA s.tb.length s.tc, .slice s.fA s.fr.length s.fc, .slice s.sA s.sl.length s.sc]] V fun e w' => e = .returned (.int .i64 k) ∧ Ext V w' := by
  subst hk
  exact stcheck_any V (pers_row h.w) (pers_row h.t) (pers_row h.f) (pers_row h.s) hl.w hl.t hl.f hl.s hb.wb hb.tbb hb.sb
section
variable {wA : Option Addr} {ws : List Int} {wc : Nat} {top : Int} {tA : Option Addr} {tc : Nat} {fA : Option Addr} {fc : Nat} {sA : Option Addr} {sl : List (Bool × Int × Int)} {sc : Nat}
/-- A heap of the example. -/
def awD (wA : Option Addr) (ws : List Int) (wc : Nat) (top : Int) (tA : Option Addr) (tc : Nat) (fA : Option Addr) (fc : Nat) (sA : Option Addr) (sl : List (Bool × Int × Int)) (sc : Nat) : StD := ⟨4, 3, 2, 3, false, wA, ws, wc, top, tA, [], tc, fA, [(8, 3)], fc, sA, sl, sc⟩
/-- It is of the example's size, and within bounds. -/
def awOk (ws : List Int) (sl : List (Bool × Int × Int)) : Bool := decide (ws.length = 11) && decide (sl.length = 2) && ws.all (fun z => decide (0 ≤ z ∧ z < 18446744073709551616)) && sl.all (fun x => decide (0 ≤ x.2.2 ∧ x.2.2 < 18446744073709551616))
theorem awOk.parts (h : awOk ws sl = true) : ws.length = 11 ∧ sl.length = 2 ∧ StLe (awD wA ws wc top tA tc fA fc sA sl sc) ∧ StB (awD wA ws wc top tA tc fA fc sA sl sc) := by
  simp only [awOk, Bool.and_eq_true, decide_eq_true_eq, List.all_eq_true] at h
  obtain ⟨⟨⟨h1, h2⟩, h3⟩, h4⟩ := h
  refine ⟨h1, h2, ⟨?_, ?_, ?_, ?_⟩, ⟨h3, ?_, h4⟩⟩
  · show ws.length ≤ _; omega
  · simp [awD]
  · simp [awD]
  · show sl.length ≤ _; omega
  · simp [awD]
theorem awcheck (ok : awOk ws sl = true) (k : Int) (hk : checkZ 4 3 2 3 false ws top [] [(8, 3)] sl = k) (V : World) (h : StAt V (awD wA ws wc top tA tc fA fc sA sl sc)) : Calls Try.prog 29 #[.agg #[.int .i64 4, .int .i64 3, .int .i64 2, .int .i64 3, .bool false, .slice wA 11 wc, .int .i64 top, .slice tA 0 tc, .slice fA 1 fc, .slice sA 2 sc]] V fun e w' => e = .returned (.int .i64 k) ∧ Ext V w' := by
  obtain ⟨h1, h2, h3, h4⟩ := awOk.parts (wA := wA) (wc := wc) (top := top) (tA := tA) (tc := tc) (fA := fA) (fc := fc) (sA := sA) (sc := sc) ok
  have Z := stcheck_s _ k hk V h h3 h4
  simp only [awD, h1, h2, List.length_nil, List.length_cons, Nat.zero_add] at Z
  exact Z
/-- A heap of the example comes back. -/
def RetAw (V : World) (ws : List Int) (top : Int) (sl : List (Bool × Int × Int)) (g : Value → Value) (e : Ending) (w' : World) : Prop := ∃ wA2 wc2 tA2 tc2 fA2 fc2 sA2 sc2, e = .returned (g (.agg #[.int .i64 4, .int .i64 3, .int .i64 2, .int .i64 3, .bool false, .slice wA2 11 wc2, .int .i64 top, .slice tA2 0 tc2, .slice fA2 1 fc2, .slice sA2 2 sc2])) ∧ StOwn V.heap.size w' (awD wA2 ws wc2 top tA2 tc2 fA2 fc2 sA2 sl sc2) ∧ Ext V w'
theorem awcopy (ok : awOk ws sl = true) (V : World) (h : StAt V (awD wA ws wc top tA tc fA fc sA sl sc)) : Calls Try.prog 32 #[.agg #[.int .i64 4, .int .i64 3, .int .i64 2, .int .i64 3, .bool false, .slice wA 11 wc, .int .i64 top, .slice tA 0 tc, .slice fA 1 fc, .slice sA 2 sc]] V (RetAw V ws top sl (fun v => v)) := by
  obtain ⟨h1, h2, h3, h4⟩ := awOk.parts (wA := wA) (wc := wc) (top := top) (tA := tA) (tc := tc) (fA := fA) (fc := fc) (sA := sA) (sc := sc) ok
  have Z := scopy_any _ V h h3
  simp only [awD, h1, h2, List.length_nil, List.length_cons, Nat.zero_add] at Z
  refine Z.mono ?_
  rintro e w' ⟨t, he, ho, hv, hx⟩
  obtain ⟨⟨a1, a2, a3, a4⟩, a5, a6, a7, a8, a9, a10⟩ := eqvS_iff.1 hv
  obtain ⟨c0, c1, c2, c3, sn, wA, ws', wc, top', tA, tb, tc, fA, fr, fc, sA, sl', sc⟩ := t
  simp only at a1 a2 a3 a4 a5 a6 a7 a8 a9 a10
  subst a1 a2 a3 a4 a5 a6 a7 a8 a9 a10
  exact ⟨wA, wc, tA, tc, fA, fc, sA, sc, by rw [he]; simp [h1, h2], ho, hx⟩
theorem awnew (V : World) : Calls Try.prog 26 #[.agg #[.int .i64 4, .int .i64 3, .int .i64 2, .int .i64 3]] V (RetAw V aw15w 0 aw15s (fun v => .tuple #[v, .int .i64 0])) := by
  refine (stnew_any 4 3 2 3 V).mono ?_
  rintro e w' ⟨t, he, ho, hv, hx⟩
  rw [aw15_new] at hv
  obtain ⟨⟨a1, a2, a3, a4⟩, a5, a6, a7, a8, a9, a10⟩ := eqvS_iff.1 hv
  obtain ⟨c0, c1, c2, c3, sn, wA, ws', wc, top', tA, tb, tc, fA, fr, fc, sA, sl', sc⟩ := t
  simp only at a1 a2 a3 a4 a5 a6 a7 a8 a9 a10
  subst a1 a2 a3 a4 a5 a6 a7 a8 a9 a10
  exact ⟨wA, wc, tA, tc, fA, fc, sA, sc, he, ho, hx⟩
theorem awobjects (ok : awOk ws sl = true) (n : Nat) (hk : checkZ 4 3 2 3 false ws top [] [(8, 3)] sl = 0) (hz : (smallsL 4 3 2 3 false ws top).length = n) (V : World) (h : StAt V (awD wA ws wc top tA tc fA fc sA sl sc)) : Calls Try.prog 34 #[.agg #[.int .i64 4, .int .i64 3, .int .i64 2, .int .i64 3, .bool false, .slice wA 11 wc, .int .i64 top, .slice tA 0 tc, .slice fA 1 fc, .slice sA 2 sc]] V fun e w' => ∃ A cap, e = .returned (.tuple #[.slice A n cap, .int .i64 0]) ∧ Ext V w' := by
  obtain ⟨h1, h2, h3, h4⟩ := awOk.parts (wA := wA) (wc := wc) (top := top) (tA := tA) (tc := tc) (fA := fA) (fc := fc) (sA := sA) (sc := sc) ok
  have Z := stobjects_any (c0 := 4) (c1 := 3) (c2 := 2) (c3 := 3) (sn := false) (wc := wc) (top := top) (tc := tc) (fc := fc) (sc := sc) V (pers_row h.w) (pers_row h.t) (pers_row h.f) (pers_row h.s) h3.w h3.t h3.f h3.s h4.wb h4.tbb h4.sb
  simp only [awD, h1, h2, List.length_nil, List.length_cons, Nat.zero_add] at Z
  refine Z.mono ?_
  rintro e w' (⟨h0, -⟩ | ⟨-, A, cap, he, -, hx⟩)
  · exact absurd hk h0
  · exact ⟨A, cap, by rw [he]; simp [hz], hx⟩
theorem awused (k : Int) (hk : usedZ 4 3 2 3 false top = k) (V : World) : Calls Try.prog 85 #[.agg #[.int .i64 4, .int .i64 3, .int .i64 2, .int .i64 3, .bool false, .slice wA 11 wc, .int .i64 top, .slice tA 0 tc, .slice fA 1 fc, .slice sA 2 sc]] V fun e w' => e = .returned (.int .i64 k) ∧ Ext V w' := by
  subst hk
  exact stused_any (c0 := 4) (c1 := 3) (c2 := 2) (c3 := 3) (sn := false) (wA := wA) (ws := List.replicate 11 0) (wc := wc) (top := top) (tA := tA) (tb := []) (tc := tc) (fA := fA) (fr := [(0, 0)]) (fc := fc) (sA := sA) (sl := List.replicate 2 (false, 0, 0)) (sc := sc) V
theorem awhead (ok : awOk ws sl = true) (hf : (headH (some ws) 0).f = 0) (he : headE (some ws) 0 = 0) (V : World) (h : StAt V (awD wA ws wc top tA tc fA fc sA sl sc)) : Calls Try.prog 35 #[.agg #[.int .i64 4, .int .i64 3, .int .i64 2, .int .i64 3, .bool false, .slice wA 11 wc, .int .i64 top, .slice tA 0 tc, .slice fA 1 fc, .slice sA 2 sc], .int .i64 0] V fun e w' => ∃ k r m c, e = .returned (.tuple #[.agg #[.int .i64 k, .int .i64 0, .int .i64 r, .bool m, .int .i64 c], .int .i64 0]) ∧ Ext V w' := by
  obtain ⟨h1, h2, h3, h4⟩ := awOk.parts (wA := wA) (wc := wc) (top := top) (tA := tA) (tc := tc) (fA := fA) (fc := fc) (sA := sA) (sc := sc) ok
  have Z := sthead_any (c0 := 4) (c1 := 3) (c2 := 2) (c3 := 3) (sn := false) (wc := wc) (top := top) (tA := tA) (tb := []) (tc := tc) (fA := fA) (fr := [(8, 3)]) (fc := fc) (sA := sA) (sl := sl) (sc := sc) V 0 (pers_row h.w) h3.w h4.wb (by omega)
  simp only [awD, h1, h2, List.length_nil, List.length_cons, Nat.zero_add, hf, he] at Z
  refine Z.mono ?_
  rintro e w' ⟨rfl, hx⟩
  exact ⟨_, _, _, _, rfl, hx⟩
variable {wA2 : Option Addr} {ws2 : List Int} {wc2 : Nat} {top2 : Int} {tA2 : Option Addr} {tc2 : Nat} {fA2 : Option Addr} {fc2 : Nat} {sA2 : Option Addr} {sl2 : List (Bool × Int × Int)} {sc2 : Nat}
theorem awsame (ok : awOk ws sl = true) (ok2 : awOk ws2 sl2 = true) (b : Bool) (hb : decide (top = top2 ∧ ws = ws2 ∧ sl = sl2) = b) (V : World) (h : StAt V (awD wA ws wc top tA tc fA fc sA sl sc)) (h' : StAt V (awD wA2 ws2 wc2 top2 tA2 tc2 fA2 fc2 sA2 sl2 sc2)) :
    Calls Try.prog 33 #[.agg #[.int .i64 4, .int .i64 3, .int .i64 2, .int .i64 3, .bool false, .slice wA 11 wc, .int .i64 top, .slice tA 0 tc, .slice fA 1 fc, .slice sA 2 sc], .agg #[.int .i64 4, .int .i64 3, .int .i64 2, .int .i64 3, .bool false, .slice wA2 11 wc2, .int .i64 top2, .slice tA2 0 tc2, .slice fA2 1 fc2, .slice sA2 2 sc2]] V fun e w' => e = .returned (.bool b) ∧ Ext V w' := by
  obtain ⟨h1, h2, h3, h4⟩ := awOk.parts (wA := wA) (wc := wc) (top := top) (tA := tA) (tc := tc) (fA := fA) (fc := fc) (sA := sA) (sc := sc) ok
  obtain ⟨k1, k2, k3, k4⟩ := awOk.parts (wA := wA2) (wc := wc2) (top := top2) (tA := tA2) (tc := tc2) (fA := fA2) (fc := fc2) (sA := sA2) (sc := sc2) ok2
  have Z := ssame_any _ _ V h h' h3 k3
  have e : eqvS (awD wA ws wc top tA tc fA fc sA sl sc) (awD wA2 ws2 wc2 top2 tA2 tc2 fA2 fc2 sA2 sl2 sc2) = b := by
    rw [← hb, Bool.eq_iff_iff, eqvS_iff]
    simp [awD]
  rw [e] at Z
  simp only [awD, h1, h2, k1, k2, List.length_nil, List.length_cons, Nat.zero_add] at Z
  exact Z
end
theorem awzero (V : World) : Calls Try.prog 29 #[.agg #[.int .i64 0, .int .i64 0, .int .i64 0, .int .i64 0, .bool false, .slice none 0 0, .int .i64 0, .slice none 0 0, .slice none 0 0, .slice none 0 0]] V fun e w' => e = .returned (.int .i64 1) ∧ Ext V w' :=
  stcheck_s ⟨0, 0, 0, 0, false, none, [], 0, 0, none, [], 0, none, [], 0, none, [], 0⟩ 1 aw15_e V ⟨RowAt.none _ _ _, RowAt.none _ _ _, RowAt.none _ _ _, RowAt.none _ _ _⟩ ⟨by simp, by simp, by simp, by simp⟩ ⟨by simp, by simp, by simp⟩
end Go.Proofs.Ytkcpfimhbogdcaa

/- A heap of the call's own: its cells, and stores into them. -/
set_option linter.unusedSimpArgs false
set_option linter.unusedVariables false
namespace Go.Proofs.Ytkcpfimhbogdcaa
open Go.RowKit Go.Shelf

section
variable {α : Type} {e : TypeId} {n : Nat} {f : α → List Value} {w : World} {B g N cap : Nat} {xs : List α}
theorem own_cellAt (hf : Cells n f) (h0 : 0 < n) (h : Own e n f w B (.slice (some ⟨g, 0, none⟩) N cap) xs) (hn : xs.length = N) (k j : Nat) (hk : k < xs.length) (v : Value) (hv : (f xs[k])[j]? = some v) : w.cell? ⟨g, k * n + j, none⟩ = some v := by
  subst hn
  have hr := (own_row h hf h0).1
  obtain ⟨b, off, e1, hc⟩ := RowAt.get hr (by omega)
  injection e1 with e1
  injection e1 with e1 e2 _
  subst e1 e2
  have := hc k xs[k] (by simp [hk]) j v hv
  simpa using this
theorem own_frozen (h : Own e n f w B (.slice (some ⟨g, 0, none⟩) N cap) xs) (i : Nat) : w.frozen? ⟨g, i, none⟩ = false := by
  obtain ⟨cur, hc⟩ := own_heap h
  exact (cells_of hc).2 i
theorem own_far {v : Value} (h : Own e n f w B v xs) (hg : g < B) (i : Nat) (u : Value) : Own e n f (w.setCell ⟨g, i, none⟩ u) B v xs :=
  h.setNe (fun hv => by have := (own_lt h hv).1; omega)
end
section
variable {B g : Nat} {w : World} {s : StD}
theorem StOwn.far (h : StOwn B w s) (hg : g < B) (i : Nat) (u : Value) : StOwn B (w.setCell ⟨g, i, none⟩ u) s := ⟨own_far h.w hg i u, own_far h.t hg i u, own_far h.f hg i u, own_far h.s hg i u⟩
theorem StOwn.box (h : StOwn B w s) {X : Nat} {cs : Array Value} {r : Nat × Nat} (hb : w.heap[X]? = some (.cells cs 56 r)) (i : Nat) (u : Value) : StOwn B (w.setCell ⟨X, i, none⟩ u) s :=
  ⟨h.w.setOther hb (by decide), h.t.setOther hb (by decide), h.f.setOther hb (by decide), h.s.setOther hb (by decide)⟩
theorem StOwn.setW (h : StOwn B w s) (hA : s.wA = some ⟨g, 0, none⟩) (k : Nat) (z : Int) : StOwn B (w.setCell ⟨g, k, none⟩ (.int .u64 z)) { s with ws := s.ws.set k z } := by
  have hw := h.w
  rw [hA] at hw
  obtain ⟨cur, hc⟩ := own_heap hw
  refine ⟨?_, h.t.setOther hc (by decide), h.f.setOther hc (by decide), h.s.setOther hc (by decide)⟩
  simp only [List.length_set, hA]
  exact own_setU hw rfl k z
theorem StOwn.setS (h : StOwn B w s) (hA : s.sA = some ⟨g, 0, none⟩) (k j : Nat) (hk : k < s.sl.length) (hj : j < 3) (y : Bool × Int × Int) (u : Value) (hy : slotC y = (slotC s.sl[k]).set j u) : StOwn B (w.setCell ⟨g, k * 3 + j, none⟩ u) { s with sl := s.sl.set k y } := by
  have hs := h.s
  rw [hA] at hs
  obtain ⟨cur, hc⟩ := own_heap hs
  refine ⟨h.w.setOther hc (by decide), h.t.setOther hc (by decide), h.f.setOther hc (by decide), ?_⟩
  simp only [List.length_set, hA]
  exact own_setAt slotCells hs rfl k j hk hj y u hy
/-- The table and what is free lie apart. -/
def Aprt (s : StD) : Prop := (Value.slice s.tA s.tb.length s.tc).ownBlock = none ∨ (Value.slice s.tA s.tb.length s.tc).ownBlock ≠ (Value.slice s.fA s.fr.length s.fc).ownBlock
theorem StOwn.setT (h : StOwn B w s) (ha : Aprt s) (hA : s.tA = some ⟨g, 0, none⟩) (k j : Nat) (hk : k < s.tb.length) (hj : j < 2) (y : Int × Int) (u : Value) (hy : spanC y = (spanC s.tb[k]).set j u) : StOwn B (w.setCell ⟨g, k * 2 + j, none⟩ u) { s with tb := s.tb.set k y } := by
  have hs := h.t
  rw [hA] at hs
  obtain ⟨cur, hc⟩ := own_heap hs
  refine ⟨h.w.setOther hc (by decide), ?_, h.f.setNe ?_, h.s.setOther hc (by decide)⟩
  · simp only [List.length_set, hA]
    exact own_setAt spanCells hs rfl k j hk hj y u hy
  · rcases ha with ha | ha
    · rw [hA] at ha; simp [Value.ownBlock] at ha
    · rw [hA] at ha
      intro hh
      exact ha (by rw [hh]; simp [Value.ownBlock])
theorem StOwn.setF (h : StOwn B w s) (ha : Aprt s) (hA : s.fA = some ⟨g, 0, none⟩) (k j : Nat) (hk : k < s.fr.length) (hj : j < 2) (y : Int × Int) (u : Value) (hy : spanC y = (spanC s.fr[k]).set j u) : StOwn B (w.setCell ⟨g, k * 2 + j, none⟩ u) { s with fr := s.fr.set k y } := by
  have hs := h.f
  rw [hA] at hs
  obtain ⟨cur, hc⟩ := own_heap hs
  refine ⟨h.w.setOther hc (by decide), h.t.setNe ?_, ?_, h.s.setOther hc (by decide)⟩
  · rcases ha with ha | ha
    · rw [ha]; simp
    · rw [hA] at ha
      intro hh
      exact ha (by rw [hh]; simp [Value.ownBlock])
  · simp only [List.length_set, hA]
    exact own_setAt spanCells hs rfl k j hk hj y u hy
end
end Go.Proofs.Ytkcpfimhbogdcaa

/- awake of the laws of heaps, walked. (Printed by mkaw15.py.) -/
set_option linter.unusedSimpArgs false
set_option linter.unusedVariables false
namespace Go.Proofs.Ytkcpfimhbogdcaa
open Go.RowKit Go.Shelf
set_option maxRecDepth 100000
set_option maxHeartbeats 1000000
theorem awake15_any (V : World) : Calls Try.prog 30 #[] V fun e w' => e = .returned (.bool true) ∧ Ext V w' := by
  go_enter Try.func30, Try.ntmps30
  go_wp2_with fail
  refine (awnew V).mono ?_
  rintro e w1 ⟨wA1, wc1, tA1, tc1, fA1, fc1, sA1, sc1, rfl, ho, hx⟩
  have hB1 := pers_new w1 #[.int .i64 4, .int .i64 3, .int .i64 2, .int .i64 3, .bool false, .slice wA1 11 wc1, .int .i64 0, .slice tA1 0 tc1, .slice fA1 1 fc1, .slice sA1 2 sc1] 56 _ rfl
  have HX := Lib.hid (hx.alloc (.cells #[.int .i64 4, .int .i64 3, .int .i64 2, .int .i64 3, .bool false, .slice wA1 11 wc1, .int .i64 0, .slice tA1 0 tc1, .slice fA1 1 fc1, .slice sA1 2 sc1] 56))
  have H1 : Pers (w1.alloc (.cells #[.int .i64 4, .int .i64 3, .int .i64 2, .int .i64 3, .bool false, .slice wA1 11 wc1, .int .i64 0, .slice tA1 0 tc1, .slice fA1 1 fc1, .slice sA1 2 sc1] 56)) (fun w => StAt w (awD wA1 aw15w wc1 0 tA1 tc1 fA1 fc1 sA1 aw15s sc1)) := fun w k => ho.at.ext (((Ext.refl w1).alloc _).trans k)
  clear ho hx
  go_wp2_with fail
  generalize w1.alloc (.cells #[.int .i64 4, .int .i64 3, .int .i64 2, .int .i64 3, .bool false, .slice wA1 11 wc1, .int .i64 0, .slice tA1 0 tc1, .slice fA1 1 fc1, .slice sA1 2 sc1] 56) = W1 at *
  generalize w1.heap.size = B1 at *
  refine (awcopy (by decide) W1 H1.here).mono ?_
  rintro e w2 ⟨wA2, wc2, tA2, tc2, fA2, fc2, sA2, sc2, rfl, ho, hx⟩
  (replace hB1 := hB1.re hx; replace H1 := H1.re hx; replace HX := Lib.hid (HX.out.trans hx))
  clear hx
  have k1 := (cells_of hB1.here).1
  have q := lt_of_heap hB1.here
  go_wp2_with fail
  have hB2 := pers_new w2 #[.int .i64 4, .int .i64 3, .int .i64 2, .int .i64 3, .bool false, .slice wA2 11 wc2, .int .i64 1, .slice tA2 0 tc2, .slice fA2 1 fc2, .slice sA2 2 sc2] 56 _ rfl
  have hy := (Ext.refl w2).alloc (.cells #[.int .i64 4, .int .i64 3, .int .i64 2, .int .i64 3, .bool false, .slice wA2 11 wc2, .int .i64 1, .slice tA2 0 tc2, .slice fA2 1 fc2, .slice sA2 2 sc2] 56)
  have H2 : Pers (w2.alloc (.cells #[.int .i64 4, .int .i64 3, .int .i64 2, .int .i64 3, .bool false, .slice wA2 11 wc2, .int .i64 1, .slice tA2 0 tc2, .slice fA2 1 fc2, .slice sA2 2 sc2] 56)) (fun w => StAt w (awD wA2 aw15w wc2 1 tA2 tc2 fA2 fc2 sA2 aw15s sc2)) := fun w k => StAt.ext ⟨ho.at.w, ho.at.t, ho.at.f, ho.at.s⟩ (hy.trans k)
  (replace hB1 := hB1.re hy; replace H1 := H1.re hy; replace HX := Lib.hid (HX.out.trans hy))
  clear hy k1 q ho
  generalize w2.alloc (.cells #[.int .i64 4, .int .i64 3, .int .i64 2, .int .i64 3, .bool false, .slice wA2 11 wc2, .int .i64 1, .slice tA2 0 tc2, .slice fA2 1 fc2, .slice sA2 2 sc2] 56) = W2 at *
  generalize w2.heap.size = B2 at *
  refine (awobjects (by decide) 0 aw15_a (by rw [aw15_vals.2.1]; rfl) W2 (H1.at (Ext.refl _))).mono ?_
  rintro e w3 ⟨lA, lc, rfl, hx⟩
  (replace hB1 := hB1.re hx; replace hB2 := hB2.re hx; replace H1 := H1.re hx; replace H2 := H2.re hx; replace HX := Lib.hid (HX.out.trans hx))
  clear hx
  have k1 := (cells_of hB1.here).1
  go_wp2_with fail
  clear k1
  refine (awcopy (by decide) w3 H1.here).mono ?_
  rintro e w4 ⟨wA3, wc3, tA3, tc3, fA3, fc3, sA3, sc3, rfl, ho, hx⟩
  obtain ⟨g, rfl, hg1, hg2⟩ := own_some ho.w (show aw15w ≠ [] by decide)
  have c0 := own_cellAt u64Cells (by decide) ho.w rfl 0 0 (show 0 < aw15w.length by decide) _ rfl
  have c1 := own_cellAt u64Cells (by decide) ho.w rfl 1 0 (show 1 < aw15w.length by decide) _ rfl
  have cf := own_frozen ho.w
  simp only [Nat.zero_mul, Nat.one_mul, Nat.zero_add, Nat.add_zero] at c0 c1
  go_wp2_with fail
  have ho2 := ((ho.setW rfl 0 3).setW rfl 1 38)
  have hy := ((hx.setCell (p := ⟨g, 0, none⟩) hg1 (.int .u64 3)).setCell (p := ⟨g, 1, none⟩) hg1 (.int .u64 38)).alloc (.cells #[.int .i64 4, .int .i64 3, .int .i64 2, .int .i64 3, .bool false, .slice (some ⟨g, 0, none⟩) 11 wc3, .int .i64 1, .slice tA3 0 tc3, .slice fA3 1 fc3, .slice sA3 2 sc3] 56)
  have hB3 := pers_new ((w4.setCell ⟨g, 0, none⟩ (.int .u64 3)).setCell ⟨g, 1, none⟩ (.int .u64 38)) #[.int .i64 4, .int .i64 3, .int .i64 2, .int .i64 3, .bool false, .slice (some ⟨g, 0, none⟩) 11 wc3, .int .i64 1, .slice tA3 0 tc3, .slice fA3 1 fc3, .slice sA3 2 sc3] 56 w4.heap.size (by simp)
  have H3 : Pers (((w4.setCell ⟨g, 0, none⟩ (.int .u64 3)).setCell ⟨g, 1, none⟩ (.int .u64 38)).alloc (.cells #[.int .i64 4, .int .i64 3, .int .i64 2, .int .i64 3, .bool false, .slice (some ⟨g, 0, none⟩) 11 wc3, .int .i64 1, .slice tA3 0 tc3, .slice fA3 1 fc3, .slice sA3 2 sc3] 56)) (fun w => StAt w (awD (some ⟨g, 0, none⟩) aw15u wc3 1 tA3 tc3 fA3 fc3 sA3 aw15s sc3)) := fun w k => StAt.ext ⟨ho2.at.w, ho2.at.t, ho2.at.f, ho2.at.s⟩ (((Ext.refl _).alloc _).trans k)
  (replace hB1 := hB1.re hy; replace hB2 := hB2.re hy; replace H1 := H1.re hy; replace H2 := H2.re hy; replace HX := Lib.hid (HX.out.trans hy))
  clear hy hx ho ho2 c0 c1 cf hg1 hg2
  generalize ((w4.setCell ⟨g, 0, none⟩ (.int .u64 3)).setCell ⟨g, 1, none⟩ (.int .u64 38)).alloc (.cells #[.int .i64 4, .int .i64 3, .int .i64 2, .int .i64 3, .bool false, .slice (some ⟨g, 0, none⟩) 11 wc3, .int .i64 1, .slice tA3 0 tc3, .slice fA3 1 fc3, .slice sA3 2 sc3] 56) = W4 at *
  generalize w4.heap.size = B3 at *
  refine (awcopy (ws := aw15u) (sl := aw15s) (by decide) W4 H3.here).mono ?_
  rintro e w6 ⟨wA4, wc4, tA4, tc4, fA4, fc4, sA4, sc4, rfl, ho, hx⟩
  obtain ⟨g4, rfl, hg1, hg2⟩ := own_some ho.s (show aw15s ≠ [] by decide)
  have c0 := own_cellAt slotCells (by decide) ho.s rfl 0 0 (show 0 < aw15s.length by decide) _ rfl
  have c1 := own_cellAt slotCells (by decide) ho.s rfl 0 1 (show 0 < aw15s.length by decide) _ rfl
  have c2 := own_cellAt slotCells (by decide) ho.s rfl 0 2 (show 0 < aw15s.length by decide) _ rfl
  have cf := own_frozen ho.s
  simp only [Nat.zero_mul, Nat.one_mul, Nat.zero_add, Nat.add_zero] at c0 c1 c2
  have q4 : B3 < g4 := Nat.lt_of_lt_of_le (lt_of_heap hB3.here) hg1
  have hb3 := hB3.re hx
  have k3 := (cells_of hb3.here).1
  have q3 := lt_of_heap hb3.here
  go_wp2_with fail
  have ho2 := ((ho.setS rfl 0 0 (show 0 < aw15s.length by decide) (by decide) (true, 0, 0) (.bool true) rfl).setS rfl 0 1 (show 0 < (aw15s.set 0 (true, 0, 0)).length by decide) (by decide) (true, 0, 0) (.int .i64 0) rfl).setS rfl 0 2 (show 0 < ((aw15s.set 0 (true, 0, 0)).set 0 (true, 0, 0)).length by decide) (by decide) (true, 0, 18) (.int .u64 18) rfl
  simp only [Nat.zero_mul, Nat.zero_add, Nat.add_zero] at ho2
  have hy := (((hx.setCell (p := ⟨g4, 0, none⟩) hg1 (.bool true)).setCell (p := ⟨g4, 1, none⟩) hg1 (.int .i64 0)).setCell (p := ⟨g4, 2, none⟩) hg1 (.int .u64 18)).alloc (.cells #[.int .i64 4, .int .i64 3, .int .i64 2, .int .i64 3, .bool false, .slice wA4 11 wc4, .int .i64 1, .slice tA4 0 tc4, .slice fA4 1 fc4, .slice (some ⟨g4, 0, none⟩) 2 sc4] 56)
  have hB4 := pers_new (((w6.setCell ⟨g4, 0, none⟩ (.bool true)).setCell ⟨g4, 1, none⟩ (.int .i64 0)).setCell ⟨g4, 2, none⟩ (.int .u64 18)) #[.int .i64 4, .int .i64 3, .int .i64 2, .int .i64 3, .bool false, .slice wA4 11 wc4, .int .i64 1, .slice tA4 0 tc4, .slice fA4 1 fc4, .slice (some ⟨g4, 0, none⟩) 2 sc4] 56 w6.heap.size (by simp)
  have H4 : Pers ((((w6.setCell ⟨g4, 0, none⟩ (.bool true)).setCell ⟨g4, 1, none⟩ (.int .i64 0)).setCell ⟨g4, 2, none⟩ (.int .u64 18)).alloc (.cells #[.int .i64 4, .int .i64 3, .int .i64 2, .int .i64 3, .bool false, .slice wA4 11 wc4, .int .i64 1, .slice tA4 0 tc4, .slice fA4 1 fc4, .slice (some ⟨g4, 0, none⟩) 2 sc4] 56)) (fun w => StAt w (awD wA4 aw15u wc4 1 tA4 tc4 fA4 fc4 (some ⟨g4, 0, none⟩) aw15v sc4)) := fun w k => StAt.ext ⟨ho2.at.w, ho2.at.t, ho2.at.f, ho2.at.s⟩ (((Ext.refl _).alloc _).trans k)
  (replace hB1 := hB1.re hy; replace hB2 := hB2.re hy; replace hB3 := hB3.re hy; replace H1 := H1.re hy; replace H2 := H2.re hy; replace H3 := H3.re hy; replace HX := Lib.hid (HX.out.trans hy))
  clear hy hx ho ho2 c0 c1 c2 cf hg1 hg2 hb3 k3 q3 q4
  generalize (((w6.setCell ⟨g4, 0, none⟩ (.bool true)).setCell ⟨g4, 1, none⟩ (.int .i64 0)).setCell ⟨g4, 2, none⟩ (.int .u64 18)).alloc (.cells #[.int .i64 4, .int .i64 3, .int .i64 2, .int .i64 3, .bool false, .slice wA4 11 wc4, .int .i64 1, .slice tA4 0 tc4, .slice fA4 1 fc4, .slice (some ⟨g4, 0, none⟩) 2 sc4] 56) = W6 at *
  generalize w6.heap.size = B4 at *
  refine (awhead (ws := aw15u) (sl := aw15s) (by decide) aw15_vals.2.2.2.1 aw15_vals.2.2.2.2 W6 H3.here).mono ?_
  rintro e w7 ⟨hk, hr, hm, hc, rfl, hx⟩
  (replace hB1 := hB1.re hx; replace hB2 := hB2.re hx; replace hB3 := hB3.re hx; replace hB4 := hB4.re hx; replace H1 := H1.re hx; replace H2 := H2.re hx; replace H3 := H3.re hx; replace H4 := H4.re hx; replace HX := Lib.hid (HX.out.trans hx))
  clear hx
  have k3 := (cells_of hB3.here).1
  have q3 := lt_of_heap hB3.here
  go_wp2_with fail
  have hy := (Ext.refl w7).alloc (.cells #[.int .i64 hk, .int .i64 0, .int .i64 hr, .bool hm, .int .i64 hc] 47)
  have hB5 := pers_new w7 #[.int .i64 hk, .int .i64 0, .int .i64 hr, .bool hm, .int .i64 hc] 47 _ rfl
  (replace hB1 := hB1.re hy; replace hB2 := hB2.re hy; replace hB3 := hB3.re hy; replace hB4 := hB4.re hy; replace H1 := H1.re hy; replace H2 := H2.re hy; replace H3 := H3.re hy; replace H4 := H4.re hy; replace HX := Lib.hid (HX.out.trans hy))
  clear hy k3 q3
  generalize w7.alloc (.cells #[.int .i64 hk, .int .i64 0, .int .i64 hr, .bool hm, .int .i64 hc] 47) = W7 at *
  generalize w7.heap.size = B5 at *
  refine (awobjects (ws := aw15u) (sl := aw15s) (by decide) 1 aw15_c (by rw [aw15_vals.2.2.1]; rfl) W7 H3.here).mono ?_
  rintro e w8 ⟨mA, mc, rfl, hx⟩
  (replace hB1 := hB1.re hx; replace hB2 := hB2.re hx; replace hB3 := hB3.re hx; replace hB4 := hB4.re hx; replace hB5 := hB5.re hx; replace H1 := H1.re hx; replace H2 := H2.re hx; replace H3 := H3.re hx; replace H4 := H4.re hx; replace HX := Lib.hid (HX.out.trans hx))
  clear hx
  have hf : SpansAt w8 fA1 [(8, 3)] := H1.here.f
  obtain ⟨lb, off, rfl, hc⟩ := RowAt.get hf (by simp)
  obtain ⟨s0, s1⟩ := spans_cell hc (k := 0) (by simp)
  simp only [Nat.zero_mul, Nat.add_zero, List.getD_cons_zero] at s0 s1
  replace s0 := pers_cell s0
  replace s1 := pers_cell s1
  clear hf hc
  have g1 := hB1.cells
  have g2 := hB2.cells
  have g3 := hB3.cells
  have g4 := hB4.cells
  have g5 := hB5.cells
  ((first | refine at_baseC (W := w8) ?_ | refine at_base (W := w8) ?_); intro uq; (try go_wp2_with fail))
  have hx8 := uq.2
  simp only [List.append]
  (refine wp_region_seg (W := w8) [([(0, true), (1, true), (2, true), (3, true), (4, true), (5, true), (6, true), (7, true), (8, false), (9, true), (10, true), (11, true), (12, true), (13, false), (14, true), (15, true), (16, true), (17, true), (18, true), (19, true), (20, true), (21, true), (22, false), (23, true), (24, true), (25, true), (26, true), (27, false), (28, true), (29, true), (30, true), (31, true), (32, false), (33, true), (34, true), (35, true), (36, true), (37, true), (38, true), (39, true), (40, true), (41, true), (42, true), (43, true), (44, true), (45, true), (46, true), (47, true), (48, true), (49, true), (50, false), (51, true), (52, true), (53, true), (54, true), (55, false), (56, true), (57, true), (58, true), (59, true), (60, true), (61, false), (62, true), (63, true), (64, true), (65, true), (66, true)], 67)] [(68, false), (69, true), (70, true), (71, true), (72, false), (73, true), (74, true), (75, true)] [] (by kernel_rfl) (by kernel_rfl) (by intro c a d v w h; cases d <;> first | exact h | cases h.1) (by with_reducible assumption) ?_; simp only [opsOf, List.map_cons, List.map_nil, List.getD_cons_zero, List.getD_cons_succ])
  ((first | refine seg_cons ?_ | refine seg_last ?_); (repeat (go_big_quiet_step (first | (go_at_call 29; with_reducible exact Calls.ext_of (awcheck (ws := aw15w) (sl := aw15s) (by decide) 0 aw15_a _ (H1.at (by repeat (first | (with_reducible exact Ext.refl _) | (with_reducible exact ExtOf.ext _) | (with_reducible assumption) | (with_reducible refine Ext.drew ?_) | (with_reducible refine Ext.alloc ?_ _)))))) | (go_at_call 29; with_reducible exact Calls.ext_of (awcheck (ws := aw15w) (sl := aw15s) (by decide) 4 aw15_b _ (H2.at (by repeat (first | (with_reducible exact Ext.refl _) | (with_reducible exact ExtOf.ext _) | (with_reducible assumption) | (with_reducible refine Ext.drew ?_) | (with_reducible refine Ext.alloc ?_ _)))))) | (go_at_call 29; with_reducible exact Calls.ext_of (awcheck (ws := aw15u) (sl := aw15s) (by decide) 0 aw15_c _ (H3.at (by repeat (first | (with_reducible exact Ext.refl _) | (with_reducible exact ExtOf.ext _) | (with_reducible assumption) | (with_reducible refine Ext.drew ?_) | (with_reducible refine Ext.alloc ?_ _)))))) | (go_at_call 29; with_reducible exact Calls.ext_of (awcheck (ws := aw15u) (sl := aw15v) (by decide) 9 aw15_d _ (H4.at (by repeat (first | (with_reducible exact Ext.refl _) | (with_reducible exact ExtOf.ext _) | (with_reducible assumption) | (with_reducible refine Ext.drew ?_) | (with_reducible refine Ext.alloc ?_ _)))))) | (go_at_call 85; with_reducible exact Calls.ext_of (awused 1 aw15_vals.1 _)) | (go_at_call 33; with_reducible exact Calls.ext_of (awsame (ws := aw15w) (sl := aw15s) (ws2 := aw15w) (sl2 := aw15s) (top := 0) (top2 := 1) (by decide) (by decide) false (by decide) _ (H1.at (by repeat (first | (with_reducible exact Ext.refl _) | (with_reducible exact ExtOf.ext _) | (with_reducible assumption) | (with_reducible refine Ext.drew ?_) | (with_reducible refine Ext.alloc ?_ _)))) (H2.at (by repeat (first | (with_reducible exact Ext.refl _) | (with_reducible exact ExtOf.ext _) | (with_reducible assumption) | (with_reducible refine Ext.drew ?_) | (with_reducible refine Ext.alloc ?_ _))))))))); refine wpQuiet_nil ?_; intro w1 hx)
  ((refine seg_step ?_ ?_; (focus rfl); intro K hK; go_simp); refine (awcopy (ws := aw15w) (sl := aw15s) (by decide) _ (H1.at (by repeat (first | (with_reducible exact Ext.refl _) | (with_reducible exact ExtOf.ext _) | (with_reducible assumption) | (with_reducible refine Ext.drew ?_) | (with_reducible refine Ext.alloc ?_ _))))).mono ?_; rintro e w9 ⟨wA9, wc9, tA9, tc9, fA9, fc9, sA9, sc9, rfl, ho, hx2⟩; refine hK w9 _ _ (hx.trans hx2) (Ext.refl _) ?_; have hz2 := hx.size; replace hx2 := hx.trans hx2; replace H1 := H1.re hx2; clear hK K hx)
  replace HX := Lib.hid (HX.out.trans hx2)
  have H9 := ho.at.pers
  clear ho hx2 g1 g2 g3 g4 g5 s0 s1 hx8
  ((first | refine seg_cons ?_ | refine seg_last ?_); (repeat (go_big_quiet_step (first | (go_at_call 33; with_reducible exact Calls.ext_of (awsame (ws := aw15w) (sl := aw15s) (ws2 := aw15w) (sl2 := aw15s) (top := 0) (top2 := 0) (by decide) (by decide) true (by decide) _ (H1.at (by repeat (first | (with_reducible exact Ext.refl _) | (with_reducible exact ExtOf.ext _) | (with_reducible assumption) | (with_reducible refine Ext.drew ?_) | (with_reducible refine Ext.alloc ?_ _)))) (H9.at (by repeat (first | (with_reducible exact Ext.refl _) | (with_reducible exact ExtOf.ext _) | (with_reducible assumption) | (with_reducible refine Ext.drew ?_) | (with_reducible refine Ext.alloc ?_ _)))))) | (go_at_call 29; with_reducible exact Calls.ext_of (awzero _))))); refine wpQuiet_nil ?_; intro w1 hx)
  (obtain ⟨uq, rfl⟩ : ∃ u : ExtOf w9, w1 = u.1 := ⟨⟨w1, hx⟩, rfl⟩; clear hx; go_wp2_with fail)
  go_ret
  exact ⟨rfl, HX.out.trans (ExtOf.ext _)⟩
end Go.Proofs.Ytkcpfimhbogdcaa

