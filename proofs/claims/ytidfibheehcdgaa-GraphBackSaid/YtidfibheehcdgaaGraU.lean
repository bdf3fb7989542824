/- awake of the laws of graphs. -/
import Derived.Test.YtidfibheehcdgaaGraT
set_option linter.unusedSimpArgs false
set_option linter.unusedVariables false
namespace Go.Proofs.Ytidfibheehcdgaa
open Go.RowKit Go.Shelf

theorem ren_any (G : GraphD) (A2 : Option Addr) (cap2 : Nat) (o : List Int) (V : World) (hG : GraphAt V G) (oG : GraphOk G) (hO : IntsAt V A2 o) (hol : o.length ≤ 1000) (how : ∀ x ∈ o, -9223372036854775808 ≤ x ∧ x ≤ 9223372036854775807) :
    Calls Try.prog 18 #[.agg #[.slice G.nA G.ns.length G.ncap, .slice G.rA G.rs.length G.rcap], .slice A2 o.length cap2] V (RetN V (renE G o) (renN G o) (renR G o)) :=
  ren_x _ _ _ _ _ _ A2 cap2 o V hG.nodes hG.roots hO oG.nl oG.rl hol how oG.each oG.rv
theorem copy_any (G : GraphD) (V : World) (hG : GraphAt V G) (oG : GraphOk G) : Calls Try.prog 23 #[.agg #[.slice G.nA G.ns.length G.ncap, .slice G.rA G.rs.length G.rcap]] V (RetG V G.ns G.rs) :=
  copy_x _ _ _ _ _ _ V hG.nodes hG.roots oG.nl oG.rl oG.each
theorem refcopy_any (G : GraphD) (V : World) (hG : GraphAt V G) (oG : GraphOk G) : Calls Try.prog 22 #[.agg #[.slice G.nA G.ns.length G.ncap, .slice G.rA G.rs.length G.rcap]] V (RetG V G.ns G.rs) :=
  refcopy_x _ _ _ _ _ _ V hG.nodes hG.roots oG.nl oG.rl oG.rn oG.each
theorem own_some {α : Type} {e : TypeId} {n : Nat} {f : α → List Value} {w : World} {B : Nat} {A : Option Addr} {len cap : Nat} {xs : List α} (h : Own e n f w B (.slice A len cap) xs) (hn : xs ≠ []) : ∃ g, A = some ⟨g, 0, none⟩ ∧ B ≤ g ∧ g < w.heap.size := by
  rcases h.2 with ⟨_, h0⟩ | ⟨b, cap2, cur, hv, hb, hg, _⟩
  · exact absurd (List.eq_nil_of_length_eq_zero h0) hn
  · injection hv with h1 h2 h3
    exact ⟨b, h1, hb, lt_of_heap hg⟩
theorem OwnG.ext {w w' : World} {B : Nat} {G : GraphD} (h : OwnG w B G) (hx : Ext w w') : OwnG w' B G := ⟨h.nodes.ext hx, fun x hm => (h.each x hm).ext hx, h.roots.ext hx⟩
theorem words_is (G : GraphD) (A : Option Addr) (cap : Nat) (l : List Int) (n : Int) (V : World) (h : addS sizeN G.ns l = n) (hG : GraphAt V G) (hl : IntsAt V A l) (hlen : l.length ≤ 9223372036854775807) (hn : G.ns.length ≤ 9223372036854775807) :
    Calls Try.prog 16 #[.agg #[.slice G.nA G.ns.length G.ncap, .slice G.rA G.rs.length G.rcap], .slice A l.length cap] V fun e w' => e = .returned (.int .i64 n) ∧ Ext V w' := by
  rw [← h]; exact words_any G A cap l V hG hl hlen hn
theorem fieldsG_is (G : GraphD) (A : Option Addr) (cap : Nat) (l : List Int) (n : Int) (V : World) (h : addS (fun x => x.fields.length) G.ns l = n) (hG : GraphAt V G) (hl : IntsAt V A l) (hlen : l.length ≤ 9223372036854775807) (hn : G.ns.length ≤ 9223372036854775807) :
    Calls Try.prog 17 #[.agg #[.slice G.nA G.ns.length G.ncap, .slice G.rA G.rs.length G.rcap], .slice A l.length cap] V fun e w' => e = .returned (.int .i64 n) ∧ Ext V w' := by
  rw [← h]; exact fieldsG_any G A cap l V hG hl hlen hn
theorem same_is (G H : GraphD) (b : Bool) (W : World) (h : sameG G H = b) (hG : GraphAt W G) (hH : GraphAt W H) (oG : GraphOk G) (oH : GraphOk H) :
    Calls Try.prog 21 #[.agg #[.slice G.nA G.ns.length G.ncap, .slice G.rA G.rs.length G.rcap], .agg #[.slice H.nA H.ns.length H.ncap, .slice H.rA H.rs.length H.rcap]] W fun e w' => e = .returned (.bool b) ∧ Ext W w' := by
  rw [← h]; exact same_any G H W hG hH oG oH
theorem size_is (x : NodeD) (n : Int) (W : World) (h : sizeN x = n) : Calls Try.prog 9 #[.agg #[.int .i64 x.kind, .slice x.fA x.fields.length x.fcap, .slice x.rA x.raws.length x.rcap]] W fun e w' => e = .returned (.int .i64 n) ∧ Ext W w' := by
  rw [← h]; exact size_any x W
/-- The graph of chapter 16's example, wherever it lies: the first node leads to x. -/
def awG (nA : Option Addr) (ncap : Nat) (fA : Option Addr) (fc : Nat) (rA : Option Addr) (rc : Nat) (gA : Option Addr) (gc : Nat) (sA : Option Addr) (sc : Nat) (RA : Option Addr) (Rc : Nat) (x : Int) : GraphD :=
  ⟨nA, ncap, [⟨0, fA, fc, [(2, x)], rA, rc, []⟩, ⟨3, gA, gc, [(2, 0)], sA, sc, [7]⟩], RA, Rc, [(2, 0)]⟩
section
variable {nA : Option Addr} {ncap : Nat} {fA : Option Addr} {fc : Nat} {rA : Option Addr} {rc : Nat} {gA : Option Addr} {gc : Nat} {sA : Option Addr} {sc : Nat} {RA : Option Addr} {Rc : Nat}
theorem aw_right1 : rightG (awG nA ncap fA fc rA rc gA gc sA sc RA Rc 1) = true := by rfl
theorem aw_right2 : rightG (awG nA ncap fA fc rA rc gA gc sA sc RA Rc 2) = false := by rfl
theorem aw_e0 : renE (awG nA ncap fA fc rA rc gA gc sA sc RA Rc 1) [1, 0] = 0 := by rfl
theorem aw_n0 : renN (awG nA ncap fA fc rA rc gA gc sA sc RA Rc 1) [1, 0] = [(3, [(2, 1)], [7]), (0, [(2, 0)], [])] := by rfl
theorem aw_r0 : renR (awG nA ncap fA fc rA rc gA gc sA sc RA Rc 1) [1, 0] = [(2, 1)] := by rfl
theorem aw_e1 : renE (awG nA ncap fA fc rA rc gA gc sA sc RA Rc 1) [1] = 2 := by rfl
theorem aw_e2 : renE (awG nA ncap fA fc rA rc gA gc sA sc RA Rc 1) [1, 1] = 1 := by rfl
theorem aw_ok {x : Int} (hx : -9223372036854775808 ≤ x ∧ x ≤ 9223372036854775807) (h1 : nA ≠ none) (h2 : fA ≠ none) (h3 : rA = none → rc = 0) (h4 : gA ≠ none) (h5 : sA ≠ none) (h6 : RA ≠ none) (c1 : 2 ≤ ncap) (c2 : 1 ≤ fc) (c3 : 1 ≤ gc) (c4 : 1 ≤ sc) (c5 : 1 ≤ Rc) : GraphOk (awG nA ncap fA fc rA rc gA gc sA sc RA Rc x) := by
  refine ⟨by simp [awG], by simp [awG], fun h => absurd h h1, fun h => absurd h h6, by simpa [awG] using c1, by simpa [awG] using c5, fun n hn => ?_, by simp [awG]⟩
  simp only [awG, List.mem_cons, List.not_mem_nil, or_false] at hn
  rcases hn with rfl | rfl
  · exact ⟨by simp, by simp, by simp, fun h => absurd h h2, h3, by simpa using c2, by simp, by simpa using hx, by simp⟩
  · exact ⟨by simp, by simp, by simp, fun h => absurd h h4, fun h => absurd h h5, by simpa using c3, by simpa using c4, by simp, by simp⟩
theorem aw_words : addS sizeN (awG nA ncap fA fc rA rc gA gc sA sc RA Rc 1).ns [0, 1, 1] = 8 := by simp [addS, awG, sizeN, wrap64]
theorem aw_fields : addS (fun x => x.fields.length) (awG nA ncap fA fc rA rc gA gc sA sc RA Rc 1).ns [0, 1] = 2 := by simp [addS, awG, wrap64]
theorem aw_size : sizeN ⟨3, gA, gc, [(2, 0)], sA, sc, [7]⟩ = 3 := by simp [sizeN, wrap64]
theorem aw_ok2 (h : GraphOk (awG nA ncap fA fc rA rc gA gc sA sc RA Rc 1)) : GraphOk (awG nA ncap fA fc rA rc gA gc sA sc RA Rc 2) := by
  have h0 := h.each ⟨0, fA, fc, [(2, 1)], rA, rc, []⟩ (by simp [awG])
  refine ⟨h.nl, h.rl, h.nn, h.rn, h.nc, h.rc, fun n hn => ?_, h.rv⟩
  simp only [awG, List.mem_cons, List.not_mem_nil, or_false] at hn
  rcases hn with rfl | rfl
  · exact ⟨h0.kind, h0.fl, h0.rl, h0.fn, h0.rn, h0.fc, h0.rc, by simp, by simp⟩
  · exact h.each _ (by simp [awG])
theorem aw_same {nB : Option Addr} {ncap2 : Nat} {fB : Option Addr} {fc2 : Nat} {rB : Option Addr} {rc2 : Nat} {gB : Option Addr} {gc2 : Nat} {sB : Option Addr} {sc2 : Nat} {RB : Option Addr} {Rc2 : Nat} : sameG (awG nA ncap fA fc rA rc gA gc sA sc RA Rc 1) (awG nB ncap2 fB fc2 rB rc2 gB gc2 sB sc2 RB Rc2 2) = false := by
  simp [sameG, sameL, awG, nodeV]
end
theorem two_nodes {ns : List NodeD} {k l : Int} {f g : List (Int × Int)} {r s : List Int} (h : ns.map nodeV = [(k, f, r), (l, g, s)]) : ∃ fA fc rA rc gA gc sA sc, ns = [⟨k, fA, fc, f, rA, rc, r⟩, ⟨l, gA, gc, g, sA, sc, s⟩] := by
  match ns, h with
  | [⟨k1, fA, fc, f1, rA, rc, r1⟩, ⟨l1, gA, gc, g1, sA, sc, s1⟩], h =>
    simp only [List.map_cons, List.map_nil, nodeV, List.cons.injEq, Prod.mk.injEq, and_true] at h
    obtain ⟨⟨rfl, rfl, rfl⟩, rfl, rfl, rfl⟩ := h
    exact ⟨fA, fc, rA, rc, gA, gc, sA, sc, rfl⟩
/-- The example in another order. -/
theorem aw_ren (nA : Option Addr) (ncap : Nat) (fA : Option Addr) (fc : Nat) (rA : Option Addr) (rc : Nat) (gA : Option Addr) (gc : Nat) (sA : Option Addr) (sc : Nat) (RA : Option Addr) (Rc : Nat) (A2 : Option Addr) (cap2 : Nat) (V : World)
    (hG : GraphAt V (awG nA ncap fA fc rA rc gA gc sA sc RA Rc 1)) (oG : GraphOk (awG nA ncap fA fc rA rc gA gc sA sc RA Rc 1)) (hO : IntsAt V A2 [1, 0]) :
    Calls Try.prog 18 #[.agg #[.slice nA 2 ncap, .slice RA 1 Rc], .slice A2 2 cap2] V fun e w' => ∃ b off c p q d, e = .returned (.tuple #[.agg #[.slice (some ⟨b, off, none⟩) 2 c, .slice (some ⟨p, q, none⟩) 1 d], .int .i64 0]) ∧ w'.cell? ⟨b, off, none⟩ = some (.int .i64 3) ∧ w'.cell? ⟨p, q + 1, none⟩ = some (.int .i64 1) ∧ Ext V w' := by
  refine (ren_any (awG nA ncap fA fc rA rc gA gc sA sc RA Rc 1) A2 cap2 [1, 0] V hG oG hO (by decide) (by decide)).mono ?_
  rw [aw_e0, aw_n0, aw_r0]
  rintro e w' ⟨⟨nA, ncap, ns, rA, rcap, rs⟩, rfl, hat, hns, hrs, -, -, -, -, -, hx⟩
  obtain ⟨fA, fc, rA, rc, gA, gc, sA, sc, hns2⟩ := two_nodes hns
  simp only at hns2 hrs
  subst hns2 hrs
  obtain ⟨b, off, h1, hc⟩ := hat.nodes.row.get (by simp)
  obtain ⟨p, q, h2, hd⟩ := hat.roots.get (by simp)
  simp only at h1 h2
  subst h1 h2
  have e1 := (nodes_cell hc (k := 0) (by simp)).1
  have e2 := (spans_cell hd (k := 0) (by simp)).2
  exact ⟨b, off, ncap, p, q, rcap, rfl, by simpa using e1, by simpa using e2, hx⟩
theorem aw_bad (nA : Option Addr) (ncap : Nat) (fA : Option Addr) (fc : Nat) (rA : Option Addr) (rc : Nat) (gA : Option Addr) (gc : Nat) (sA : Option Addr) (sc : Nat) (RA : Option Addr) (Rc : Nat) (A2 : Option Addr) (cap2 : Nat) (o : List Int) (n : Nat) (c : Int) (V : World)
    (hn : o.length = n) (hc : renE (awG nA ncap fA fc rA rc gA gc sA sc RA Rc 1) o = c) (hne : c ≠ 0) (hl : n ≤ 1000) (how : ∀ x ∈ o, -9223372036854775808 ≤ x ∧ x ≤ 9223372036854775807)
    (hG : GraphAt V (awG nA ncap fA fc rA rc gA gc sA sc RA Rc 1)) (oG : GraphOk (awG nA ncap fA fc rA rc gA gc sA sc RA Rc 1)) (hO : IntsAt V A2 o) :
    Calls Try.prog 18 #[.agg #[.slice nA 2 ncap, .slice RA 1 Rc], .slice A2 n cap2] V fun e w' => ∃ A k B l, e = .returned (.tuple #[.agg #[.slice A 0 k, .slice B 0 l], .int .i64 c]) ∧ Ext V w' := by
  subst hn
  refine (ren_any (awG nA ncap fA fc rA rc gA gc sA sc RA Rc 1) A2 cap2 o V hG oG hO hl how).mono ?_
  rw [renN, renR, hc, if_neg hne, if_neg hne]
  rintro e w' ⟨⟨nA, ncap, ns, rA, rcap, rs⟩, rfl, hat, hns, hrs, -, -, -, -, -, hx⟩
  simp only [List.map_eq_nil_iff] at hns hrs
  subst hns hrs
  exact ⟨nA, ncap, rA, rcap, rfl, hx⟩
theorem aw_copy (nA : Option Addr) (ncap : Nat) (fA : Option Addr) (fc : Nat) (rA : Option Addr) (rc : Nat) (gA : Option Addr) (gc : Nat) (sA : Option Addr) (sc : Nat) (RA : Option Addr) (Rc : Nat) (V : World)
    (hG : GraphAt V (awG nA ncap fA fc rA rc gA gc sA sc RA Rc 1)) (oG : GraphOk (awG nA ncap fA fc rA rc gA gc sA sc RA Rc 1)) :
    Calls Try.prog 23 #[.agg #[.slice nA 2 ncap, .slice RA 1 Rc]] V fun e w' => ∃ (b c g fc : Nat) (rA : Option Addr) (rc : Nat) (gA : Option Addr) (gc : Nat) (sA : Option Addr) (sc : Nat) (RA : Option Addr) (Rc : Nat), e = .returned (.agg #[.slice (some ⟨b, 0, none⟩) 2 c, .slice RA 1 Rc]) ∧
      OwnG w' V.heap.size (awG (some ⟨b, 0, none⟩) c (some ⟨g, 0, none⟩) fc rA rc gA gc sA sc RA Rc 1) ∧ GraphOk (awG (some ⟨b, 0, none⟩) c (some ⟨g, 0, none⟩) fc rA rc gA gc sA sc RA Rc 1) ∧ Ext V w' := by
  refine (copy_any (awG nA ncap fA fc rA rc gA gc sA sc RA Rc 1) V hG oG).mono ?_
  rintro e w' ⟨⟨nA, ncap, ns, rA, rcap, rs⟩, rfl, hat, hns, hrs, hx⟩
  obtain ⟨fA, fc, rA, rc, gA, gc, sA, sc, hns2⟩ := two_nodes hns
  simp only [awG] at hns2 hrs
  subst hns2 hrs
  have ok := hat.ok hns rfl oG
  obtain ⟨b, h1, -, -⟩ := own_some hat.nodes (by simp)
  obtain ⟨g, h2, -, -⟩ := own_some (hat.each _ (List.mem_cons_self ..)).f (by simp)
  simp only at h1 h2
  subst h1 h2
  exact ⟨b, ncap, g, fc, rA, rc, gA, gc, sA, sc, _, _, rfl, hat, ok, hx⟩
/-- The copy's first field leads elsewhere. -/
theorem aw_set {B b c g fc : Nat} {rA : Option Addr} {rc : Nat} {gA : Option Addr} {gc : Nat} {sA : Option Addr} {sc : Nat} {RA : Option Addr} {Rc : Nat} {w : World} (h : OwnG w B (awG (some ⟨b, 0, none⟩) c (some ⟨g, 0, none⟩) fc rA rc gA gc sA sc RA Rc 1)) :
    GraphAt (w.setCell ⟨g, 1, none⟩ (.int .i64 2)) (awG (some ⟨b, 0, none⟩) c (some ⟨g, 0, none⟩) fc rA rc gA gc sA sc RA Rc 2) ∧ w.frozen? ⟨g, 1, none⟩ = false ∧ B ≤ g ∧ g < w.heap.size ∧
      w.cell? ⟨b, 1, none⟩ = some (.slice (some ⟨g, 0, none⟩) 1 fc) ∧ w.cell? ⟨g, 1, none⟩ = some (.int .i64 1) ∧ b ≠ g := by
  have x0 := h.each ⟨0, some ⟨g, 0, none⟩, fc, [(2, 1)], rA, rc, []⟩ (by simp [awG])
  have x1 := h.each ⟨3, gA, gc, [(2, 0)], sA, sc, [7]⟩ (by simp [awG])
  obtain ⟨cur, hg⟩ := own_heap x0.f
  obtain ⟨curb, hb⟩ := own_heap h.nodes
  have lt := World.ownsRow.lt x0.f g rfl
  have rd : ∀ {A : Option Addr} {cap : Nat}, Own 46 2 spanC w B (.slice A 1 cap) [(2, 0)] → Own 46 2 spanC (w.setCell ⟨g, 1, none⟩ (.int .i64 2)) B (.slice A 1 cap) [(2, 0)] := fun {A cap} ho => by
    refine ho.setNe fun e => ?_
    obtain ⟨q, rfl, -, -⟩ := own_some ho (by simp)
    obtain rfl : q = g := by simpa [Value.ownBlock] using e
    have c1 := World.ownsRow.cells ho (g := q) rfl 1 (.int .i64 0) rfl
    have c2 := World.ownsRow.cells x0.f (g := q) rfl 1 (.int .i64 1) rfl
    rw [c1] at c2
    cases c2
  have y0 : Own 46 2 spanC (w.setCell ⟨g, 1, none⟩ (.int .i64 2)) B (.slice (some ⟨g, 0, none⟩) 1 fc) [(2, 2)] := own_setX (cs := []) (x := (2, 1)) (rest := []) x0.f rfl 2
  have hn := h.nodes
  have e1 := World.ownsRow.cells hn (g := b) rfl 1 (.slice (some ⟨g, 0, none⟩) 1 fc) rfl
  have e2 := World.ownsRow.cells x0.f (g := g) rfl 1 (.int .i64 1) rfl
  refine ⟨⟨⟨?_, fun x hx => ?_⟩, (own_row (rd h.roots) spanCells (by decide)).1⟩, frozen_of_row _ _ _ _ _ hg, lt.1, lt.2, e1, e2, fun e => ?_⟩
  · have hn' : Own 34 3 nodeC (w.setCell ⟨g, 1, none⟩ (.int .i64 2)) B (.slice (some ⟨b, 0, none⟩) 2 c) (awG (some ⟨b, 0, none⟩) c (some ⟨g, 0, none⟩) fc rA rc gA gc sA sc RA Rc 2).ns := by
      have := hn.setOther (i := 1) (u := .int .i64 2) hg (by decide)
      unfold Own at this ⊢
      exact this
    exact (own_row (cap := c) hn' nodeCells (by decide)).1
  · simp only [awG, List.mem_cons, List.not_mem_nil, or_false] at hx
    rcases hx with rfl | rfl
    · exact ⟨(own_row (cap := fc) y0 spanCells (by decide)).1, (own_row (x0.r.setOther hg (by decide)) u64Cells (by decide)).1⟩
    · exact ⟨(own_row (cap := gc) (rd x1.f) spanCells (by decide)).1, (own_row (x1.r.setOther hg (by decide)) u64Cells (by decide)).1⟩
  · subst e
    rw [hg] at hb
    cases hb
end Go.Proofs.Ytidfibheehcdgaa
