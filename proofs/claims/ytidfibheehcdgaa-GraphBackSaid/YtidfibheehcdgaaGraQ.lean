/- The reference's Renumber. -/
import Derived.Test.YtidfibheehcdgaaGraP
set_option linter.unusedSimpArgs false
set_option linter.unusedVariables false
namespace Go.Proofs.Ytidfibheehcdgaa
open Go.RowKit Go.Shelf

/-- Is a number of an order none of a node, or there twice? -/
def badO (o : List Int) (n : Nat) : Bool := (List.range o.length).any fun i => !decide (0 ≤ o.getD i 0 ∧ o.getD i 0 < n ∧ placeZ o (o.getD i 0) = i)
def lostO (o : List Int) (ns : List NodeD) (rs : List (Int × Int)) : Bool := (o.any fun j => (ns.getD j.toNat default).fields.any (lostV o)) || rs.any (lostV o)
def renE (G : GraphD) (o : List Int) : Int := if rightG G then (if badO o G.ns.length then 1 else if lostO o G.ns G.rs then 2 else 0) else 4
def turnN (o : List Int) (ns : List NodeD) (j : Int) : Int × List (Int × Int) × List Int := ((ns.getD j.toNat default).kind, (ns.getD j.toNat default).fields.map (turned o), (ns.getD j.toNat default).raws)
def renN (G : GraphD) (o : List Int) : List (Int × List (Int × Int) × List Int) := if renE G o = 0 then o.map (turnN o G.ns) else []
def renR (G : GraphD) (o : List Int) : List (Int × Int) := if renE G o = 0 then G.rs.map (turned o) else []
theorem badO_no {o : List Int} {n : Nat} (h : ∀ i, i < o.length → 0 ≤ o.getD i 0 ∧ o.getD i 0 < n ∧ placeZ o (o.getD i 0) = i) : badO o n = false := by
  unfold badO
  rw [List.any_eq_false]
  intro i hi
  have := h i (List.mem_range.1 hi)
  simp only [decide_eq_true this, Bool.not_true, Bool.false_eq_true, not_false_eq_true]
theorem badO_yes {o : List Int} {n i : Nat} (hi : i < o.length) (h : ¬ (0 ≤ o.getD i 0 ∧ o.getD i 0 < n ∧ placeZ o (o.getD i 0) = i)) : badO o n = true := by
  unfold badO
  rw [List.any_eq_true]
  exact ⟨i, List.mem_range.2 hi, by simp only [decide_eq_false h, Bool.not_false]⟩
theorem renE_form {G : GraphD} {o : List Int} (h : rightG G = false) : renE G o = 4 := by simp [renE, h]
theorem renE_arg {G : GraphD} {o : List Int} (h : rightG G = true) (h2 : badO o G.ns.length = true) : renE G o = 1 := by simp [renE, h, h2]
theorem renE_place {G : GraphD} {o : List Int} (h : rightG G = true) (h2 : badO o G.ns.length = false) (h3 : lostO o G.ns G.rs = true) : renE G o = 2 := by simp [renE, h, h2, h3]
theorem renE_ok {G : GraphD} {o : List Int} (h : rightG G = true) (h2 : badO o G.ns.length = false) (h3 : lostO o G.ns G.rs = false) : renE G o = 0 := by simp [renE, h, h2, h3]
/-- A graph and an error come back. -/
def RetN (V : World) (c : Int) (vs : List (Int × List (Int × Int) × List Int)) (rs : List (Int × Int)) (e : Ending) (w' : World) : Prop :=
  ∃ H : GraphD, e = .returned (.tuple #[.agg #[.slice H.nA H.ns.length H.ncap, .slice H.rA H.rs.length H.rcap], .int .i64 c]) ∧ GraphAt w' H ∧ H.ns.map nodeV = vs ∧ H.rs = rs ∧ (∀ x ∈ H.ns, (x.fA = none → x.fcap = 0) ∧ (x.rA = none → x.rcap = 0) ∧ x.fields.length ≤ x.fcap ∧ x.raws.length ≤ x.rcap) ∧
    (H.nA = none → H.ncap = 0) ∧ (H.rA = none → H.rcap = 0) ∧ H.ns.length ≤ H.ncap ∧ H.rs.length ≤ H.rcap ∧ Ext V w'
theorem retN_none {V w : World} {c : Int} {vs : List (Int × List (Int × Int) × List Int)} {rs : List (Int × Int)} (hv : vs = []) (hr : rs = []) (hx : Ext V w) : RetN V c vs rs (.returned (.tuple #[.agg #[.slice none 0 0, .slice none 0 0], .int .i64 c])) w := by
  subst hv hr
  exact ⟨⟨none, 0, [], none, 0, []⟩, rfl, ⟨⟨RowAt.none _ _ _, by simp⟩, RowAt.none _ _ _⟩, rfl, rfl, by simp, fun _ => rfl, fun _ => rfl, by simp, by simp, hx⟩
/-- What the renumbering loop keeps. -/
structure RenI (V : World) (Bo : Nat) (g0 g1 : Value) (cs : List NodeD) (v : Value) (wr : World) : Prop where
  g : wr.heap[V.heap.size]? = some (.cells #[g0, g1] 25 (0, 0))
  r : wr.heap[V.heap.size + 1]? = some (.cells #[.slice none 0 0, .slice none 0 0] 25 (0, 0))
  out : wr.heap[Bo]? = some (.cells #[v, .slice none 0 0] 25 (0, 0))
  own : Own 34 3 nodeC wr V.heap.size v cs
  each : ∀ c ∈ cs, Own 46 2 spanC wr V.heap.size (.slice c.fA c.fields.length c.fcap) c.fields ∧ WordsAt V c.rA c.raws ∧ (c.rA = none → c.rcap = 0) ∧ c.raws.length ≤ c.rcap
  ext : Ext V wr
  bo : V.heap.size + 1 < Bo
section
variable {V : World} {Bo : Nat} {g0 g1 : Value} {cs : List NodeD} {v : Value} {wr w' : World}
theorem RenI.grow (h : RenI V Bo g0 g1 cs v wr) (hx : Ext wr w') : RenI V Bo g0 g1 cs v w' :=
  ⟨(hx.block (lt_of_heap h.g)).trans h.g, (hx.block (lt_of_heap h.r)).trans h.r, (hx.block (lt_of_heap h.out)).trans h.out, h.own.ext hx, fun c hc => ⟨(h.each c hc).1.ext hx, (h.each c hc).2⟩, h.ext.trans hx, h.bo⟩
theorem RenI.app (h : RenI V Bo g0 g1 cs v wr) {v' : Value} {x : NodeD} (hown : Own 34 3 nodeC w' V.heap.size v' (cs ++ [x])) (hg : wr.grownBy w' v.ownBlock)
    (hx : Own 46 2 spanC wr V.heap.size (.slice x.fA x.fields.length x.fcap) x.fields) (hx2 : WordsAt V x.rA x.raws ∧ (x.rA = none → x.rcap = 0) ∧ x.raws.length ≤ x.rcap) :
    RenI V Bo g0 g1 (cs ++ [x]) v' (w'.setCell ⟨Bo, 0, none⟩ v') := by
  have hty : ∀ (b : Nat) (ws : Array Value), wr.heap[b]? = some (.cells ws 25 (0, 0)) → w'.heap[b]? = some (.cells ws 25 (0, 0)) := fun b ws hb =>
    (hg.block b (lt_of_heap hb) (h.own.ne_block hb (by decide))).trans hb
  have hout := hty _ _ h.out
  have hbo := h.bo
  have hset : ∀ b o, w'.heap[b]? = some o → b ≠ Bo → (w'.setCell ⟨Bo, 0, none⟩ v').heap[b]? = some o := fun b o hb hne => (Below.heap_setCell w' ⟨Bo, 0, none⟩ v' b hne).trans hb
  refine ⟨hset _ _ (hty _ _ h.g) (by omega), hset _ _ (hty _ _ h.r) (by omega), ?_, hown.setOther hout (by decide), fun c hc => ?_, (Own.grown h.own hg (Nat.le_refl _) h.ext).setCell (by simp only; omega) _, h.bo⟩
  · rw [heap_setCell_same w' Bo 0 _ _ _ hout]; rfl
  · rcases List.mem_append.1 hc with hc | hc
    · exact ⟨((h.each c hc).1.keep2 h.own (by decide) hg).setOther hout (by decide), (h.each c hc).2⟩
    · rcases List.mem_singleton.1 hc with rfl
      exact ⟨(hx.keep2 h.own (by decide) hg).setOther hout (by decide), hx2⟩
/-- The end: the roots are put, and the result is laid. -/
theorem RenI.fin {A A1 : Option Addr} {cap cap1 : Nat} {rs : List (Int × Int)} {vs : List (Int × List (Int × Int) × List Int)} (h : RenI V Bo g0 g1 cs (.slice A cs.length cap) wr) (hr : Own 46 2 spanC wr V.heap.size (.slice A1 rs.length cap1) rs) (hvs : cs.map nodeV = vs) (u2 u0 u1 : Value) :
    RetN V 0 vs rs (.returned (.tuple #[.agg #[.slice A cs.length cap, .slice A1 rs.length cap1], .int .i64 0])) (((wr.setCell ⟨Bo, 1, none⟩ u2).setCell ⟨V.heap.size + 1, 0, none⟩ u0).setCell ⟨V.heap.size + 1, 1, none⟩ u1) := by
  have hbo := h.bo
  have h1 : (wr.setCell ⟨Bo, 1, none⟩ u2).heap[V.heap.size + 1]? = _ := (Below.heap_setCell wr ⟨Bo, 1, none⟩ u2 (V.heap.size + 1) (by simp only; omega)).trans h.r
  have h2 := heap_setCell_same _ (V.heap.size + 1) 0 _ _ u0 h1
  have st : ∀ {α : Type} {e : TypeId} {n : Nat} {f : α → List Value} {v : Value} {xs : List α}, Own e n f wr V.heap.size v xs → 25 ≠ e → Own e n f (((wr.setCell ⟨Bo, 1, none⟩ u2).setCell ⟨V.heap.size + 1, 0, none⟩ u0).setCell ⟨V.heap.size + 1, 1, none⟩ u1) V.heap.size v xs :=
    fun ho hne => ((ho.setOther h.out hne).setOther h1 hne).setOther h2 hne
  have hx : Ext V (((wr.setCell ⟨Bo, 1, none⟩ u2).setCell ⟨V.heap.size + 1, 0, none⟩ u0).setCell ⟨V.heap.size + 1, 1, none⟩ u1) := ((h.ext.setCell (by simp only; omega) _).setCell (by simp) _).setCell (by simp) _
  have on := own_row (st h.own (by decide)) nodeCells (by decide)
  have orr := own_row (st hr (by decide)) spanCells (by decide)
  refine ⟨⟨A, cap, cs, A1, cap1, rs⟩, rfl, ⟨⟨on.1, fun c hc => ⟨(own_row (st (h.each c hc).1 (by decide)) spanCells (by decide)).1, (h.each c hc).2.1.ext hx⟩⟩, orr.1⟩, hvs, rfl, fun c hc => ?_, on.2.1, orr.2.1, on.2.2, orr.2.2, hx⟩
  have of := own_row (st (h.each c hc).1 (by decide)) spanCells (by decide)
  exact ⟨of.2.1, (h.each c hc).2.2.1, of.2.2, (h.each c hc).2.2.2⟩
end
theorem refright_is (G : GraphD) (b : Bool) (hb : rightG G = b) (V : World) (hG : GraphAt V G) (hn : G.ns.length ≤ 9223372036854775807) (hr : G.rs.length ≤ 9223372036854775807) (hf : ∀ x ∈ G.ns, x.fields.length ≤ 9223372036854775807) :
    Calls Try.prog 12 #[.agg #[.slice G.nA G.ns.length G.ncap, .slice G.rA G.rs.length G.rcap]] V fun e w' => e = .returned (.bool b) ∧ Ext V w' := by
  subst hb; exact refright_any G V hG hn hr hf
theorem place_is (A : Option Addr) (cap : Nat) (l : List Int) (x z : Int) (hz : placeZ l x = z) (W : World) (hlen : l.length ≤ 9223372036854775807) (hl : IntsAt W A l) :
    Calls Try.prog 31 #[.slice A l.length cap, .int .i64 x] W fun e w' => e = .returned (.int .i64 z) ∧ Ext W w' := by
  subst hz; exact place_any A cap l x W hlen hl
end Go.Proofs.Ytidfibheehcdgaa
