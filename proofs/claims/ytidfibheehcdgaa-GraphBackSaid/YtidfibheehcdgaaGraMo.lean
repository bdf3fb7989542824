/- A graph of the call's own whose values are turned in place, whatever they are; a slice of numbers that is made and written. -/
import Derived.Test.YtidfibheehcdgaaGraPl
import Derived.OwnWalk
set_option linter.unusedSimpArgs false
set_option linter.unusedVariables false
namespace Go.Proofs.Ytidfibheehcdgaa
open Go.RowKit Go.Shelf

def AnyV (w : World) (B : Nat) (A : Option Addr) (cap n : Nat) : Prop := ∃ xs : List (Int × Int), xs.length = n ∧ Own 46 2 spanC w B (.slice A n cap) xs
def AnyU (w : World) (B : Nat) (A : Option Addr) (cap n : Nat) : Prop := ∃ xs : List Int, xs.length = n ∧ Own 47 1 u64C w B (.slice A n cap) xs
theorem span_set : ∀ (xs : List (Int × Int)) (k : Nat) (z : Int), (xs.flatMap spanC).set (k * 2 + 1) (.int .i64 z) = (xs.set k ((xs.getD k (0, 0)).1, z)).flatMap spanC
  | [], k, z => by simp
  | x :: xs, 0, z => by simp [spanC]
  | x :: xs, k + 1, z => by
    have h := span_set xs k z
    rw [show (k + 1) * 2 + 1 = (k * 2 + 1) + 2 by omega]
    simp only [List.flatMap_cons, List.set_cons_succ, List.getD_cons_succ]
    rw [← h]
    simp [spanC]
theorem u64_set : ∀ (xs : List Int) (k : Nat) (z : Int), (xs.flatMap u64C).set k (.int .u64 z) = (xs.set k z).flatMap u64C
  | [], k, z => by simp
  | x :: xs, 0, z => by simp [u64C]
  | x :: xs, k + 1, z => by
    have h := u64_set xs k z
    simp only [List.flatMap_cons, List.set_cons_succ]
    rw [← h]
    simp [u64C]
theorem int_set : ∀ (xs : List Int) (k : Nat) (z : Int), (xs.flatMap intC).set k (.int .i64 z) = (xs.set k z).flatMap intC
  | [], k, z => by simp
  | x :: xs, 0, z => by simp [intC]
  | x :: xs, k + 1, z => by
    have h := int_set xs k z
    simp only [List.flatMap_cons, List.set_cons_succ]
    rw [← h]
    simp [intC]
theorem own_setI {w : World} {B g cap n : Nat} {xs : List Int} (h : Own 3 1 intC w B (.slice (some ⟨g, 0, none⟩) n cap) xs) (hn : xs.length = n) (k : Nat) (z : Int) :
    Own 3 1 intC (w.setCell ⟨g, k, none⟩ (.int .i64 z)) B (.slice (some ⟨g, 0, none⟩) n cap) (xs.set k z) := by
  unfold Own at h ⊢
  rw [hn] at h
  rw [List.length_set, hn, ← int_set]
  exact (World.ownsRow.stored h k (.int .i64 z)).1
section
variable {w w' : World} {B : Nat} {A : Option Addr} {cap n : Nat}
theorem AnyV.ext (h : AnyV w B A cap n) (hx : Ext w w') : AnyV w' B A cap n := by obtain ⟨xs, h1, h2⟩ := h; exact ⟨xs, h1, h2.ext hx⟩
theorem AnyU.ext (h : AnyU w B A cap n) (hx : Ext w w') : AnyU w' B A cap n := by obtain ⟨xs, h1, h2⟩ := h; exact ⟨xs, h1, h2.ext hx⟩
theorem AnyV.set (h : AnyV w B A cap n) {g k : Nat} {z : Int} : AnyV (w.setCell ⟨g, k * 2 + 1, none⟩ (.int .i64 z)) B A cap n := by
  obtain ⟨xs, h1, h2⟩ := h
  by_cases hb : (Value.slice A n cap).ownBlock = some g
  · have hA : A = some ⟨g, 0, none⟩ := by
      rcases h2.2 with ⟨hv, _⟩ | ⟨b2, cap2, cur2, hv, _⟩
      · rw [hv] at hb; cases hb
      · rw [hv] at hb
        have : b2 = g := by simpa [Value.ownBlock] using hb
        injection hv with e1 e2 e3
        rw [e1, this]
    subst hA
    refine ⟨xs.set k ((xs.getD k (0, 0)).1, z), by simpa using h1, ?_⟩
    unfold Own at h2 ⊢
    rw [List.length_set, ← span_set]
    rw [h1] at h2 ⊢
    exact (World.ownsRow.stored h2 (k * 2 + 1) (.int .i64 z)).1
  · exact ⟨xs, h1, h2.setNe hb⟩
theorem AnyU.set (h : AnyU w B A cap n) {g k : Nat} {z : Int} : AnyU (w.setCell ⟨g, k, none⟩ (.int .u64 z)) B A cap n := by
  obtain ⟨xs, h1, h2⟩ := h
  by_cases hb : (Value.slice A n cap).ownBlock = some g
  · have hA : A = some ⟨g, 0, none⟩ := by
      rcases h2.2 with ⟨hv, _⟩ | ⟨b2, cap2, cur2, hv, _⟩
      · rw [hv] at hb; cases hb
      · rw [hv] at hb
        have : b2 = g := by simpa [Value.ownBlock] using hb
        injection hv with e1 e2 e3
        rw [e1, this]
    subst hA
    refine ⟨xs.set k z, by simpa using h1, ?_⟩
    unfold Own at h2 ⊢
    rw [List.length_set, ← u64_set]
    rw [h1] at h2 ⊢
    exact (World.ownsRow.stored h2 k (.int .u64 z)).1
  · exact ⟨xs, h1, h2.setNe hb⟩
theorem AnyV.at (h : AnyV w B A cap n) {k : Nat} (hk : k < n) : ∃ (g : Nat) (cur : Array Value) (z : Int), A = some ⟨g, 0, none⟩ ∧ w.heap[g]? = some (.cells cur 46 (0, 0)) ∧ w.cell? ⟨g, k * 2 + 1, none⟩ = some (.int .i64 z) ∧ w.frozen? ⟨g, k * 2 + 1, none⟩ = false ∧ B ≤ g := by
  obtain ⟨xs, h1, h2⟩ := h
  obtain ⟨g, rfl, hB, -⟩ := own_some h2 (by intro e; rw [e] at h1; simp at h1; omega)
  obtain ⟨cur, hg⟩ := own_heap h2
  have h3 : Own 46 2 spanC w B (.slice (some ⟨g, 0, none⟩) xs.length cap) xs := by rw [h1]; exact h2
  obtain ⟨b, off, e, hc⟩ := (own_row h3 spanCells (by decide)).1.get (by omega)
  injection e with e
  injection e with e1 e2
  subst e1 e2
  obtain ⟨-, c1⟩ := spans_cell hc (k := k) (by omega)
  exact ⟨g, cur, _, rfl, hg, by simpa using c1, frozen_of_row _ _ _ _ _ hg, hB⟩
theorem AnyU.at (h : AnyU w B A cap n) {k : Nat} (hk : k < n) : ∃ (g : Nat) (cur : Array Value) (z : Int), A = some ⟨g, 0, none⟩ ∧ w.heap[g]? = some (.cells cur 47 (0, 0)) ∧ w.cell? ⟨g, k, none⟩ = some (.int .u64 z) ∧ w.frozen? ⟨g, k, none⟩ = false ∧ B ≤ g := by
  obtain ⟨xs, h1, h2⟩ := h
  obtain ⟨g, rfl, hB, -⟩ := own_some h2 (by intro e; rw [e] at h1; simp at h1; omega)
  obtain ⟨cur, hg⟩ := own_heap h2
  have h3 : Own 47 1 u64C w B (.slice (some ⟨g, 0, none⟩) xs.length cap) xs := by rw [h1]; exact h2
  obtain ⟨b, off, e, hc⟩ := (own_row h3 u64Cells (by decide)).1.get (by omega)
  injection e with e
  injection e with e1 e2
  subst e1 e2
  have c1 := words_cell hc (k := k) (by omega)
  exact ⟨g, cur, _, rfl, hg, by simpa using c1, frozen_of_row _ _ _ _ _ hg, hB⟩
theorem AnyV.setOther (h : AnyV w B A cap n) {Bo i : Nat} {u : Value} {ws : Array Value} {t : TypeId} {r : Nat × Nat} (hb : w.heap[Bo]? = some (.cells ws t r)) (hne : t ≠ 46) : AnyV (w.setCell ⟨Bo, i, none⟩ u) B A cap n := by
  obtain ⟨xs, h1, h2⟩ := h; exact ⟨xs, h1, h2.setOther hb hne⟩
theorem AnyU.setOther (h : AnyU w B A cap n) {Bo i : Nat} {u : Value} {ws : Array Value} {t : TypeId} {r : Nat × Nat} (hb : w.heap[Bo]? = some (.cells ws t r)) (hne : t ≠ 47) : AnyU (w.setCell ⟨Bo, i, none⟩ u) B A cap n := by
  obtain ⟨xs, h1, h2⟩ := h; exact ⟨xs, h1, h2.setOther hb hne⟩
end
/-- What the loops keep that turn a copy's values. -/
structure ModI (W1 : World) (X6 : Nat) (box : Array Value) (nA : Option Addr) (ncap : Nat) (cs : List NodeD) (wr : World) : Prop where
  own : Own 34 3 nodeC wr W1.heap.size (.slice nA cs.length ncap) cs
  f : ∀ c ∈ cs, AnyV wr W1.heap.size c.fA c.fcap c.fields.length
  r : ∀ c ∈ cs, AnyU wr W1.heap.size c.rA c.rcap c.raws.length
  box : wr.heap[X6]? = some (.cells box 25 (0, 0))
  ext : Ext W1 wr
section
variable {W1 wr w' : World} {X6 : Nat} {box : Array Value} {nA : Option Addr} {ncap : Nat} {cs : List NodeD}
theorem ModI.start {G : GraphD} (h : OwnG wr W1.heap.size G) (hb : wr.heap[X6]? = some (.cells box 25 (0, 0))) (hx : Ext W1 wr) : ModI W1 X6 box G.nA G.ncap G.ns wr :=
  ⟨h.nodes, fun c hc => ⟨c.fields, rfl, (h.each c hc).f⟩, fun c hc => ⟨c.raws, rfl, (h.each c hc).r⟩, hb, hx⟩
theorem ModI.setV (h : ModI W1 X6 box nA ncap cs wr) {g k : Nat} {z : Int} {cur : Array Value} (hg : wr.heap[g]? = some (.cells cur 46 (0, 0))) (hB : W1.heap.size ≤ g) : ModI W1 X6 box nA ncap cs (wr.setCell ⟨g, k * 2 + 1, none⟩ (.int .i64 z)) :=
  ⟨h.own.setOther hg (by decide), fun c hc => (h.f c hc).set, fun c hc => (h.r c hc).setOther hg (by decide),
    (Below.heap_setCell wr ⟨g, k * 2 + 1, none⟩ _ X6 (fun e => by simp only at e; subst e; have := h.box; rw [hg] at this; cases this)).trans h.box, h.ext.setCell hB _⟩
theorem ModI.setU (h : ModI W1 X6 box nA ncap cs wr) {g k : Nat} {z : Int} {cur : Array Value} (hg : wr.heap[g]? = some (.cells cur 47 (0, 0))) (hB : W1.heap.size ≤ g) : ModI W1 X6 box nA ncap cs (wr.setCell ⟨g, k, none⟩ (.int .u64 z)) :=
  ⟨h.own.setOther hg (by decide), fun c hc => (h.f c hc).setOther hg (by decide), fun c hc => (h.r c hc).set,
    (Below.heap_setCell wr ⟨g, k, none⟩ _ X6 (fun e => by simp only at e; subst e; have := h.box; rw [hg] at this; cases this)).trans h.box, h.ext.setCell hB _⟩
end
theorem row_here {α : Type} {n : Nat} {f : α → List Value} {w : World} {b off : Nat} {xs : List α} (h : RowAt n f w (some ⟨b, off, none⟩) xs) (hne : 0 < xs.length) : ∀ i x, xs[i]? = some x → ∀ j v, (f x)[j]? = some v → w.cell? ⟨b, off + i * n + j, none⟩ = some v := by
  obtain ⟨b', off', hA, hc⟩ := h.get hne
  injection hA with e
  injection e with e1 e2
  subst e1 e2
  exact hc
theorem ModI.node {W1 wr : World} {X6 : Nat} {box : Array Value} {nb noff ncap : Nat} {cs : List NodeD} (h : ModI W1 X6 box (some ⟨nb, noff, none⟩) ncap cs wr) {k : Nat} (hk : k < cs.length) :
    wr.cell? ⟨nb, noff + k * 3 + 1, none⟩ = some (.slice (cs.getD k default).fA (cs.getD k default).fields.length (cs.getD k default).fcap) ∧ wr.cell? ⟨nb, noff + k * 3 + 2, none⟩ = some (.slice (cs.getD k default).rA (cs.getD k default).raws.length (cs.getD k default).rcap) := by
  have := nodes_cell (row_here (own_row h.own nodeCells (by decide)).1 (Nat.lt_of_le_of_lt (Nat.zero_le k) hk)) hk
  exact ⟨this.2.1, this.2.2⟩
/-- What a renumbering that does not err lays. -/
theorem RetN.ok {G H : GraphD} {o : List Int} (oG : GraphOk G) (hol : o.length ≤ 1000) (h : TurnedBy G H o) (hp : Perm o G.ns.length)
    (hc : ∀ x ∈ H.ns, (x.fA = none → x.fcap = 0) ∧ (x.rA = none → x.rcap = 0) ∧ x.fields.length ≤ x.fcap ∧ x.raws.length ≤ x.rcap) (h1 : H.nA = none → H.ncap = 0) (h2 : H.rA = none → H.rcap = 0) (h3 : H.ns.length ≤ H.ncap) (h4 : H.rs.length ≤ H.rcap) : GraphOk H := by
  have tv : ∀ v : Int × Int, ((-9223372036854775808 ≤ v.1 ∧ v.1 ≤ 9223372036854775807) ∧ (-9223372036854775808 ≤ v.2 ∧ v.2 ≤ 9223372036854775807)) → ((-9223372036854775808 ≤ (turned o v).1 ∧ (turned o v).1 ≤ 9223372036854775807) ∧ (-9223372036854775808 ≤ (turned o v).2 ∧ (turned o v).2 ≤ 9223372036854775807)) := fun v hv => by
    unfold turned
    split
    · have : -1 ≤ placeZ o v.2 ∧ placeZ o v.2 < 1000 := by
        rcases place_cases o v.2 with ⟨e, _⟩ | ⟨k, hk, e, _⟩ <;> omega
      exact ⟨by simp, by simp only; omega⟩
    · exact hv
  have hl := h.len hp
  have hrl : H.rs.length = G.rs.length := by rw [h.rs]; simp
  refine ⟨by have := oG.nl; omega, by have := oG.rl; omega, h1, h2, h3, h4, fun y hy => ?_, fun v hv => ?_⟩
  · obtain ⟨x, hx, e1, e2, e3⟩ := h.each hp y hy
    have ox := oG.each x hx
    obtain ⟨a, b, c, d⟩ := hc y hy
    refine ⟨by rw [e1]; exact ox.kind, by rw [e2, List.length_map]; exact ox.fl, by rw [e3]; exact ox.rl, a, b, c, d, fun v hv => ?_, by rw [e3]; exact ox.rv⟩
    rw [e2] at hv
    obtain ⟨u, hu, rfl⟩ := List.mem_map.1 hv
    exact tv u (ox.fv u hu)
  · rw [h.rs] at hv
    obtain ⟨u, hu, rfl⟩ := List.mem_map.1 hv
    exact tv u (oG.rv u hu)
theorem renE_zero {G : GraphD} {o : List Int} (h : renE G o = 0) : rightG G = true ∧ badO o G.ns.length = false := by
  unfold renE at h
  cases hr : rightG G <;> simp [hr] at h
  cases hb : badO o G.ns.length <;> simp [hb] at h
  exact ⟨rfl, rfl⟩
theorem turnedBy_of {G H : GraphD} {o : List Int} (h : renE G o = 0) (h1 : H.ns.map nodeV = renN G o) (h2 : H.rs = renR G o) : TurnedBy G H o := by
  rw [renN, if_pos h] at h1
  rw [renR, if_pos h] at h2
  exact ⟨h1, h2⟩
theorem back_bd {o : List Int} {n : Nat} (hl : o.length ≤ 1000) : ∀ x ∈ backO o n, -9223372036854775808 ≤ x ∧ x ≤ 9223372036854775807 := by
  intro x hx
  simp only [backO, List.mem_map] at hx
  obtain ⟨y, -, rfl⟩ := hx
  rcases place_cases o (y : Int) with ⟨e, _⟩ | ⟨k, hk, e, _⟩ <;> omega
/-- make([]int, n). -/
theorem wpList_makeI {ops : Array Oper} {rest : List Oper} {o : Oper} {a : Act} {w : World} {Q : Exit → Act → World → Prop} (hg : o.guard = none) (l : Operand) (hop : o.op = Op.makeSlice 26 l l) (n : Nat) (hl : a.eval l = .int .i64 (n : Int)) (hn : n ≤ 17592186044416)
    (hK : ∀ w', Own 3 1 intC w' w.heap.size (.slice (some ⟨w.heap.size, 0, none⟩) n n) (List.replicate n (0 : Int)) → Ext w w' → wpList Try.prog ops Q rest (a.put o.dst (.slice (some ⟨w.heap.size, 0, none⟩) n n)) w') : wpList Try.prog ops Q (o :: rest) a w := by
  obtain ⟨i, hi, hz0, hz1, hz2⟩ := info_parts intInfo0
  refine wpList_make_full w hg l l 26 hop w.heap.size 3 i (.int .i64 0) 1 Try.underlying26 hi hz0 hz1 .i64 .i64 n n n hl hl rfl rfl (by rw [hz2]; omega) (by unfold maxLen; omega) (Nat.le_refl _) ?_
  intro w' ho hgr
  refine hK w' ?_ ⟨hgr.os, hgr.tape, hgr.output, hgr.size, fun k hk => hgr.block k hk (by simp)⟩
  unfold Own
  have e : (List.replicate n (0 : Int)).flatMap intC = (madeCells (Value.int .i64 0).cells (n * 1)).toList := by
    rw [Nat.mul_one, show (Value.int .i64 0).cells = #[Value.int .i64 0] from rfl, toList_madeCells_one]
    clear ho hgr hl hn hK
    induction n with
    | zero => rfl
    | succ n ih => rw [List.replicate_succ, List.flatMap_cons, ih]; rfl
  rw [e, List.length_replicate]
  exact ho
/-- The order back, as it is written number by number. -/
def bkO (o : List Int) (n k : Nat) : List Int := (List.range n).map fun x => (pf o k (x : Nat)).getD 0
theorem bkO_zero {o : List Int} {n : Nat} : bkO o n 0 = List.replicate n 0 := by
  refine List.ext_getElem (by simp [bkO]) fun i h1 h2 => ?_
  simp [bkO, pf_zero]
theorem bkO_step {o : List Int} {n k : Nat} (hp : Perm o n) (hk : k < n) : (bkO o n k).set (o.getD k 0).toNat k = bkO o n (k + 1) := by
  have hs := pf_step (o := o) (k := k) (by rw [hp.len]; exact hk) (hp.pl k hk)
  have hb := hp.in_ k hk
  refine List.ext_getElem (by simp [bkO]) fun i h1 h2 => ?_
  have hi : i < n := by simpa [bkO] using h2
  rw [List.getElem_set]
  simp only [bkO, List.getElem_map, List.getElem_range]
  rw [← hs]
  by_cases he : (o.getD k 0).toNat = i
  · have : (i : Int) = o.getD k 0 := by omega
    rw [if_pos he]
    show (k : Int) = (if (i : Int) = o.getD k 0 then some (k : Int) else pf o k i).getD 0
    rw [if_pos this]
    rfl
  · have : ¬ (i : Int) = o.getD k 0 := by omega
    rw [if_neg he]
    show (pf o k i).getD 0 = (if (i : Int) = o.getD k 0 then some (k : Int) else pf o k i).getD 0
    rw [if_neg this]
theorem bkO_all {o : List Int} {n : Nat} (hp : Perm o n) : bkO o n n = backO o n := by
  refine List.ext_getElem (by simp [bkO, backO]) fun i h1 h2 => ?_
  have hi : i < n := by simpa [bkO] using h1
  obtain ⟨k, hk, e, _⟩ := hp.all hi
  simp only [bkO, backO, List.getElem_map, List.getElem_range]
  have := pf_all (o := o) (i : Int)
  rw [hp.len] at this
  rw [this, e, if_neg (by omega)]
  rfl
end Go.Proofs.Ytidfibheehcdgaa
