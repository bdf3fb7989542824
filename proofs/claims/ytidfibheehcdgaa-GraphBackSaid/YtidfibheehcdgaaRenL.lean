/- The lists of values of a graph, gone over one by one and turned in place: what the last loops of the program's Renumber keep. -/
import Derived.Test.YtidfibheehcdgaaRenC
set_option linter.unusedSimpArgs false
set_option linter.unusedVariables false
namespace Go.Proofs.Ytidfibheehcdgaa
open Go.RowKit Go.Shelf

structure VL where
  A : Option Addr
  cap : Nat
  xs : List (Int × Int)
instance : Inhabited VL := ⟨⟨none, 0, []⟩⟩
def vlC (l : VL) : List Value := [.slice l.A l.xs.length l.cap]
theorem vlCells : Cells 1 vlC := ⟨fun _ => rfl, fun x u h => by simp [vlC] at h; subst h; rfl⟩
theorem vlInfo0 : (Try.prog.info? 23).map (fun i => (i.zero, i.size, i.bytes)) = some (some (.slice none 0 0), 1, 24) := by kernel_rfl
theorem vlInfo : Info Try.prog 58 23 1 24 :=
  ⟨Try.underlying58, by obtain ⟨i0, hi, hz0, hz1, hz2⟩ := info_parts vlInfo0; exact ⟨i0, _, hi, hz0, hz1, hz2, rfl⟩, by decide⟩
def vlN (c : NodeD) : VL := ⟨c.fA, c.fcap, c.fields⟩
def vblk (l : VL) : Option Nat := (Value.slice l.A l.xs.length l.cap).ownBlock
/-- The first q values are turned. -/
def mix (o : List Int) (q : Nat) (xs : List (Int × Int)) : List (Int × Int) := (xs.take q).map (turned o) ++ xs.drop q
section
variable {o : List Int} {q : Nat} {xs : List (Int × Int)}
theorem mix_len : (mix o q xs).length = xs.length := by simp [mix]; omega
theorem mix_zero : mix o 0 xs = xs := by simp [mix]
theorem mix_all (h : xs.length ≤ q) : mix o q xs = xs.map (turned o) := by simp [mix, List.take_of_length_le h, List.drop_eq_nil_of_le h]
theorem mix_at (h : q < xs.length) : mix o q xs = (xs.take q).map (turned o) ++ xs.getD q (0, 0) :: xs.drop (q + 1) := by
  unfold mix
  rw [List.drop_eq_getElem_cons h]
  simp [h]
theorem mix_step (h : q < xs.length) : mix o (q + 1) xs = (xs.take q).map (turned o) ++ turned o (xs.getD q (0, 0)) :: xs.drop (q + 1) := by
  unfold mix
  rw [List.take_succ_eq_append_getElem h, List.map_append, List.append_assoc]
  simp [h]
end
section
variable {α : Type} {e : TypeId} {n : Nat} {f : α → List Value} {w : World} {B : Nat} {v : Value} {xs : List α}
theorem Own.setNe (h : Own e n f w B v xs) {g i : Nat} {u : Value} (hne : v.ownBlock ≠ some g) : Own e n f (w.setCell ⟨g, i, none⟩ u) B v xs :=
  h.same fun b cs ty rr hb hc => (Below.heap_setCell w ⟨g, i, none⟩ u b (fun heq => by simp only at heq; subst heq; exact hne hb)).trans hc
end
/-- A value's X is exchanged. -/
theorem own_setX {w : World} {B g cap n : Nat} {cs rest : List (Int × Int)} {x : Int × Int} (h : Own 46 2 spanC w B (.slice (some ⟨g, 0, none⟩) n cap) (cs ++ x :: rest)) (hn : (cs ++ x :: rest).length = n) (z : Int) :
    Own 46 2 spanC (w.setCell ⟨g, cs.length * 2 + 1, none⟩ (.int .i64 z)) B (.slice (some ⟨g, 0, none⟩) n cap) (cs ++ (x.1, z) :: rest) := by
  unfold Own at h ⊢
  have hl : (cs ++ (x.1, z) :: rest).length = n := by rw [← hn]; simp
  rw [hn] at h
  rw [hl]
  have h1 := (World.ownsRow.stored h (cs.length * 2 + 1) (.int .i64 z)).1
  have h2 : (cs ++ (x.1, z) :: rest).flatMap spanC = ((cs ++ x :: rest).flatMap spanC).set (cs.length * 2 + 1) (.int .i64 z) := by
    have hf := flat_len spanCells cs
    simp only [List.flatMap_append, List.flatMap_cons, spanC]
    rw [List.set_append_right _ _ (by omega), hf]
    simp
  rw [h2]
  exact h1
def vls (A1 : Option Addr) (cap1 : Nat) (rs : List (Int × Int)) (cs : List NodeD) : List VL := ⟨A1, cap1, rs⟩ :: cs.map vlN
structure RenL (V : World) (Bo : Nat) (o : List Int) (rs : List (Int × Int)) (cs : List NodeD) (A : Option Addr) (cap : Nat) (A1 : Option Addr) (cap1 : Nat) (bm : Nat) (q : Nat → Nat) (L : List VL) (hv : Value) (wr : World) : Prop where
  r : wr.heap[V.heap.size + 1]? = some (.cells #[.slice none 0 0, .slice none 0 0] 25 (0, 0))
  out : wr.heap[Bo]? = some (.cells #[.slice A cs.length cap, .slice A1 rs.length cap1] 25 (0, 0))
  own : Own 34 3 nodeC wr V.heap.size (.slice A cs.length cap) cs
  raws : ∀ c ∈ cs, Own 47 1 u64C wr V.heap.size (.slice c.rA c.raws.length c.rcap) c.raws
  lists : ∀ i l, (vls A1 cap1 rs cs)[i]? = some l → Own 46 2 spanC wr V.heap.size (.slice l.A l.xs.length l.cap) (mix o (q i) l.xs)
  sep : Apart ((vls A1 cap1 rs cs).map vblk)
  map : MapOf wr bm o.length (pf o o.length)
  heads : Own 23 1 vlC wr V.heap.size hv L
  ext : Ext V wr
  bo : V.heap.size + 1 < Bo
section
variable {V : World} {Bo bm : Nat} {o : List Int} {rs : List (Int × Int)} {cs : List NodeD} {A A1 : Option Addr} {cap cap1 : Nat} {q : Nat → Nat} {L : List VL} {hv : Value} {wr w' : World}
theorem RenL.start {g0 g1 : Value} (h : RenC V Bo g0 g1 #[.slice none 0 0, .slice none 0 0] rs cs (.slice A cs.length cap) (.slice A1 rs.length cap1) bm o.length (pf o o.length) wr) :
    RenL V Bo o rs cs A cap A1 cap1 bm (fun _ => 0) [⟨A1, cap1, rs⟩] (.slice (some ⟨wr.heap.size, 0, none⟩) 1 1) (wr.alloc (.cells #[.slice A1 rs.length cap1] 23)) := by
  have hx := (Ext.refl wr).alloc (.cells #[.slice A1 rs.length cap1] 23)
  have b := h.base.grow hx
  refine ⟨b.r, b.out, b.own, fun c hc => (b.each c hc).r, fun i l hl => ?_, ?_, h.map.ext hx, ?_, b.ext, b.bo⟩
  · rw [mix_zero]
    cases i with
    | zero => simp only [vls, List.getElem?_cons_zero, Option.some.injEq] at hl; subst hl; exact b.root
    | succ i =>
      simp only [vls, List.getElem?_cons_succ, List.getElem?_map, Option.map_eq_some_iff] at hl
      obtain ⟨c, hc, rfl⟩ := hl
      exact (b.each c (List.mem_of_getElem? hc)).f
  · have := h.sep
    rw [vls, List.map_cons, List.map_map]
    exact this
  · refine ⟨by simp [vlC], .inr ⟨wr.heap.size, 1, _, rfl, h.base.ext.size, World.alloc_heap_new _ _, Nat.le_refl _, by simp [maxLen], by simp, by simp [vlC]⟩⟩
theorem RenL.grow (h : RenL V Bo o rs cs A cap A1 cap1 bm q L hv wr) (hx : Ext wr w') : RenL V Bo o rs cs A cap A1 cap1 bm q L hv w' :=
  ⟨(hx.block (lt_of_heap h.r)).trans h.r, (hx.block (lt_of_heap h.out)).trans h.out, h.own.ext hx, fun c hc => (h.raws c hc).ext hx, fun i l hl => (h.lists i l hl).ext hx, h.sep, h.map.ext hx, h.heads.ext hx, h.ext.trans hx, h.bo⟩
/-- A header more. -/
theorem RenL.app (h : RenL V Bo o rs cs A cap A1 cap1 bm q L hv wr) {hv' : Value} {L' : List VL} (hown : Own 23 1 vlC w' V.heap.size hv' L') (hg : wr.grownBy w' hv.ownBlock) : RenL V Bo o rs cs A cap A1 cap1 bm q L' hv' w' := by
  have hty : ∀ (b : Nat) (ws : Array Value), wr.heap[b]? = some (.cells ws 25 (0, 0)) → w'.heap[b]? = some (.cells ws 25 (0, 0)) := fun b ws hb =>
    (hg.block b (lt_of_heap hb) (h.heads.ne_block hb (by decide))).trans hb
  exact ⟨hty _ _ h.r, hty _ _ h.out, h.own.keep2 h.heads (by decide) hg, fun c hc => (h.raws c hc).keep2 h.heads (by decide) hg, fun i l hl => (h.lists i l hl).keep2 h.heads (by decide) hg, h.sep, h.map.kept hg (h.map.ne_own h.heads), hown, Own.grown h.heads hg (Nat.le_refl _) h.ext, h.bo⟩
theorem Apart.ne {l : List (Option Nat)} (h : Apart l) {i j g : Nat} {x : Option Nat} (hi : l[i]? = some (some g)) (hj : l[j]? = some x) (hne : j ≠ i) : x ≠ some g := by
  intro e
  subst e
  obtain ⟨hi1, hi2⟩ := List.getElem?_eq_some_iff.1 hi
  obtain ⟨hj1, hj2⟩ := List.getElem?_eq_some_iff.1 hj
  unfold Apart at h
  rw [List.pairwise_iff_getElem] at h
  rcases Nat.lt_or_ge i j with hlt | hge
  · rcases h i j hi1 hj1 hlt with h | h
    · rw [hi2] at h; cases h
    · rw [hi2, hj2] at h; exact h rfl
  · rcases h j i hj1 hi1 (by omega) with h | h
    · rw [hj2] at h; cases h
    · rw [hi2, hj2] at h; exact h rfl
/-- A list's state is another, where its content is. -/
theorem RenL.re (h : RenL V Bo o rs cs A cap A1 cap1 bm q L hv wr) {q' : Nat → Nat} (hq : ∀ i l, (vls A1 cap1 rs cs)[i]? = some l → mix o (q' i) l.xs = mix o (q i) l.xs) : RenL V Bo o rs cs A cap A1 cap1 bm q' L hv wr :=
  ⟨h.r, h.out, h.own, h.raws, fun i l hl => by rw [hq i l hl]; exact h.lists i l hl, h.sep, h.map, h.heads, h.ext, h.bo⟩
/-- A value of a list is turned in place. -/
theorem RenL.store (h : RenL V Bo o rs cs A cap A1 cap1 bm q L hv wr) {p k g : Nat} {l : VL} (hp : (vls A1 cap1 rs cs)[p]? = some l) (hA : l.A = some ⟨g, 0, none⟩) (hk : k < l.xs.length) (hqp : q p = k) {z : Int} (hz : ((l.xs.getD k (0, 0)).1, z) = turned o (l.xs.getD k (0, 0)))
    {q' : Nat → Nat} (hq' : q' p = k + 1) (hqo : ∀ i, i ≠ p → q' i = q i) : RenL V Bo o rs cs A cap A1 cap1 bm q' L hv (wr.setCell ⟨g, k * 2 + 1, none⟩ (.int .i64 z)) := by
  obtain ⟨lA, lcap, xs⟩ := l
  simp only at hA hk hz
  subst hA
  have h0 := h.lists p _ hp
  simp only [hqp] at h0
  obtain ⟨cur, hg⟩ := own_heap h0
  have hB : V.heap.size ≤ g := (World.ownsRow.lt h0 g rfl).1
  have hty : ∀ (b : Nat) (ws : Array Value), wr.heap[b]? = some (.cells ws 25 (0, 0)) → (wr.setCell ⟨g, k * 2 + 1, none⟩ (.int .i64 z)).heap[b]? = some (.cells ws 25 (0, 0)) := fun b ws hb =>
    (Below.heap_setCell wr ⟨g, k * 2 + 1, none⟩ _ b (fun e => by simp only at e; subst e; rw [hg] at hb; cases hb)).trans hb
  refine ⟨hty _ _ h.r, hty _ _ h.out, h.own.setOther hg (by decide), fun c hc => (h.raws c hc).setOther hg (by decide), fun i l hl => ?_, h.sep, h.map.setCell (h.map.ne_cells hg) _, h.heads.setOther hg (by decide), h.ext.setCell hB _, h.bo⟩
  by_cases hi : i = p
  · subst hi
    rw [hp] at hl
    injection hl with hl
    subst hl
    rw [mix_at hk] at h0
    have := own_setX h0 (by simp; omega) z
    rw [hz, List.length_map, List.length_take, Nat.min_eq_left (by omega), ← mix_step hk] at this
    rw [hq']
    exact this
  · rw [hqo i hi]
    refine (h.lists i l hl).setNe ?_
    have e1 : ((vls A1 cap1 rs cs).map vblk)[p]? = some (some g) := by rw [List.getElem?_map, hp]; rfl
    have e2 : ((vls A1 cap1 rs cs).map vblk)[i]? = some (vblk l) := by rw [List.getElem?_map, hl]; rfl
    exact h.sep.ne e1 e2 hi
/-- All is turned: the result is laid. -/
theorem RenL.fin {ns : List NodeD} (h : RenL V Bo o rs cs A cap A1 cap1 bm q L hv wr) (hq : ∀ i l, (vls A1 cap1 rs cs)[i]? = some l → l.xs.length ≤ q i) (hcs : cs.map nodeV = o.map (fun j => nodeV (ns.getD j.toNat default))) (u0 u1 : Value) :
    RetN V 0 (o.map (turnN o ns)) (rs.map (turned o)) (.returned (.tuple #[.agg #[.slice A cs.length cap, .slice A1 rs.length cap1], .int .i64 0])) ((wr.setCell ⟨V.heap.size + 1, 0, none⟩ u0).setCell ⟨V.heap.size + 1, 1, none⟩ u1) := by
  have h2 := heap_setCell_same wr (V.heap.size + 1) 0 _ _ u0 h.r
  have st : ∀ {α : Type} {e : TypeId} {n : Nat} {f : α → List Value} {v : Value} {xs : List α}, Own e n f wr V.heap.size v xs → 25 ≠ e → Own e n f ((wr.setCell ⟨V.heap.size + 1, 0, none⟩ u0).setCell ⟨V.heap.size + 1, 1, none⟩ u1) V.heap.size v xs :=
    fun ho hne => (ho.setOther h.r hne).setOther h2 hne
  have hx : Ext V ((wr.setCell ⟨V.heap.size + 1, 0, none⟩ u0).setCell ⟨V.heap.size + 1, 1, none⟩ u1) := (h.ext.setCell (by simp) _).setCell (by simp) _
  have hf : ∀ c ∈ cs, Own 46 2 spanC wr V.heap.size (.slice c.fA (c.fields.map (turned o)).length c.fcap) (c.fields.map (turned o)) := fun c hc => by
    obtain ⟨i, hi⟩ := List.mem_iff_getElem?.1 hc
    have e : (vls A1 cap1 rs cs)[i + 1]? = some (vlN c) := by simp [vls, hi]
    have := h.lists (i + 1) _ e
    rw [mix_all (hq _ _ e)] at this
    simpa [vlN] using this
  have hr : Own 46 2 spanC wr V.heap.size (.slice A1 (rs.map (turned o)).length cap1) (rs.map (turned o)) := by
    have e : (vls A1 cap1 rs cs)[0]? = some ⟨A1, cap1, rs⟩ := by simp [vls]
    have := h.lists 0 _ e
    rw [mix_all (hq _ _ e)] at this
    simpa using this
  have hn : Own 34 3 nodeC wr V.heap.size (.slice A (cs.map (fun c => { c with fields := c.fields.map (turned o) })).length cap) (cs.map (fun c => { c with fields := c.fields.map (turned o) })) := by
    have := h.own
    unfold Own at this ⊢
    rw [List.length_map, List.flatMap_map]
    have e : (fun c : NodeD => nodeC { c with fields := c.fields.map (turned o) }) = nodeC := by funext c; simp [nodeC]
    rw [e]
    exact this
  have on := own_row (st hn (by decide)) nodeCells (by decide)
  have orr := own_row (st hr (by decide)) spanCells (by decide)
  refine ⟨⟨A, cap, cs.map (fun c => { c with fields := c.fields.map (turned o) }), A1, cap1, rs.map (turned o)⟩, by simp, ⟨⟨on.1, fun c hc => ?_⟩, orr.1⟩, ?_, rfl, fun c hc => ?_, on.2.1, orr.2.1, on.2.2, orr.2.2, hx⟩
  · obtain ⟨d, hd, rfl⟩ := List.mem_map.1 hc
    exact ⟨(own_row (st (hf d hd) (by decide)) spanCells (by decide)).1, (own_row (st (h.raws d hd) (by decide)) u64Cells (by decide)).1⟩
  · have := congrArg (List.map (fun y : Int × List (Int × Int) × List Int => (y.1, y.2.1.map (turned o), y.2.2))) hcs
    rw [List.map_map, List.map_map] at this
    rw [List.map_map]
    exact this
  · obtain ⟨d, hd, rfl⟩ := List.mem_map.1 hc
    have of := own_row (st (hf d hd) (by decide)) spanCells (by decide)
    have ow := own_row (st (h.raws d hd) (by decide)) u64Cells (by decide)
    exact ⟨of.2.1, ow.2.1, of.2.2, ow.2.2⟩
end
/-- A list holds a value that leads nowhere just if the graph does. -/
theorem lost_lists {o : List Int} {ns cs : List NodeD} {rs : List (Int × Int)} {A1 : Option Addr} {cap1 : Nat} (hcs : cs.map nodeV = o.map (fun j => nodeV (ns.getD j.toNat default))) : lostO o ns rs = (vls A1 cap1 rs cs).any (fun l => l.xs.any (lostV o)) := by
  have h1 : (o.any fun j => (ns.getD j.toNat default).fields.any (lostV o)) = cs.any (fun c => c.fields.any (lostV o)) := by
    have e1 : (o.any fun j => (ns.getD j.toNat default).fields.any (lostV o)) = (o.map (fun j => nodeV (ns.getD j.toNat default))).any (fun y => y.2.1.any (lostV o)) := by rw [List.any_map]; rfl
    rw [e1, ← hcs, List.any_map]
    rfl
  unfold lostO
  rw [h1, vls, List.any_cons, List.any_map, Bool.or_comm]
  rfl
/-- How many values of each list are turned: those of the first p lists all, of the next one k. -/
def qq (p k i : Nat) : Nat := if i < p then 8796093022208 else if i = p then k else 0
theorem vl_cell {w : World} {b off : Nat} {zs : List VL} (hc : ∀ i x, zs[i]? = some x → ∀ j v, (vlC x)[j]? = some v → w.cell? ⟨b, off + i * 1 + j, none⟩ = some v) {k : Nat} (hk : k < zs.length) :
    w.cell? ⟨b, off + k, none⟩ = some (.slice (zs.getD k default).A (zs.getD k default).xs.length (zs.getD k default).cap) := by
  have h := hc k zs[k] (by simp [hk]) 0 _ rfl
  simpa [hk] using h
section
variable {V : World} {Bo bm : Nat} {o : List Int} {rs : List (Int × Int)} {cs : List NodeD} {A A1 : Option Addr} {cap cap1 : Nat} {q : Nat → Nat} {L : List VL} {hv : Value} {wr w' : World}
/-- A value that was not turned yet. -/
theorem RenL.at (h : RenL V Bo o rs cs A cap A1 cap1 bm q L hv wr) {p k : Nat} {l : VL} (hp : (vls A1 cap1 rs cs)[p]? = some l) (hk : k < l.xs.length) (hqp : q p = k) :
    ∃ g, l.A = some ⟨g, 0, none⟩ ∧ wr.cell? ⟨g, k * 2, none⟩ = some (.int .i64 (l.xs.getD k (0, 0)).1) ∧ wr.cell? ⟨g, k * 2 + 1, none⟩ = some (.int .i64 (l.xs.getD k (0, 0)).2) ∧ wr.frozen? ⟨g, k * 2 + 1, none⟩ = false ∧ g < wr.heap.size := by
  obtain ⟨lA, lcap, xs⟩ := l
  simp only at hk
  have h0 := h.lists p _ hp
  simp only [hqp] at h0
  have h1 : Own 46 2 spanC wr V.heap.size (.slice lA (mix o k xs).length lcap) (mix o k xs) := by rw [mix_len]; exact h0
  obtain ⟨A', cap', hv, hrow, hnn, had, -⟩ := h1.form spanCells (by decide)
  injection hv with e1 e2 e3
  subst e1 e3
  obtain ⟨b, off, rfl, hc⟩ := hrow.get (by rw [mix_len]; omega)
  obtain ⟨-, hlt, -, hoff⟩ := had _ rfl
  simp only at hoff hlt
  subst hoff
  obtain ⟨c0, c1⟩ := spans_cell hc (k := k) (by rw [mix_len]; exact hk)
  have hg : (mix o k xs).getD k (0, 0) = xs.getD k (0, 0) := by
    rw [mix_at hk, List.getD_eq_getElem?_getD, List.getElem?_append_right (by simp; omega)]
    simp [Nat.min_eq_left (Nat.le_of_lt hk)]
  rw [hg] at c0 c1
  obtain ⟨cur, hh⟩ := own_heap h0
  exact ⟨b, rfl, by simpa using c0, by simpa using c1, frozen_of_row _ _ _ _ _ hh, hlt⟩
theorem RenL.step {p k : Nat} (h : RenL V Bo o rs cs A cap A1 cap1 bm (qq p k) L hv wr) {l : VL} (hp : (vls A1 cap1 rs cs)[p]? = some l) {g : Nat} (hA : l.A = some ⟨g, 0, none⟩) (hk : k < l.xs.length) {z : Int} (hz : ((l.xs.getD k (0, 0)).1, z) = turned o (l.xs.getD k (0, 0))) :
    RenL V Bo o rs cs A cap A1 cap1 bm (qq p (k + 1)) L hv (wr.setCell ⟨g, k * 2 + 1, none⟩ (.int .i64 z)) :=
  h.store hp hA hk (by simp [qq]) hz (by simp [qq]) (fun i hi => by simp [qq, hi])
theorem RenL.same {p k : Nat} (h : RenL V Bo o rs cs A cap A1 cap1 bm (qq p k) L hv wr) {l : VL} (hp : (vls A1 cap1 rs cs)[p]? = some l) (hk : k < l.xs.length) (hz : turned o (l.xs.getD k (0, 0)) = l.xs.getD k (0, 0)) :
    RenL V Bo o rs cs A cap A1 cap1 bm (qq p (k + 1)) L hv wr :=
  h.re fun i l' hl => by
    by_cases hi : i = p
    · subst hi
      rw [hp] at hl
      injection hl with hl
      subst hl
      simp only [qq, Nat.lt_irrefl, if_false, if_true]
      rw [mix_step hk, mix_at hk, hz]
    · simp [qq, hi]
theorem RenL.next {p k : Nat} (h : RenL V Bo o rs cs A cap A1 cap1 bm (qq p k) L hv wr) {l : VL} (hp : (vls A1 cap1 rs cs)[p]? = some l) (hk : k = l.xs.length) (hl : l.xs.length ≤ 8796093022208) :
    RenL V Bo o rs cs A cap A1 cap1 bm (qq (p + 1) 0) L hv wr :=
  h.re fun i l' hl' => by
    by_cases hi : i = p
    · subst hi
      rw [hp] at hl'
      injection hl' with hl'
      subst hl'
      simp only [qq, Nat.lt_irrefl, if_false, if_true, if_pos (Nat.lt_succ_self i)]
      rw [mix_all hl, mix_all (by omega)]
    · by_cases h2 : i < p
      · simp [qq, h2, Nat.lt_succ_of_lt h2]
      · by_cases h3 : i = p + 1
        · subst h3; simp [qq]; rw [if_neg (by omega)]
        · simp [qq, hi, h2, h3]; rw [if_neg (by omega)]
end
theorem vls_len {A1 : Option Addr} {cap1 : Nat} {rs : List (Int × Int)} {cs : List NodeD} : (vls A1 cap1 rs cs).length = cs.length + 1 := by simp [vls]
theorem vls_bd {A1 : Option Addr} {cap1 : Nat} {rs : List (Int × Int)} {cs : List NodeD} (h0 : rs.length ≤ 8796093022208) (h : ∀ c ∈ cs, c.fields.length ≤ 8796093022208) : ∀ (i : Nat) (l : VL), (vls A1 cap1 rs cs)[i]? = some l → l.xs.length ≤ 8796093022208 := by
  intro i l hl
  rcases List.mem_cons.1 (List.mem_of_getElem? hl) with rfl | hm
  · exact h0
  · obtain ⟨c, hc, rfl⟩ := List.mem_map.1 hm
    exact h c hc
theorem vls_val {A1 : Option Addr} {cap1 : Nat} {rs : List (Int × Int)} {cs : List NodeD} {p : Int × Int → Prop} (h0 : ∀ v ∈ rs, p v) (h : ∀ c ∈ cs, ∀ v ∈ c.fields, p v) : ∀ (i : Nat) (l : VL), (vls A1 cap1 rs cs)[i]? = some l → ∀ v ∈ l.xs, p v := by
  intro i l hl
  rcases List.mem_cons.1 (List.mem_of_getElem? hl) with rfl | hm
  · exact h0
  · obtain ⟨c, hc, rfl⟩ := List.mem_map.1 hm
    exact h c hc
theorem vls_snoc {A1 : Option Addr} {cap1 : Nat} {rs : List (Int × Int)} {cs : List NodeD} {k : Nat} (h : k < cs.length) : (vls A1 cap1 rs cs).take (k + 1) ++ [vlN (cs.getD k default)] = (vls A1 cap1 rs cs).take (k + 1 + 1) := by
  rw [List.take_succ_eq_append_getElem (i := k + 1) (by rw [vls_len]; omega)]
  simp [vls, h]
theorem lost_none {o : List Int} {ls : List VL} (h : ∀ (i : Nat) (l : VL), ls[i]? = some l → l.xs.any (lostV o) = false) : ls.any (fun l => l.xs.any (lostV o)) = false := by
  rw [List.any_eq_false]
  intro l hl
  obtain ⟨i, hi⟩ := List.mem_iff_getElem?.1 hl
  simp only [h i l hi, Bool.false_eq_true, not_false_eq_true]
theorem lost_some {o : List Int} {ls : List VL} {p k : Nat} {l : VL} (hp : ls[p]? = some l) (hk : k < l.xs.length) (h : lostV o (l.xs.getD k (0, 0)) = true) : ls.any (fun l => l.xs.any (lostV o)) = true := by
  rw [List.any_eq_true]
  refine ⟨l, List.mem_of_getElem? hp, ?_⟩
  rw [List.any_eq_true]
  exact ⟨_, getD_mem hk, h⟩
theorem lost_list {o : List Int} {xs : List (Int × Int)} (h : ∀ j, j < xs.length → lostV o (xs.getD j (0, 0)) = false) : xs.any (lostV o) = false := by
  rw [List.any_eq_false]
  intro x hx
  obtain ⟨i, hi, rfl⟩ := List.mem_iff_getElem.1 hx
  have := h i hi
  simpa [hi] using this
end Go.Proofs.Ytidfibheehcdgaa
