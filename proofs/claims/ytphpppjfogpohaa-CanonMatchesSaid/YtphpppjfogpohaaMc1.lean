/- Merged by program (merge.py) out of: Base. -/
import Derived.Test.YtphpppjfogpohaaRows
import Derived.WalkKit
import Derived.BigQuiet
import Derived.Lib.Hide
import Derived.Deep.RegionHeld3
import Derived.ProofKit
import Derived.OpenShut
import Derived.Lib.SmallJoins
import Derived.ChangeSame
import Derived.Carry
/- Plain lemmas on worlds that only grow, shared by all walks of this seat. -/
set_option linter.unusedSimpArgs false
set_option linter.unusedVariables false
namespace Go.Proofs.Ytphpppjfogpohaa
open Go.RowKit

/-- w' is w with new blocks; nothing that w held has turned. -/
def Ext (w w' : World) : Prop := Below w.heap.size w w'

theorem Ext.refl (w : World) : Ext w w := Below.refl _ _
theorem Ext.trans {a b c : World} (h : Ext a b) (k : Ext b c) : Ext a c :=
  Below.trans h (Below.mono k (Below.size h))
theorem Ext.drew {a w : World} (h : Ext a w) : Ext a w.drew := Below.drew h
theorem Ext.alloc {a w : World} (h : Ext a w) (o : Obj) : Ext a (w.alloc o) := Below.alloc h (Below.size h) o
theorem Ext.cell {w w' : World} (h : Ext w w') {p : Addr} {v : Value} (hc : w.cell? p = some v) : w'.cell? p = some v := by
  have hb : p.block < w.heap.size := by
    unfold World.cell? at hc
    rcases Nat.lt_or_ge p.block w.heap.size with h | h
    · exact h
    · rw [Array.getElem?_eq_none h] at hc; cases hc
  rw [Below.cell h hb]; exact hc
theorem Ext.size {w w' : World} (h : Ext w w') : w.heap.size ≤ w'.heap.size := Below.size h
theorem Ext.setCell {a w : World} (h : Ext a w) {p : Addr} (hp : a.heap.size ≤ p.block) (u : Value) : Ext a (w.setCell p u) := Below.setCell h hp u
theorem Ext.below {w w' : World} (h : Ext w w') : Below w.heap.size w w' := h
/-- The cells of a block that was just laid. -/
theorem boxed (w : World) (cs : Array Value) (t : TypeId) (i : Nat) (v : Value) (h : cs[i]? = some v) (w' : World) (hw : Ext (w.alloc (.cells cs t)) w') :
    w'.cell? ⟨w.heap.size, i, none⟩ = some v := by
  refine Ext.cell hw ?_
  simpa using h
theorem ecell {w w1 : World} (h : Ext w w1) : (∀ b o, b < w.heap.size → w1.cell? ⟨b, o, none⟩ = w.cell? ⟨b, o, none⟩) ∧ (∀ b o, b < w.heap.size → w1.frozen? ⟨b, o, none⟩ = w.frozen? ⟨b, o, none⟩) ∧ w.heap.size ≤ w1.heap.size :=
  ⟨fun b o hb => Below.cell (p := ⟨b, o, none⟩) h hb, fun b o hb => Below.frozen (p := ⟨b, o, none⟩) h hb, Below.size h⟩
theorem ret_bool {a b : Bool} (h : a = b) : Ending.returned (.bool a) = .returned (.bool b) := by rw [h]
theorem ret_int {k : IntKind} {a b : Int} (h : a = b) : Ending.returned (.int k a) = .returned (.int k b) := by rw [h]
theorem i64_bd {a : Int} (h : (Lit.int .i64 a).wf = true) : -9223372036854775808 ≤ a ∧ a ≤ 9223372036854775807 := by
  simpa [Lit.wf, IntKind.min, IntKind.max, IntKind.signed, IntKind.bits] using h

/-- w' is w with new blocks; of the old ones block b alone may have turned. -/
def Only (b : Nat) (w w' : World) : Prop := w.grownBy w' (some b)
theorem Only.refl (b : Nat) (w : World) : Only b w w := World.grownBy.refl _ _
theorem Only.trans {b : Nat} {u v w : World} (h : Only b u v) (k : Only b v w) : Only b u w :=
  ⟨k.os.trans h.os, k.tape.trans h.tape, k.output.trans h.output, Nat.le_trans h.size k.size,
    fun i hi hne => (k.block i (Nat.lt_of_lt_of_le hi h.size) hne).trans (h.block i hi hne)⟩
theorem Only.of_ext {b : Nat} {w w' : World} (h : Ext w w') : Only b w w' := ⟨h.os, h.tape, h.output, Below.size h, fun k hk _ => Below.block h k hk⟩
theorem Only.drewN {b : Nat} {u w : World} (h : Only b u w) (n : Nat) : Only b u (w.drewN n) := ⟨h.os, h.tape, h.output, h.size, h.block⟩
theorem Only.drew {b : Nat} {u w : World} (h : Only b u w) : Only b u w.drew := ⟨h.os, h.tape, h.output, h.size, h.block⟩
theorem Only.setCell {b : Nat} {u w : World} (h : Only b u w) (i : Nat) (v : Value) : Only b u (w.setCell ⟨b, i, none⟩ v) :=
  ⟨h.os, h.tape, h.output, by simpa using h.size, fun k hk hne => (heap_setCell_other w ⟨b, i, none⟩ k v (fun e => hne (by rw [e]))).trans (h.block k hk hne)⟩
theorem Only.cell {b : Nat} {w w' : World} (h : Only b w w') {p : Addr} {v : Value} (hc : w.cell? p = some v) (hne : p.block ≠ b) : w'.cell? p = some v :=
  World.grownBy.cell h hc (fun e => hne (by injection e))
theorem Only.ext {b : Nat} {u w w' : World} (h : Only b w w') (hu : Ext u w) (hb : u.heap.size ≤ b) : Ext u w' :=
  Below.grown hu h (Below.size hu) (fun k hk => by injection hk with hk; omega)
theorem Ext.drewN {u w : World} (h : Ext u w) (n : Nat) : Ext u (w.drewN n) := ⟨h.os, h.tape, h.output, h.size, h.block⟩
theorem Ext.block {w w' : World} (h : Ext w w') {k : Nat} (hk : k < w.heap.size) : w'.heap[k]? = w.heap[k]? := Below.block h k hk

/-- The worlds that W has grown into: as a type, so that what is read there is an equation without a premise. -/
def ExtOf (W : World) : Type := { w : World // Ext W w }
instance ExtOf.inhabited (W : World) : Nonempty (ExtOf W) := ⟨⟨W, Ext.refl W⟩⟩
theorem Calls.ext_of {P : Program} {f : FuncId} {args : Array Value} {W : World} {u : ExtOf W} {v : Value} (h : Calls P f args u.1 fun e w' => e = .returned v ∧ Ext u.1 w') :
    Calls P f args u.1 fun e w'' => e = .returned v ∧ ∃ u' : ExtOf W, w'' = u'.1 :=
  h.mono fun _ w' ⟨he, hx⟩ => ⟨he, ⟨w', u.2.trans hx⟩, rfl⟩
/-- A region that draws its order, whose operations read and call what only makes memory: one walk of the text's order. -/
theorem wp_region_ext {P : Program} {W : World} {id : Nat} {Q : Exit → Act → World → Prop} {a : Act} {w : World} {l : List Oper} (hm : P.follows .mixedOrders = true) (hB : Region.lexB .any l.toArray = true) (hx : Ext W w)
    (h : wpQuiet P l.toArray (fun w' => ∃ u : ExtOf W, w' = u.1) (fun a' => ∀ w', Ext W w' → Q .normal a' w') l a) : (Code.region id l.toArray true).wp P Q a w :=
  wp_region_quiet (C := fun w' => ∃ u : ExtOf W, w' = u.1) hm hB ⟨⟨_, Ext.drew hx⟩, rfl⟩ (by
    have : (fun a' => ∀ w', (∃ u : ExtOf W, w' = u.1) → Q .normal a' w') = (fun a' => ∀ w', Ext W w' → Q .normal a' w') := by
      funext a'
      exact propext ⟨fun h w' hw => h w' ⟨⟨w', hw⟩, rfl⟩, fun h w' ⟨u, hu⟩ => hu ▸ h _ u.2⟩
    rw [this]
    simpa using h)

/-- A slice's elements, n cells each: A is its address; an empty slice's is not looked at. -/
def RowAt {α : Type} (n : Nat) (f : α → List Value) (w : World) (A : Option Addr) (xs : List α) : Prop :=
  ∃ b off, (xs ≠ [] → A = some ⟨b, off, none⟩) ∧ ∀ i x, xs[i]? = some x → ∀ j v, (f x)[j]? = some v → w.cell? ⟨b, off + i * n + j, none⟩ = some v
theorem RowAt.ext {α : Type} {n : Nat} {f : α → List Value} {w w' : World} {A : Option Addr} {xs : List α} (h : RowAt n f w A xs) (he : Ext w w') : RowAt n f w' A xs := by
  obtain ⟨b, off, hA, hc⟩ := h
  exact ⟨b, off, hA, fun i x hx j v hv => he.cell (hc i x hx j v hv)⟩
theorem RowAt.get {α : Type} {n : Nat} {f : α → List Value} {w : World} {A : Option Addr} {xs : List α} (h : RowAt n f w A xs) (hne : 0 < xs.length) :
    ∃ b off, A = some ⟨b, off, none⟩ ∧ ∀ i x, xs[i]? = some x → ∀ j v, (f x)[j]? = some v → w.cell? ⟨b, off + i * n + j, none⟩ = some v := by
  obtain ⟨b, off, hA, hc⟩ := h
  exact ⟨b, off, hA (by intro e; subst e; simp at hne), hc⟩
def intC (z : Int) : List Value := [.int .i64 z]
def spanC (x : Int × Int) : List Value := [.int .i64 x.1, .int .i64 x.2]
abbrev IntsAt (w : World) (A : Option Addr) (zs : List Int) : Prop := RowAt 1 intC w A zs
abbrev SpansAt (w : World) (A : Option Addr) (xs : List (Int × Int)) : Prop := RowAt 2 spanC w A xs
/-- An element of a slice of ints, in whatever world still has it. -/
theorem ints_cell {w : World} {b off : Nat} {zs : List Int} (hc : ∀ i x, zs[i]? = some x → ∀ j v, (intC x)[j]? = some v → w.cell? ⟨b, off + i * 1 + j, none⟩ = some v) {k : Nat} (hk : k < zs.length) :
    w.cell? ⟨b, off + k, none⟩ = some (.int .i64 (zs.getD k 0)) := by
  have h := hc k zs[k] (by simp [hk]) 0 _ rfl
  simpa [hk] using h
theorem spans_cell {w : World} {b off : Nat} {xs : List (Int × Int)} (hc : ∀ i x, xs[i]? = some x → ∀ j v, (spanC x)[j]? = some v → w.cell? ⟨b, off + i * 2 + j, none⟩ = some v) {k : Nat} (hk : k < xs.length) :
    w.cell? ⟨b, off + k * 2, none⟩ = some (.int .i64 (xs.getD k (0, 0)).1) ∧ w.cell? ⟨b, off + k * 2 + 1, none⟩ = some (.int .i64 (xs.getD k (0, 0)).2) := by
  have h0 := hc k xs[k] (by simp [hk]) 0 _ rfl
  have h1 := hc k xs[k] (by simp [hk]) 1 _ rfl
  exact ⟨by simpa [hk] using h0, by simpa [hk] using h1⟩

section
open Go.WideShapes Go.ChangeShapes Go.ChangeAt Go.Joins Go.Deep
variable {H : Type} {enc : TypeId × Value → H} {w : World} {base b0 : Nat} {spare : Nat → Bool} {held : Bool} {v : Value} {d : DataW H} {p : List MemPlace} {r : Reach} {P : Program}
theorem open_two {t : TypeId} {f0 f1 : Field} (hs : P.underlying t = some (.struct #[f0, f1])) (hone : oneCellFields P #[f0, f1] = true) (hC : P.cellsOf t = 2)
    (he0 : P.underlying f0.type = some (.int .i64)) (he1 : P.underlying f1.type = some (.int .i64)) (hv : Value.okWide P w r b0 t v) (h : DataW.Trod enc P w base spare held t v d p) :
    ∃ a s : Int, v = .agg #[.int .i64 (a), .int .i64 (s)] ∧ (-9223372036854775808 ≤ a ∧ a ≤ 9223372036854775807) ∧ (-9223372036854775808 ≤ s ∧ s ≤ 9223372036854775807) := by
  obtain ⟨c0, c1, y0, y1, n, rfl, rfl, rfl, hy0, hy1⟩ := Go.Joins.open_agg2 hs hone hC hv h
  obtain ⟨a0, e0, _, w0⟩ := DataW.trod_int he0 hy0
  obtain ⟨a1, e1, _, w1⟩ := DataW.trod_int he1 hy1
  simp only [List.cons.injEq, and_true] at e0 e1
  subst e0 e1
  exact ⟨_, _, rfl, i64_bd w0, i64_bd w1⟩
theorem open_four {t : TypeId} {f0 f1 f2 f3 : Field} (hs : P.underlying t = some (.struct #[f0, f1, f2, f3])) (hone : oneCellFields P #[f0, f1, f2, f3] = true) (hC : P.cellsOf t = 4)
    (he0 : P.underlying f0.type = some (.int .i64)) (he1 : P.underlying f1.type = some (.int .i64)) (he2 : P.underlying f2.type = some (.int .i64)) (he3 : P.underlying f3.type = some (.int .i64))
    (hv : Value.okWide P w r b0 t v) (h : DataW.Trod enc P w base spare held t v d p) :
    ∃ s l t m : Int, v = .agg #[.int .i64 (s), .int .i64 (l), .int .i64 (t), .int .i64 (m)] := by
  obtain ⟨c0, c1, c2, c3, y0, y1, y2, y3, n, rfl, rfl, rfl, hy0, hy1, hy2, hy3⟩ := Go.Joins.open_agg4 hs hone hC hv h
  obtain ⟨a0, e0, _, _⟩ := DataW.trod_int he0 hy0
  obtain ⟨a1, e1, _, _⟩ := DataW.trod_int he1 hy1
  obtain ⟨a2, e2, _, _⟩ := DataW.trod_int he2 hy2
  obtain ⟨a3, e3, _, _⟩ := DataW.trod_int he3 hy3
  simp only [List.cons.injEq, and_true] at e0 e1 e2 e3
  subst e0 e1 e2 e3
  exact ⟨_, _, _, _, rfl⟩
theorem open_intsAt {t e : TypeId} (ht : P.underlying t = some (.slice e)) (he : P.underlying e = some (.int .i64)) (hc : P.cellsOf e = 1) (hv : Value.okWide P w r b0 t v) (h : DataW.Trod enc P w base spare held t v d p) :
    ∃ (A : Option Addr) (cap : Nat) (zs : List Int), v = .slice A zs.length cap ∧ zs.length ≤ 9223372036854775807 ∧ (∀ z ∈ zs, -9223372036854775808 ≤ z ∧ z ≤ 9223372036854775807) ∧ IntsAt w A zs := by
  obtain ⟨a0, len, cap, rfl⟩ := okWide_slice ht hv
  obtain ⟨fuel, hf⟩ := h
  rcases open_ints ht he hc hf with ⟨hcs, hx⟩ | ⟨a, len', cap', zs, hcs, _, hl, hm, hz, hx, hcell, hwz⟩
  · simp only [Value.cells, List.cons.injEq, Value.slice.injEq, and_true] at hcs
    obtain ⟨rfl, rfl, rfl⟩ := hcs
    exact ⟨none, 0, [], rfl, by simp, by simp, 0, 0, by simp, by simp⟩
  · simp only [Value.cells, List.cons.injEq, Value.slice.injEq, and_true] at hcs
    obtain ⟨rfl, rfl, rfl⟩ := hcs
    have hle : len ≤ zs.length := by rw [hz]; split <;> omega
    have hlen : (zs.take len).length = len := by simp [hle]
    refine ⟨some a, cap, zs.take len, by rw [hlen], by rw [hlen]; unfold maxLen at hm; omega, fun z hz' => i64_bd (hwz z (List.mem_of_mem_take hz')), ?_⟩
    by_cases h0 : 0 < zs.length
    · obtain ⟨b, off, rfl, hc'⟩ := ints_at hcell h0
      refine ⟨b, off, fun _ => rfl, fun i x hx j u hu => ?_⟩
      have hi : i < (zs.take len).length := (List.getElem?_eq_some_iff.1 hx).1
      have hi' : i < len := by omega
      have := hc' i (by omega)
      match j, hu with
      | 0, hu =>
        simp only [intC, List.getElem?_cons_zero, Option.some.injEq] at hu
        subst hu
        rw [List.getElem?_take_of_lt hi'] at hx
        have hg : zs.getD i 0 = x := by simp [List.getD, hx]
        rw [hg] at this
        simpa using this
      | j + 1, hu => simp [intC] at hu
    · refine ⟨0, 0, fun h => absurd ?_ h, fun i x hx => ?_⟩
      · have : zs = [] := by cases zs <;> simp_all
        simp [this]
      · have : zs = [] := by cases zs <;> simp_all
        simp [this] at hx
end

section
open Go.WideShapes Go.ChangeShapes
variable {H : Type} {enc : TypeId × Value → H} {P : Program}
/-- The last step of a row, where of the world behind the call 'Ext' is known. -/
theorem post_of_ext {f : Func} {s : ChangeSpec} {apart fresh handsOn again : Bool} {W W' : World} {args : Array Value} {v : Value} {ds gs : List (DataW H)} {before pa pv : List MemPlace}
    (hW : DataW.Whole enc P f.params.toList s.vars apart W args.toList ds gs before)
    (hres : ∀ (b : Nat) (sp : Nat → Bool) (hd : Bool), DataW.TrodAll enc P W' b sp hd f.resultTypes.toList (v.resultList f.resultTypes.size) (s.fn H (ds ++ gs)).results [])
    (hargs : DataW.TrodAll enc P W' 0 (fun b => decide (b < W.heap.size)) true f.params.toList args.toList (s.fn H (ds ++ gs)).args pa)
    (hvars : ∀ sp : Nat → Bool, (∀ p ∈ before, sp p.block = true) → DataW.TrodVars enc P W' sp s.vars (s.fn H (ds ++ gs)).vars pv)
    (hps : before = pa ++ pv) (hb : Below W.heap.size W W') (hag : again = false) :
    s.post enc P f apart fresh handsOn again W args v W' := by
  subst hag
  have hlt : ∀ p ∈ before, p.block < W.heap.size := fun p hp => hW.lt p hp
  have hold : ∀ p ∈ before, (fun b => decide (b < W.heap.size)) p.block = true := fun p hp => by simpa using hlt p hp
  refine ⟨ds, gs, before, [], pa, pv, hW, hres _ _ _, hargs, hvars _ hold, World.keptBut_mono (fun p hp => ⟨hp, ?_⟩) (hb.frame (· ∈ before)), fun h => by cases h⟩
  rw [hps, List.mem_append] at hp
  exact Or.inr hp
end
end Go.Proofs.Ytphpppjfogpohaa

