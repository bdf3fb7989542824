/- Merged by program (merge.py) out of: Base, SpanA, Ref03A, SpanB. -/
import Derived.Test.YtkcpfimhbogdcaaRows
import Derived.WalkKit
import Derived.BigQuiet
import Derived.Lib.Hide
import Derived.Deep.RegionHeld3
import Derived.ProofKit
import Derived.OpenShut
import Derived.Lib.SmallJoins
import Derived.ChangeSame
import Derived.Carry
/- Plain lemmas on worlds that only grow, shared by all walks of this seat. -/
set_option linter.unusedSimpArgs false
set_option linter.unusedVariables false
namespace Go.Proofs.Ytkcpfimhbogdcaa
open Go.RowKit

/-- w' is w with new blocks; nothing that w held has turned. -/
def Ext (w w' : World) : Prop := Below w.heap.size w w'

theorem Ext.refl (w : World) : Ext w w := Below.refl _ _
theorem Ext.trans {a b c : World} (h : Ext a b) (k : Ext b c) : Ext a c :=
  Below.trans h (Below.mono k (Below.size h))
theorem Ext.drew {a w : World} (h : Ext a w) : Ext a w.drew := Below.drew h
theorem Ext.alloc {a w : World} (h : Ext a w) (o : Obj) : Ext a (w.alloc o) := Below.alloc h (Below.size h) o
theorem Ext.cell {w w' : World} (h : Ext w w') {p : Addr} {v : Value} (hc : w.cell? p = some v) : w'.cell? p = some v := by
  have hb : p.block < w.heap.size := by
    unfold World.cell? at hc
    rcases Nat.lt_or_ge p.block w.heap.size with h | h
    · exact h
    · rw [Array.getElem?_eq_none h] at hc; cases hc
  rw [Below.cell h hb]; exact hc
theorem Ext.size {w w' : World} (h : Ext w w') : w.heap.size ≤ w'.heap.size := Below.size h
theorem Ext.setCell {a w : World} (h : Ext a w) {p : Addr} (hp : a.heap.size ≤ p.block) (u : Value) : Ext a (w.setCell p u) := Below.setCell h hp u
theorem Ext.below {w w' : World} (h : Ext w w') : Below w.heap.size w w' := h
/-- The cells of a block that was just laid. -/
theorem boxed (w : World) (cs : Array Value) (t : TypeId) (i : Nat) (v : Value) (h : cs[i]? = some v) (w' : World) (hw : Ext (w.alloc (.cells cs t)) w') :
    w'.cell? ⟨w.heap.size, i, none⟩ = some v := by
  refine Ext.cell hw ?_
  simpa using h
theorem ecell {w w1 : World} (h : Ext w w1) : (∀ b o, b < w.heap.size → w1.cell? ⟨b, o, none⟩ = w.cell? ⟨b, o, none⟩) ∧ (∀ b o, b < w.heap.size → w1.frozen? ⟨b, o, none⟩ = w.frozen? ⟨b, o, none⟩) ∧ w.heap.size ≤ w1.heap.size :=
  ⟨fun b o hb => Below.cell (p := ⟨b, o, none⟩) h hb, fun b o hb => Below.frozen (p := ⟨b, o, none⟩) h hb, Below.size h⟩
theorem ret_bool {a b : Bool} (h : a = b) : Ending.returned (.bool a) = .returned (.bool b) := by rw [h]
theorem ret_int {k : IntKind} {a b : Int} (h : a = b) : Ending.returned (.int k a) = .returned (.int k b) := by rw [h]
theorem i64_bd {a : Int} (h : (Lit.int .i64 a).wf = true) : -9223372036854775808 ≤ a ∧ a ≤ 9223372036854775807 := by
  simpa [Lit.wf, IntKind.min, IntKind.max, IntKind.signed, IntKind.bits] using h

/-- w' is w with new blocks; of the old ones block b alone may have turned. -/
def Only (b : Nat) (w w' : World) : Prop := w.grownBy w' (some b)
theorem Only.refl (b : Nat) (w : World) : Only b w w := World.grownBy.refl _ _
theorem Only.trans {b : Nat} {u v w : World} (h : Only b u v) (k : Only b v w) : Only b u w :=
  ⟨k.os.trans h.os, k.tape.trans h.tape, k.output.trans h.output, Nat.le_trans h.size k.size,
    fun i hi hne => (k.block i (Nat.lt_of_lt_of_le hi h.size) hne).trans (h.block i hi hne)⟩
theorem Only.of_ext {b : Nat} {w w' : World} (h : Ext w w') : Only b w w' := ⟨h.os, h.tape, h.output, Below.size h, fun k hk _ => Below.block h k hk⟩
theorem Only.drewN {b : Nat} {u w : World} (h : Only b u w) (n : Nat) : Only b u (w.drewN n) := ⟨h.os, h.tape, h.output, h.size, h.block⟩
theorem Only.drew {b : Nat} {u w : World} (h : Only b u w) : Only b u w.drew := ⟨h.os, h.tape, h.output, h.size, h.block⟩
theorem Only.setCell {b : Nat} {u w : World} (h : Only b u w) (i : Nat) (v : Value) : Only b u (w.setCell ⟨b, i, none⟩ v) :=
  ⟨h.os, h.tape, h.output, by simpa using h.size, fun k hk hne => (heap_setCell_other w ⟨b, i, none⟩ k v (fun e => hne (by rw [e]))).trans (h.block k hk hne)⟩
theorem Only.cell {b : Nat} {w w' : World} (h : Only b w w') {p : Addr} {v : Value} (hc : w.cell? p = some v) (hne : p.block ≠ b) : w'.cell? p = some v :=
  World.grownBy.cell h hc (fun e => hne (by injection e))
theorem Only.ext {b : Nat} {u w w' : World} (h : Only b w w') (hu : Ext u w) (hb : u.heap.size ≤ b) : Ext u w' :=
  Below.grown hu h (Below.size hu) (fun k hk => by injection hk with hk; omega)
theorem Ext.drewN {u w : World} (h : Ext u w) (n : Nat) : Ext u (w.drewN n) := ⟨h.os, h.tape, h.output, h.size, h.block⟩
theorem Ext.block {w w' : World} (h : Ext w w') {k : Nat} (hk : k < w.heap.size) : w'.heap[k]? = w.heap[k]? := Below.block h k hk

/-- The worlds that W has grown into: as a type, so that what is read there is an equation without a premise. -/
def ExtOf (W : World) : Type := { w : World // Ext W w }
instance ExtOf.inhabited (W : World) : Nonempty (ExtOf W) := ⟨⟨W, Ext.refl W⟩⟩
theorem Calls.ext_of {P : Program} {f : FuncId} {args : Array Value} {W : World} {u : ExtOf W} {v : Value} (h : Calls P f args u.1 fun e w' => e = .returned v ∧ Ext u.1 w') :
    Calls P f args u.1 fun e w'' => e = .returned v ∧ ∃ u' : ExtOf W, w'' = u'.1 :=
  h.mono fun _ w' ⟨he, hx⟩ => ⟨he, ⟨w', u.2.trans hx⟩, rfl⟩
/-- A region that draws its order, whose operations read and call what only makes memory: one walk of the text's order. -/
theorem wp_region_ext {P : Program} {W : World} {id : Nat} {Q : Exit → Act → World → Prop} {a : Act} {w : World} {l : List Oper} (hm : P.follows .mixedOrders = true) (hB : Region.lexB .any l.toArray = true) (hx : Ext W w)
    (h : wpQuiet P l.toArray (fun w' => ∃ u : ExtOf W, w' = u.1) (fun a' => ∀ w', Ext W w' → Q .normal a' w') l a) : (Code.region id l.toArray true).wp P Q a w :=
  wp_region_quiet (C := fun w' => ∃ u : ExtOf W, w' = u.1) hm hB ⟨⟨_, Ext.drew hx⟩, rfl⟩ (by
    have : (fun a' => ∀ w', (∃ u : ExtOf W, w' = u.1) → Q .normal a' w') = (fun a' => ∀ w', Ext W w' → Q .normal a' w') := by
      funext a'
      exact propext ⟨fun h w' hw => h w' ⟨⟨w', hw⟩, rfl⟩, fun h w' ⟨u, hu⟩ => hu ▸ h _ u.2⟩
    rw [this]
    simpa using h)

/-- A slice's elements, n cells each: A is its address; an empty slice's is not looked at. -/
def RowAt {α : Type} (n : Nat) (f : α → List Value) (w : World) (A : Option Addr) (xs : List α) : Prop :=
  ∃ b off, (xs ≠ [] → A = some ⟨b, off, none⟩) ∧ ∀ i x, xs[i]? = some x → ∀ j v, (f x)[j]? = some v → w.cell? ⟨b, off + i * n + j, none⟩ = some v
theorem RowAt.ext {α : Type} {n : Nat} {f : α → List Value} {w w' : World} {A : Option Addr} {xs : List α} (h : RowAt n f w A xs) (he : Ext w w') : RowAt n f w' A xs := by
  obtain ⟨b, off, hA, hc⟩ := h
  exact ⟨b, off, hA, fun i x hx j v hv => he.cell (hc i x hx j v hv)⟩
theorem RowAt.get {α : Type} {n : Nat} {f : α → List Value} {w : World} {A : Option Addr} {xs : List α} (h : RowAt n f w A xs) (hne : 0 < xs.length) :
    ∃ b off, A = some ⟨b, off, none⟩ ∧ ∀ i x, xs[i]? = some x → ∀ j v, (f x)[j]? = some v → w.cell? ⟨b, off + i * n + j, none⟩ = some v := by
  obtain ⟨b, off, hA, hc⟩ := h
  exact ⟨b, off, hA (by intro e; subst e; simp at hne), hc⟩
def intC (z : Int) : List Value := [.int .i64 z]
def spanC (x : Int × Int) : List Value := [.int .i64 x.1, .int .i64 x.2]
abbrev IntsAt (w : World) (A : Option Addr) (zs : List Int) : Prop := RowAt 1 intC w A zs
abbrev SpansAt (w : World) (A : Option Addr) (xs : List (Int × Int)) : Prop := RowAt 2 spanC w A xs
/-- An element of a slice of ints, in whatever world still has it. -/
theorem ints_cell {w : World} {b off : Nat} {zs : List Int} (hc : ∀ i x, zs[i]? = some x → ∀ j v, (intC x)[j]? = some v → w.cell? ⟨b, off + i * 1 + j, none⟩ = some v) {k : Nat} (hk : k < zs.length) :
    w.cell? ⟨b, off + k, none⟩ = some (.int .i64 (zs.getD k 0)) := by
  have h := hc k zs[k] (by simp [hk]) 0 _ rfl
  simpa [hk] using h
theorem spans_cell {w : World} {b off : Nat} {xs : List (Int × Int)} (hc : ∀ i x, xs[i]? = some x → ∀ j v, (spanC x)[j]? = some v → w.cell? ⟨b, off + i * 2 + j, none⟩ = some v) {k : Nat} (hk : k < xs.length) :
    w.cell? ⟨b, off + k * 2, none⟩ = some (.int .i64 (xs.getD k (0, 0)).1) ∧ w.cell? ⟨b, off + k * 2 + 1, none⟩ = some (.int .i64 (xs.getD k (0, 0)).2) := by
  have h0 := hc k xs[k] (by simp [hk]) 0 _ rfl
  have h1 := hc k xs[k] (by simp [hk]) 1 _ rfl
  exact ⟨by simpa [hk] using h0, by simpa [hk] using h1⟩

section
open Go.WideShapes Go.ChangeShapes Go.ChangeAt Go.Joins Go.Deep
variable {H : Type} {enc : TypeId × Value → H} {w : World} {base b0 : Nat} {spare : Nat → Bool} {held : Bool} {v : Value} {d : DataW H} {p : List MemPlace} {r : Reach} {P : Program}
theorem open_two {t : TypeId} {f0 f1 : Field} (hs : P.underlying t = some (.struct #[f0, f1])) (hone : oneCellFields P #[f0, f1] = true) (hC : P.cellsOf t = 2)
    (he0 : P.underlying f0.type = some (.int .i64)) (he1 : P.underlying f1.type = some (.int .i64)) (hv : Value.okWide P w r b0 t v) (h : DataW.Trod enc P w base spare held t v d p) :
    ∃ a s : Int, v = .agg #[.int .i64 (a), .int .i64 (s)] ∧ (-9223372036854775808 ≤ a ∧ a ≤ 9223372036854775807) ∧ (-9223372036854775808 ≤ s ∧ s ≤ 9223372036854775807) := by
  obtain ⟨c0, c1, y0, y1, n, rfl, rfl, rfl, hy0, hy1⟩ := Go.Joins.open_agg2 hs hone hC hv h
  obtain ⟨a0, e0, _, w0⟩ := DataW.trod_int he0 hy0
  obtain ⟨a1, e1, _, w1⟩ := DataW.trod_int he1 hy1
  simp only [List.cons.injEq, and_true] at e0 e1
  subst e0 e1
  exact ⟨_, _, rfl, i64_bd w0, i64_bd w1⟩
theorem open_four {t : TypeId} {f0 f1 f2 f3 : Field} (hs : P.underlying t = some (.struct #[f0, f1, f2, f3])) (hone : oneCellFields P #[f0, f1, f2, f3] = true) (hC : P.cellsOf t = 4)
    (he0 : P.underlying f0.type = some (.int .i64)) (he1 : P.underlying f1.type = some (.int .i64)) (he2 : P.underlying f2.type = some (.int .i64)) (he3 : P.underlying f3.type = some (.int .i64))
    (hv : Value.okWide P w r b0 t v) (h : DataW.Trod enc P w base spare held t v d p) :
    ∃ s l t m : Int, v = .agg #[.int .i64 (s), .int .i64 (l), .int .i64 (t), .int .i64 (m)] := by
  obtain ⟨c0, c1, c2, c3, y0, y1, y2, y3, n, rfl, rfl, rfl, hy0, hy1, hy2, hy3⟩ := Go.Joins.open_agg4 hs hone hC hv h
  obtain ⟨a0, e0, _, _⟩ := DataW.trod_int he0 hy0
  obtain ⟨a1, e1, _, _⟩ := DataW.trod_int he1 hy1
  obtain ⟨a2, e2, _, _⟩ := DataW.trod_int he2 hy2
  obtain ⟨a3, e3, _, _⟩ := DataW.trod_int he3 hy3
  simp only [List.cons.injEq, and_true] at e0 e1 e2 e3
  subst e0 e1 e2 e3
  exact ⟨_, _, _, _, rfl⟩
theorem open_intsAt {t e : TypeId} (ht : P.underlying t = some (.slice e)) (he : P.underlying e = some (.int .i64)) (hc : P.cellsOf e = 1) (hv : Value.okWide P w r b0 t v) (h : DataW.Trod enc P w base spare held t v d p) :
    ∃ (A : Option Addr) (cap : Nat) (zs : List Int), v = .slice A zs.length cap ∧ zs.length ≤ 9223372036854775807 ∧ (∀ z ∈ zs, -9223372036854775808 ≤ z ∧ z ≤ 9223372036854775807) ∧ IntsAt w A zs := by
  obtain ⟨a0, len, cap, rfl⟩ := okWide_slice ht hv
  obtain ⟨fuel, hf⟩ := h
  rcases open_ints ht he hc hf with ⟨hcs, hx⟩ | ⟨a, len', cap', zs, hcs, _, hl, hm, hz, hx, hcell, hwz⟩
  · simp only [Value.cells, List.cons.injEq, Value.slice.injEq, and_true] at hcs
    obtain ⟨rfl, rfl, rfl⟩ := hcs
    exact ⟨none, 0, [], rfl, by simp, by simp, 0, 0, by simp, by simp⟩
  · simp only [Value.cells, List.cons.injEq, Value.slice.injEq, and_true] at hcs
    obtain ⟨rfl, rfl, rfl⟩ := hcs
    have hle : len ≤ zs.length := by rw [hz]; split <;> omega
    have hlen : (zs.take len).length = len := by simp [hle]
    refine ⟨some a, cap, zs.take len, by rw [hlen], by rw [hlen]; unfold maxLen at hm; omega, fun z hz' => i64_bd (hwz z (List.mem_of_mem_take hz')), ?_⟩
    by_cases h0 : 0 < zs.length
    · obtain ⟨b, off, rfl, hc'⟩ := ints_at hcell h0
      refine ⟨b, off, fun _ => rfl, fun i x hx j u hu => ?_⟩
      have hi : i < (zs.take len).length := (List.getElem?_eq_some_iff.1 hx).1
      have hi' : i < len := by omega
      have := hc' i (by omega)
      match j, hu with
      | 0, hu =>
        simp only [intC, List.getElem?_cons_zero, Option.some.injEq] at hu
        subst hu
        rw [List.getElem?_take_of_lt hi'] at hx
        have hg : zs.getD i 0 = x := by simp [List.getD, hx]
        rw [hg] at this
        simpa using this
      | j + 1, hu => simp [intC] at hu
    · refine ⟨0, 0, fun h => absurd ?_ h, fun i x hx => ?_⟩
      · have : zs = [] := by cases zs <;> simp_all
        simp [this]
      · have : zs = [] := by cases zs <;> simp_all
        simp [this] at hx
end

section
open Go.WideShapes Go.ChangeShapes
variable {H : Type} {enc : TypeId × Value → H} {P : Program}
/-- The last step of a row, where of the world behind the call 'Ext' is known. -/
theorem post_of_ext {f : Func} {s : ChangeSpec} {apart fresh handsOn again : Bool} {W W' : World} {args : Array Value} {v : Value} {ds gs : List (DataW H)} {before pa pv : List MemPlace}
    (hW : DataW.Whole enc P f.params.toList s.vars apart W args.toList ds gs before)
    (hres : ∀ (b : Nat) (sp : Nat → Bool) (hd : Bool), DataW.TrodAll enc P W' b sp hd f.resultTypes.toList (v.resultList f.resultTypes.size) (s.fn H (ds ++ gs)).results [])
    (hargs : DataW.TrodAll enc P W' 0 (fun b => decide (b < W.heap.size)) true f.params.toList args.toList (s.fn H (ds ++ gs)).args pa)
    (hvars : ∀ sp : Nat → Bool, (∀ p ∈ before, sp p.block = true) → DataW.TrodVars enc P W' sp s.vars (s.fn H (ds ++ gs)).vars pv)
    (hps : before = pa ++ pv) (hb : Below W.heap.size W W') (hag : again = false) :
    s.post enc P f apart fresh handsOn again W args v W' := by
  subst hag
  have hlt : ∀ p ∈ before, p.block < W.heap.size := fun p hp => hW.lt p hp
  have hold : ∀ p ∈ before, (fun b => decide (b < W.heap.size)) p.block = true := fun p hp => by simpa using hlt p hp
  refine ⟨ds, gs, before, [], pa, pv, hW, hres _ _ _, hargs, hvars _ hold, World.keptBut_mono (fun p hp => ⟨hp, ?_⟩) (hb.frame (· ∈ before)), fun h => by cases h⟩
  rw [hps, List.mem_append] at hp
  exact Or.inr hp
end
end Go.Proofs.Ytkcpfimhbogdcaa

/- The walks of the small functions on spans: May, end, Has, Meets, Within, and the reference's. -/
set_option linter.unusedSimpArgs false
set_option linter.unusedVariables false
namespace Go.Proofs.Ytkcpfimhbogdcaa
open Go.RowKit

def mayB (a s : Int) : Bool := decide (0 ≤ a ∧ a ≤ 1099511627776 ∧ 1 ≤ s ∧ s ≤ 1099511627776 - a)

set_option maxHeartbeats 400000 in
theorem end_any (a s : Int) (w : World) :
    Calls Try.prog 111 #[.agg #[.int .i64 (a), .int .i64 (s)]] w fun e w' => e = .returned (.int .i64 (wrap64 (a + s))) ∧ Ext w w' := by
  go_enter Try.func111, Try.ntmps111
  go_wp2
  go_ret
  exact ⟨rfl, (Ext.refl _).alloc _⟩

set_option maxHeartbeats 400000 in
theorem may_any (a s : Int) (w : World) :
    Calls Try.prog 15 #[.agg #[.int .i64 (a), .int .i64 (s)]] w fun e w' => e = .returned (.bool (mayB a s)) ∧ Ext w w' := by
  go_enter Try.func15, Try.ntmps15
  go_wp2
  all_goals go_ret
  all_goals exact ⟨ret_bool (by unfold mayB; simp [*]; try omega), (Ext.refl _).alloc _⟩

set_option maxHeartbeats 400000 in
theorem refmay_any (a s : Int) (w : World) :
    Calls Try.prog 67 #[.agg #[.int .i64 (a), .int .i64 (s)]] w fun e w' => e = .returned (.bool (mayB a s)) ∧ Ext w w' := by
  go_enter Try.func67, Try.ntmps67
  go_wp2
  all_goals go_ret
  all_goals exact ⟨ret_bool (by unfold mayB; simp [*]; try omega), (Ext.refl _).alloc _⟩

def hasB (a s p : Int) : Bool := mayB a s && decide (a ≤ p ∧ p < a + s)

theorem may_bd {a s : Int} (h : mayB a s = true) : 0 ≤ a ∧ a ≤ 1099511627776 ∧ 1 ≤ s ∧ s ≤ 1099511627776 - a := by
  simpa [mayB] using h

end Go.Proofs.Ytkcpfimhbogdcaa

/- The walks of the reference of layer 3 that only read. -/
set_option linter.unusedSimpArgs false
set_option linter.unusedVariables false
namespace Go.Proofs.Ytkcpfimhbogdcaa
open Go.RowKit

theorem w64 (n : Int) (h : -9223372036854775808 ≤ n ∧ n ≤ 9223372036854775807) : wrap64 n = n := IntWalk.wrap64_in n ⟨by omega, by omega⟩

set_option maxHeartbeats 400000 in
theorem refhas_any (a s p : Int) (w : World) :
    Calls Try.prog 149 #[.agg #[.int .i64 (a), .int .i64 (s)], .int .i64 p] w fun e w' => e = .returned (.bool (hasB a s p)) ∧ Ext w w' := by
  by_cases hb : mayB a s = true
  · obtain ⟨h1, h2, h3, h4⟩ := may_bd hb
    go_enter Try.func149, Try.ntmps149
    go_wp2_with (go_at_call 67; refine (refmay_any _ _ _).mono ?_; rintro e w1 ⟨rfl, hx⟩; obtain ⟨hcc, hff, hzz⟩ := ecell hx; (try simp only [World.size_alloc] at hzz); (try (have hz0 := Nat.lt_of_succ_le hzz)); (try (have hz1 := Nat.lt_of_succ_lt hz0)); (try (have hz2 := Nat.lt_of_succ_lt hz1)); (try (have hz3 := Nat.lt_of_succ_lt hz2)))
    all_goals go_ret
    all_goals exact ⟨ret_bool (by unfold hasB; rw [Bool.eq_iff_iff]; simp [*]; try omega), (by repeat (first | (with_reducible exact Ext.refl _) | (with_reducible assumption) | (with_reducible refine Ext.drew ?_) | (with_reducible refine Ext.alloc ?_ _) | ((with_reducible refine Ext.setCell ?_ ?_ _); rotate_left; (focus (simp; try omega))) | (with_reducible refine Ext.trans ?_ (by assumption))))⟩
  · have hb' : mayB a s = false := by simpa using hb
    go_enter Try.func149, Try.ntmps149
    go_wp2_with (go_at_call 67; refine (refmay_any _ _ _).mono ?_; rintro e w1 ⟨rfl, hx⟩; obtain ⟨hcc, hff, hzz⟩ := ecell hx; (try simp only [World.size_alloc] at hzz); (try (have hz0 := Nat.lt_of_succ_le hzz)); (try (have hz1 := Nat.lt_of_succ_lt hz0)); (try (have hz2 := Nat.lt_of_succ_lt hz1)); (try (have hz3 := Nat.lt_of_succ_lt hz2)))
    go_ret
    exact ⟨ret_bool (by unfold hasB; simp [hb']), (by repeat (first | (with_reducible exact Ext.refl _) | (with_reducible assumption) | (with_reducible refine Ext.drew ?_) | (with_reducible refine Ext.alloc ?_ _) | ((with_reducible refine Ext.setCell ?_ ?_ _); rotate_left; (focus (simp; try omega))) | (with_reducible refine Ext.trans ?_ (by assumption))))⟩

def meetsB (a s c d : Int) : Bool := mayB a s && mayB c d && (hasB a s c || hasB c d a)

set_option maxHeartbeats 400000 in
theorem refmeets_any (a s c d : Int) (w : World) :
    Calls Try.prog 150 #[.agg #[.int .i64 (a), .int .i64 (s)], .agg #[.int .i64 (c), .int .i64 (d)]] w fun e w' => e = .returned (.bool (meetsB a s c d)) ∧ Ext w w' := by
  go_enter Try.func150, Try.ntmps150
  go_wp2_with fail
  have hW : Ext w ((w.alloc (.cells #[.int .i64 a, .int .i64 s] 23)).alloc (.cells #[.int .i64 c, .int .i64 d] 23)) := ((Ext.refl w).alloc _).alloc _
  have k0 := boxed w #[.int .i64 a, .int .i64 s] 23 0 _ rfl
  have k1 := boxed w #[.int .i64 a, .int .i64 s] 23 1 _ rfl
  have k2 := boxed (w.alloc (.cells #[.int .i64 a, .int .i64 s] 23)) #[.int .i64 c, .int .i64 d] 23 0 _ rfl
  have k3 := boxed (w.alloc (.cells #[.int .i64 a, .int .i64 s] 23)) #[.int .i64 c, .int .i64 d] 23 1 _ rfl
  replace k0 : ∀ w', Ext ((w.alloc (.cells #[.int .i64 a, .int .i64 s] 23)).alloc (.cells #[.int .i64 c, .int .i64 d] 23)) w' → _ := fun w' h => k0 w' (((Ext.refl _).alloc _).trans h)
  replace k1 : ∀ w', Ext ((w.alloc (.cells #[.int .i64 a, .int .i64 s] 23)).alloc (.cells #[.int .i64 c, .int .i64 d] 23)) w' → _ := fun w' h => k1 w' (((Ext.refl _).alloc _).trans h)
  simp only [World.size_alloc] at k2 k3
  generalize (w.alloc (.cells #[.int .i64 a, .int .i64 s] 23)).alloc (.cells #[.int .i64 c, .int .i64 d] 23) = W at *
  have hs0 : Ext W W := Ext.refl W
  cases h1 : mayB a s <;> cases h2 : mayB c d <;> cases h3 : hasB a s c
  all_goals go_wp2_with (first | (go_at_call 67; refine (refmay_any _ _ _).mono ?_; rintro e w1 ⟨rfl, hx0⟩; have hx := Ext.trans (a := W) (by with_reducible assumption) hx0; clear hx0) | (go_at_call 149; refine (refhas_any _ _ _ _).mono ?_; rintro e w1 ⟨rfl, hx0⟩; have hx := Ext.trans (a := W) (by with_reducible assumption) hx0; clear hx0))
  all_goals go_ret
  all_goals exact ⟨ret_bool (by unfold meetsB; simp [*]), hW.trans (by assumption)⟩

/-- Each may be, and none meets an earlier one. -/
def apartB (xs : List (Int × Int)) : Bool := decide (∀ i, i < xs.length → mayB (xs.getD i (0, 0)).1 (xs.getD i (0, 0)).2 = true ∧
  ∀ k, k < i → meetsB (xs.getD i (0, 0)).1 (xs.getD i (0, 0)).2 (xs.getD k (0, 0)).1 (xs.getD k (0, 0)).2 = false)
theorem apart_yes {xs : List (Int × Int)} (h : ∀ i, i < xs.length → mayB (xs.getD i (0, 0)).1 (xs.getD i (0, 0)).2 = true ∧
    ∀ k, k < i → meetsB (xs.getD i (0, 0)).1 (xs.getD i (0, 0)).2 (xs.getD k (0, 0)).1 (xs.getD k (0, 0)).2 = false) : apartB xs = true := decide_eq_true h
theorem apart_no1 {xs : List (Int × Int)} {i : Nat} (hi : i < xs.length) (h : mayB (xs.getD i (0, 0)).1 (xs.getD i (0, 0)).2 = false) : apartB xs = false :=
  decide_eq_false fun H => by rw [(H i hi).1] at h; cases h
theorem apart_no2 {xs : List (Int × Int)} {i k : Nat} (hi : i < xs.length) (hk : k < i) (h : meetsB (xs.getD i (0, 0)).1 (xs.getD i (0, 0)).2 (xs.getD k (0, 0)).1 (xs.getD k (0, 0)).2 = true) : apartB xs = false :=
  decide_eq_false fun H => by rw [(H i hi).2 k hk] at h; cases h

set_option maxRecDepth 100000 in
set_option maxHeartbeats 1000000 in
theorem refapart_any (A : Option Addr) (cap : Nat) (xs : List (Int × Int)) (W : World) (hlen : xs.length ≤ 9223372036854775807) (hl : SpansAt W A xs) :
    Calls Try.prog 113 #[.slice A xs.length cap] W fun e w' => e = .returned (.bool (apartB xs)) ∧ Ext W w' := by
  have HL := Lib.hid hl
  clear hl
  go_enter Try.func113, Try.ntmps113
  go_wp2_with fail
  go_loopw [3] (fun i wr => ∃ k : Nat, k ≤ xs.length ∧ i = .int .i64 k ∧ Ext W wr ∧ Hid (∀ i, i < k → mayB (xs.getD i (0, 0)).1 (xs.getD i (0, 0)).2 = true ∧
    ∀ k, k < i → meetsB (xs.getD i (0, 0)).1 (xs.getD i (0, 0)).2 (xs.getD k (0, 0)).1 (xs.getD k (0, 0)).2 = false)) (fun i _ => xs.length - (intOf i).toNat)
  case atStart => exact ⟨0, by omega, rfl, Ext.refl _, Lib.hid (by omega)⟩
  case round =>
    obtain ⟨k, hk, rfl, hxr, hq⟩ := hrel
    by_cases hlt : k < xs.length
    rotate_left
    · go_wp2_with fail
      go_ret
      exact ⟨ret_bool (by rw [apart_yes (fun i hi => hq.out i (by omega))]), hxr⟩
    obtain ⟨lb, off, rfl, hc⟩ := HL.out.get (by omega)
    have HC := Lib.hid hc
    obtain ⟨e1, e2⟩ := spans_cell hc hlt
    have E1 := Lib.hid e1
    have E2 := Lib.hid e2
    have c1 : ∀ w', Ext W w' → w'.cell? ⟨lb, off + k * 2, none⟩ = some (.int .i64 (xs.getD k (0, 0)).1) := fun w' h => h.cell E1.out
    have c2 : ∀ w', Ext W w' → w'.cell? ⟨lb, off + k * 2 + 1, none⟩ = some (.int .i64 (xs.getD k (0, 0)).2) := fun w' h => h.cell E2.out
    have HN1 := Lib.hid (fun h => apart_no1 (xs := xs) (i := k) hlt h)
    have HN2 := Lib.hid (fun j h1 h => apart_no2 (xs := xs) (i := k) (k := j) hlt h1 h)
    have HP := Lib.hid (fun (h1 : mayB (xs.getD k (0, 0)).1 (xs.getD k (0, 0)).2 = true) (h2 : ∀ j, j < k → meetsB (xs.getD k (0, 0)).1 (xs.getD k (0, 0)).2 (xs.getD j (0, 0)).1 (xs.getD j (0, 0)).2 = false) =>
      (fun i (hi : i < k + 1) => by
        rcases Nat.lt_or_ge i k with h | h
        · exact hq.out i h
        · obtain rfl : i = k := by omega
          exact ⟨h1, h2⟩ : ∀ i, i < k + 1 → mayB (xs.getD i (0, 0)).1 (xs.getD i (0, 0)).2 = true ∧
            ∀ k, k < i → meetsB (xs.getD i (0, 0)).1 (xs.getD i (0, 0)).2 (xs.getD k (0, 0)).1 (xs.getD k (0, 0)).2 = false))
    clear e1 e2 hc HL hq
    generalize hxa : (xs.getD k (0, 0)).1 = a at *
    generalize hxs : (xs.getD k (0, 0)).2 = s at *
    clear hxa hxs
    cases hm : mayB a s
    · go_wp2_with (go_at_call 67; refine (refmay_any _ _ _).mono ?_; rintro e w1 ⟨rfl, hx0⟩; have hx := Ext.trans (a := W) (by with_reducible assumption) hx0; clear hx0)
      go_ret
      exact ⟨ret_bool (by rw [HN1.out hm]), by assumption⟩
    · go_wp2_with (go_at_call 67; refine (refmay_any _ _ _).mono ?_; rintro e w1 ⟨rfl, hx0⟩; have hx := Ext.trans (a := W) (by with_reducible assumption) hx0; clear hx0)
      go_loopw [4] (fun i wr => ∃ j : Nat, j ≤ k ∧ i = .int .i64 j ∧ Ext W wr ∧ Hid (∀ i, i < j → meetsB a s (xs.getD i (0, 0)).1 (xs.getD i (0, 0)).2 = false)) (fun i _ => k - (intOf i).toNat)
      case atStart => exact ⟨0, by omega, rfl, by assumption, Lib.hid (by omega)⟩
      case round =>
        obtain ⟨j, hj, rfl, hxj, hqj⟩ := hrel
        by_cases hjk : j < k
        rotate_left
        · obtain rfl : j = k := by omega
          go_wp2_with fail
          go_roundw
          case rel => exact ⟨j + 1, by omega, by go_num, hxj, Lib.hid (HP.out hm hqj.out)⟩
          case measure => simp [intOf]; omega
        obtain ⟨e1, e2⟩ := spans_cell HC.out (show j < xs.length by omega)
        have E3 := Lib.hid e1
        have E4 := Lib.hid e2
        have c3 : ∀ w', Ext W w' → w'.cell? ⟨lb, off + j * 2, none⟩ = some (.int .i64 (xs.getD j (0, 0)).1) := fun w' h => h.cell E3.out
        have c4 : ∀ w', Ext W w' → w'.cell? ⟨lb, off + j * 2 + 1, none⟩ = some (.int .i64 (xs.getD j (0, 0)).2) := fun w' h => h.cell E4.out
        have HM2 := Lib.hid (fun h => HN2.out j hjk h)
        have HP2 := Lib.hid (fun (h2 : meetsB a s (xs.getD j (0, 0)).1 (xs.getD j (0, 0)).2 = false) =>
          (fun i (hi : i < j + 1) => by
            rcases Nat.lt_or_ge i j with h | h
            · exact hqj.out i h
            · obtain rfl : i = j := by omega
              exact h2 : ∀ i, i < j + 1 → meetsB a s (xs.getD i (0, 0)).1 (xs.getD i (0, 0)).2 = false))
        clear e1 e2 hqj
        generalize (xs.getD j (0, 0)).1 = a2 at *
        generalize (xs.getD j (0, 0)).2 = s2 at *
        have ib1 : (j : Int) < (xs.length : Int) := by omega
        have ib2 : (k : Int) < (xs.length : Int) := by omega
        have ib3 : (0 : Int) ≤ (j : Int) := by omega
        have ib4 : (0 : Int) ≤ (k : Int) := by omega
        cases hmm : meetsB a s a2 s2
        · go_wp2_with fail
          go_region_held3 (fun w1 => Ext W w1) (first | (with_reducible assumption) | (exact Ext.drew (by with_reducible assumption)) | (with_reducible exact Ext.drew (Ext.alloc (by with_reducible assumption) _)) | (with_reducible exact Ext.alloc (by with_reducible assumption) _) | (exact Ext.trans (by with_reducible assumption) (by with_reducible assumption))) (first
            | (go_at_call 150; refine (refmeets_any _ _ _ _ _).mono ?_; rintro e w1 ⟨rfl, hx⟩))
          go_wp2_with fail
          go_roundw
          case rel => exact ⟨j + 1, by omega, by go_num, by assumption, Lib.hid (HP2.out hmm)⟩
          case measure => simp [intOf]; omega
        · go_wp2_with fail
          go_region_held3 (fun w1 => Ext W w1) (first | (with_reducible assumption) | (exact Ext.drew (by with_reducible assumption)) | (with_reducible exact Ext.drew (Ext.alloc (by with_reducible assumption) _)) | (with_reducible exact Ext.alloc (by with_reducible assumption) _) | (exact Ext.trans (by with_reducible assumption) (by with_reducible assumption))) (first
            | (go_at_call 150; refine (refmeets_any _ _ _ _ _).mono ?_; rintro e w1 ⟨rfl, hx⟩))
          go_wp2_with fail
          go_ret
          exact ⟨ret_bool (by rw [HM2.out hmm]), by assumption⟩

/-- Has one of some spans a word? -/
def coveredB (xs : List (Int × Int)) (p : Int) : Bool := xs.any fun x => hasB x.1 x.2 p
theorem covered_yes {xs : List (Int × Int)} {p : Int} {k : Nat} (hk : k < xs.length) (h : hasB (xs.getD k (0, 0)).1 (xs.getD k (0, 0)).2 p = true) : coveredB xs p = true := by
  unfold coveredB
  rw [List.any_eq_true]
  exact ⟨xs.getD k (0, 0), by simp [hk], h⟩
theorem covered_no {xs : List (Int × Int)} {p : Int} (h : ∀ k, k < xs.length → hasB (xs.getD k (0, 0)).1 (xs.getD k (0, 0)).2 p = false) : coveredB xs p = false := by
  unfold coveredB
  rw [List.any_eq_false]
  intro x hx
  obtain ⟨k, hk, rfl⟩ := List.getElem_of_mem hx
  have := h k hk
  simp only [List.getD_eq_getElem?_getD, List.getElem?_eq_getElem hk, Option.getD_some] at this
  simp [this]

set_option maxRecDepth 100000 in
set_option maxHeartbeats 1000000 in
theorem refcovered_any (A : Option Addr) (cap : Nat) (xs : List (Int × Int)) (p : Int) (W : World) (hlen : xs.length ≤ 9223372036854775807) (hl : SpansAt W A xs) :
    Calls Try.prog 152 #[.slice A xs.length cap, .int .i64 p] W fun e w' => e = .returned (.bool (coveredB xs p)) ∧ Ext W w' := by
  have HL := Lib.hid hl
  clear hl
  go_enter Try.func152, Try.ntmps152
  go_wp2_with fail
  go_loopw [5] (fun i wr => ∃ k : Nat, k ≤ xs.length ∧ i = .int .i64 k ∧ Ext W wr ∧ Hid (∀ i, i < k → hasB (xs.getD i (0, 0)).1 (xs.getD i (0, 0)).2 p = false)) (fun i _ => xs.length - (intOf i).toNat)
  case atStart => exact ⟨0, by omega, rfl, Ext.refl _, Lib.hid (by omega)⟩
  case round =>
    obtain ⟨k, hk, rfl, hxr, hq⟩ := hrel
    by_cases hlt : k < xs.length
    rotate_left
    · go_wp2_with fail
      go_ret
      exact ⟨ret_bool (by rw [covered_no (fun i hi => hq.out i (by omega))]), hxr⟩
    obtain ⟨lb, off, rfl, hc⟩ := HL.out.get (by omega)
    obtain ⟨e1, e2⟩ := spans_cell hc hlt
    have E1 := Lib.hid e1
    have E2 := Lib.hid e2
    have c1 : ∀ w', Ext W w' → w'.cell? ⟨lb, off + k * 2, none⟩ = some (.int .i64 (xs.getD k (0, 0)).1) := fun w' h => h.cell E1.out
    have c2 : ∀ w', Ext W w' → w'.cell? ⟨lb, off + k * 2 + 1, none⟩ = some (.int .i64 (xs.getD k (0, 0)).2) := fun w' h => h.cell E2.out
    have HY := Lib.hid (fun h => covered_yes (xs := xs) (p := p) (k := k) hlt h)
    have HP := Lib.hid (fun (h2 : hasB (xs.getD k (0, 0)).1 (xs.getD k (0, 0)).2 p = false) =>
      (fun i (hi : i < k + 1) => by
        rcases Nat.lt_or_ge i k with h | h
        · exact hq.out i h
        · obtain rfl : i = k := by omega
          exact h2 : ∀ i, i < k + 1 → hasB (xs.getD i (0, 0)).1 (xs.getD i (0, 0)).2 p = false))
    clear e1 e2 hc HL hq
    generalize (xs.getD k (0, 0)).1 = a at *
    generalize (xs.getD k (0, 0)).2 = s at *
    cases hm : hasB a s p
    · go_wp2_with (go_at_call 149; refine (refhas_any _ _ _ _).mono ?_; rintro e w1 ⟨rfl, hx0⟩; have hx := Ext.trans (a := W) (by with_reducible assumption) hx0; clear hx0)
      go_roundw
      case rel => exact ⟨k + 1, by omega, by go_num, by assumption, Lib.hid (HP.out hm)⟩
      case measure => simp [intOf]; omega
    · go_wp2_with (go_at_call 149; refine (refhas_any _ _ _ _).mono ?_; rintro e w1 ⟨rfl, hx0⟩; have hx := Ext.trans (a := W) (by with_reducible assumption) hx0; clear hx0)
      go_ret
      exact ⟨ret_bool (by rw [HY.out hm]), by assumption⟩
end Go.Proofs.Ytkcpfimhbogdcaa

/- The walks of span.Meets and span.Within, and of the reference's Within. -/
set_option linter.unusedSimpArgs false
set_option linter.unusedVariables false
namespace Go.Proofs.Ytkcpfimhbogdcaa
open Go.RowKit

theorem meets_alt {a s c d : Int} (h1 : mayB a s = true) (h2 : mayB c d = true) : meetsB a s c d = (decide (a < c + d) && decide (c < a + s)) := by
  have := may_bd h1
  have := may_bd h2
  unfold meetsB hasB
  rw [h1, h2, Bool.eq_iff_iff]
  simp
  omega
theorem meets_no1 {a s c d : Int} (h1 : mayB a s = false) : meetsB a s c d = false := by unfold meetsB; simp [h1]
theorem meets_no2 {a s c d : Int} (h1 : mayB c d = false) : meetsB a s c d = false := by unfold meetsB; simp [h1]

def withinB (a s c d : Int) : Bool := mayB a s && mayB c d && decide (c ≤ a ∧ a + s ≤ c + d)

/-- The contracts with their result under a name: for a test that is decided ahead of the walk. -/
theorem may_is (a s : Int) (b : Bool) (h : mayB a s = b) (w : World) : Calls Try.prog 15 #[.agg #[.int .i64 (a), .int .i64 (s)]] w fun e w' => e = .returned (.bool b) ∧ Ext w w' := by
  rw [← h]; exact may_any a s w
theorem refmay_is (a s : Int) (b : Bool) (h : mayB a s = b) (w : World) : Calls Try.prog 67 #[.agg #[.int .i64 (a), .int .i64 (s)]] w fun e w' => e = .returned (.bool b) ∧ Ext w w' := by
  rw [← h]; exact refmay_any a s w
theorem refhas_is (a s p : Int) (b : Bool) (h : hasB a s p = b) (w : World) : Calls Try.prog 149 #[.agg #[.int .i64 (a), .int .i64 (s)], .int .i64 p] w fun e w' => e = .returned (.bool b) ∧ Ext w w' := by
  rw [← h]; exact refhas_any a s p w
theorem end_is (a s : Int) (h : mayB a s = true) (w : World) : Calls Try.prog 111 #[.agg #[.int .i64 (a), .int .i64 (s)]] w fun e w' => e = .returned (.int .i64 (a + s)) ∧ Ext w w' := by
  have := may_bd h
  have h2 := end_any a s w
  rw [IntWalk.wrap64_in (a + s) ⟨by omega, by omega⟩] at h2
  exact h2

set_option maxHeartbeats 2000000 in
theorem meets_any (a s c d : Int) (w : World) :
    Calls Try.prog 94 #[.agg #[.int .i64 (a), .int .i64 (s)], .agg #[.int .i64 (c), .int .i64 (d)]] w fun e w' => e = .returned (.bool (meetsB a s c d)) ∧ Ext w w' := by
  go_enter Try.func94, Try.ntmps94
  go_wp2_with fail
  have hW : Ext w ((w.alloc (.cells #[.int .i64 a, .int .i64 s] 23)).alloc (.cells #[.int .i64 c, .int .i64 d] 23)) := ((Ext.refl w).alloc _).alloc _
  have k0 := boxed w #[.int .i64 a, .int .i64 s] 23 0 (.int .i64 a) rfl
  have k1 := boxed w #[.int .i64 a, .int .i64 s] 23 1 (.int .i64 s) rfl
  have k2 := boxed (w.alloc (.cells #[.int .i64 a, .int .i64 s] 23)) #[.int .i64 c, .int .i64 d] 23 0 (.int .i64 c) rfl
  have k3 := boxed (w.alloc (.cells #[.int .i64 a, .int .i64 s] 23)) #[.int .i64 c, .int .i64 d] 23 1 (.int .i64 d) rfl
  replace k0 : ∀ w', Ext ((w.alloc (.cells #[.int .i64 a, .int .i64 s] 23)).alloc (.cells #[.int .i64 c, .int .i64 d] 23)) w' → _ := fun w' h => k0 w' (((Ext.refl _).alloc _).trans h)
  replace k1 : ∀ w', Ext ((w.alloc (.cells #[.int .i64 a, .int .i64 s] 23)).alloc (.cells #[.int .i64 c, .int .i64 d] 23)) w' → _ := fun w' h => k1 w' (((Ext.refl _).alloc _).trans h)
  simp only [World.size_alloc] at k2 k3
  generalize (w.alloc (.cells #[.int .i64 a, .int .i64 s] 23)).alloc (.cells #[.int .i64 c, .int .i64 d] 23) = W at *
  have hs0 : Ext W W := Ext.refl W
  have l0 := fun u : ExtOf W => k0 u.1 u.2
  have l1 := fun u : ExtOf W => k1 u.1 u.2
  have l2 := fun u : ExtOf W => k2 u.1 u.2
  have l3 := fun u : ExtOf W => k3 u.1 u.2
  clear k0 k1 k2 k3
  cases h1 : mayB a s
  · have H := Lib.hid (meets_no1 (c := c) (d := d) h1)
    (refine wp_region_ext (W := W) (by kernel_rfl) (by kernel_rfl) (by with_reducible assumption) ?_; (repeat (go_big_quiet_step (first | (go_at_call 15; with_reducible exact Calls.ext_of (may_is a s _ h1 _))))); refine wpQuiet_nil ?_; intro w1 hx)
    go_wp2_with fail
    go_ret
    exact ⟨ret_bool (by rw [H.out]), hW.trans (by assumption)⟩
  cases h2 : mayB c d
  · have H := Lib.hid (meets_no2 (a := a) (s := s) h2)
    (refine wp_region_ext (W := W) (by kernel_rfl) (by kernel_rfl) (by with_reducible assumption) ?_; (repeat (go_big_quiet_step (first | (go_at_call 15; with_reducible exact Calls.ext_of (may_is a s _ h1 _)) | (go_at_call 15; with_reducible exact Calls.ext_of (may_is c d _ h2 _))))); refine wpQuiet_nil ?_; intro w1 hx)
    go_wp2_with fail
    go_ret
    exact ⟨ret_bool (by rw [H.out]), hW.trans (by assumption)⟩
  have HE := Lib.hid (meets_alt h1 h2)
  obtain ⟨q1, q2, q3, q4⟩ := may_bd h1
  obtain ⟨q5, q6, q7, q8⟩ := may_bd h2
  by_cases t1 : a < c + d
  rotate_left
  · have t1' : decide (a < c + d) = false := by simpa using t1
    have H : Hid (meetsB a s c d = false) := Lib.hid (by rw [HE.out, t1']; rfl)
    (refine wp_region_ext (W := W) (by kernel_rfl) (by kernel_rfl) (by with_reducible assumption) ?_; (repeat (go_big_quiet_step (first | (go_at_call 15; with_reducible exact Calls.ext_of (may_is a s _ h1 _)) | (go_at_call 15; with_reducible exact Calls.ext_of (may_is c d _ h2 _)) | (go_at_call 111; with_reducible exact Calls.ext_of (end_is c d h2 _))))); refine wpQuiet_nil ?_; intro w1 hx)
    go_wp2_with fail
    go_ret
    exact ⟨ret_bool (by rw [H.out]), hW.trans (by assumption)⟩
  have t1' : decide (a < c + d) = true := by simpa using t1
  by_cases t2 : c < a + s
  rotate_left
  · have t2' : decide (c < a + s) = false := by simpa using t2
    have H : Hid (meetsB a s c d = false) := Lib.hid (by rw [HE.out, t1', t2']; rfl)
    (refine wp_region_ext (W := W) (by kernel_rfl) (by kernel_rfl) (by with_reducible assumption) ?_; (repeat (go_big_quiet_step (first | (go_at_call 15; with_reducible exact Calls.ext_of (may_is a s _ h1 _)) | (go_at_call 15; with_reducible exact Calls.ext_of (may_is c d _ h2 _)) | (go_at_call 111; with_reducible exact Calls.ext_of (end_is c d h2 _)) | (go_at_call 111; with_reducible exact Calls.ext_of (end_is a s h1 _))))); refine wpQuiet_nil ?_; intro w1 hx)
    go_wp2_with fail
    go_ret
    exact ⟨ret_bool (by rw [H.out]), hW.trans (by assumption)⟩
  · have t2' : decide (c < a + s) = true := by simpa using t2
    have H : Hid (meetsB a s c d = true) := Lib.hid (by rw [HE.out, t1', t2']; rfl)
    (refine wp_region_ext (W := W) (by kernel_rfl) (by kernel_rfl) (by with_reducible assumption) ?_; (repeat (go_big_quiet_step (first | (go_at_call 15; with_reducible exact Calls.ext_of (may_is a s _ h1 _)) | (go_at_call 15; with_reducible exact Calls.ext_of (may_is c d _ h2 _)) | (go_at_call 111; with_reducible exact Calls.ext_of (end_is c d h2 _)) | (go_at_call 111; with_reducible exact Calls.ext_of (end_is a s h1 _))))); refine wpQuiet_nil ?_; intro w1 hx)
    go_wp2_with fail
    go_ret
    exact ⟨ret_bool (by rw [H.out]), hW.trans (by assumption)⟩

theorem within_no1 {a s c d : Int} (h1 : mayB a s = false) : withinB a s c d = false := by unfold withinB; simp [h1]
theorem within_no2 {a s c d : Int} (h1 : mayB c d = false) : withinB a s c d = false := by unfold withinB; simp [h1]
theorem within_alt {a s c d : Int} (h1 : mayB a s = true) (h2 : mayB c d = true) : withinB a s c d = (decide (c ≤ a) && decide (a + s ≤ c + d)) := by
  unfold withinB
  rw [h1, h2, Bool.eq_iff_iff]
  simp
theorem within_ref {a s c d : Int} (h1 : mayB a s = true) (h2 : mayB c d = true) : withinB a s c d = (hasB c d a && hasB c d (a + s - 1)) := by
  have := may_bd h1
  have := may_bd h2
  unfold withinB hasB
  rw [h1, h2, Bool.eq_iff_iff]
  simp
  omega

set_option maxHeartbeats 2000000 in
theorem within_any (a s c d : Int) (w : World) :
    Calls Try.prog 93 #[.agg #[.int .i64 (a), .int .i64 (s)], .agg #[.int .i64 (c), .int .i64 (d)]] w fun e w' => e = .returned (.bool (withinB a s c d)) ∧ Ext w w' := by
  go_enter Try.func93, Try.ntmps93
  go_wp2_with fail
  have hW : Ext w ((w.alloc (.cells #[.int .i64 a, .int .i64 s] 23)).alloc (.cells #[.int .i64 c, .int .i64 d] 23)) := ((Ext.refl w).alloc _).alloc _
  have k0 := boxed w #[.int .i64 a, .int .i64 s] 23 0 (.int .i64 a) rfl
  have k1 := boxed w #[.int .i64 a, .int .i64 s] 23 1 (.int .i64 s) rfl
  have k2 := boxed (w.alloc (.cells #[.int .i64 a, .int .i64 s] 23)) #[.int .i64 c, .int .i64 d] 23 0 (.int .i64 c) rfl
  have k3 := boxed (w.alloc (.cells #[.int .i64 a, .int .i64 s] 23)) #[.int .i64 c, .int .i64 d] 23 1 (.int .i64 d) rfl
  replace k0 : ∀ w', Ext ((w.alloc (.cells #[.int .i64 a, .int .i64 s] 23)).alloc (.cells #[.int .i64 c, .int .i64 d] 23)) w' → _ := fun w' h => k0 w' (((Ext.refl _).alloc _).trans h)
  replace k1 : ∀ w', Ext ((w.alloc (.cells #[.int .i64 a, .int .i64 s] 23)).alloc (.cells #[.int .i64 c, .int .i64 d] 23)) w' → _ := fun w' h => k1 w' (((Ext.refl _).alloc _).trans h)
  simp only [World.size_alloc] at k2 k3
  generalize (w.alloc (.cells #[.int .i64 a, .int .i64 s] 23)).alloc (.cells #[.int .i64 c, .int .i64 d] 23) = W at *
  have hs0 : Ext W W := Ext.refl W
  have l0 := fun u : ExtOf W => k0 u.1 u.2
  have l1 := fun u : ExtOf W => k1 u.1 u.2
  have l2 := fun u : ExtOf W => k2 u.1 u.2
  have l3 := fun u : ExtOf W => k3 u.1 u.2
  clear k0 k1 k2 k3
  cases h1 : mayB a s
  · have H := Lib.hid (within_no1 (c := c) (d := d) h1)
    (refine wp_region_ext (W := W) (by kernel_rfl) (by kernel_rfl) (by with_reducible assumption) ?_; (repeat (go_big_quiet_step (first | (go_at_call 15; with_reducible exact Calls.ext_of (may_is a s _ h1 _))))); refine wpQuiet_nil ?_; intro w1 hx)
    go_wp2_with fail
    go_ret
    exact ⟨ret_bool (by rw [H.out]), hW.trans (by assumption)⟩
  cases h2 : mayB c d
  · have H := Lib.hid (within_no2 (a := a) (s := s) h2)
    (refine wp_region_ext (W := W) (by kernel_rfl) (by kernel_rfl) (by with_reducible assumption) ?_; (repeat (go_big_quiet_step (first | (go_at_call 15; with_reducible exact Calls.ext_of (may_is a s _ h1 _)) | (go_at_call 15; with_reducible exact Calls.ext_of (may_is c d _ h2 _))))); refine wpQuiet_nil ?_; intro w1 hx)
    go_wp2_with fail
    go_ret
    exact ⟨ret_bool (by rw [H.out]), hW.trans (by assumption)⟩
  have HE := Lib.hid (within_alt h1 h2)
  obtain ⟨q1, q2, q3, q4⟩ := may_bd h1
  obtain ⟨q5, q6, q7, q8⟩ := may_bd h2
  by_cases t1 : c ≤ a
  rotate_left
  · have t1' : decide (c ≤ a) = false := by simpa using t1
    have H : Hid (withinB a s c d = false) := Lib.hid (by rw [HE.out, t1']; rfl)
    (refine wp_region_ext (W := W) (by kernel_rfl) (by kernel_rfl) (by with_reducible assumption) ?_; (repeat (go_big_quiet_step (first | (go_at_call 15; with_reducible exact Calls.ext_of (may_is a s _ h1 _)) | (go_at_call 15; with_reducible exact Calls.ext_of (may_is c d _ h2 _))))); refine wpQuiet_nil ?_; intro w1 hx)
    go_wp2_with fail
    go_ret
    exact ⟨ret_bool (by rw [H.out]), hW.trans (by assumption)⟩
  have t1' : decide (c ≤ a) = true := by simpa using t1
  by_cases t2 : a + s ≤ c + d
  rotate_left
  · have t2' : decide (a + s ≤ c + d) = false := by simpa using t2
    have H : Hid (withinB a s c d = false) := Lib.hid (by rw [HE.out, t1', t2']; rfl)
    (refine wp_region_ext (W := W) (by kernel_rfl) (by kernel_rfl) (by with_reducible assumption) ?_; (repeat (go_big_quiet_step (first | (go_at_call 15; with_reducible exact Calls.ext_of (may_is a s _ h1 _)) | (go_at_call 15; with_reducible exact Calls.ext_of (may_is c d _ h2 _)) | (go_at_call 111; with_reducible exact Calls.ext_of (end_is c d h2 _)) | (go_at_call 111; with_reducible exact Calls.ext_of (end_is a s h1 _))))); refine wpQuiet_nil ?_; intro w1 hx)
    go_wp2_with fail
    go_ret
    exact ⟨ret_bool (by rw [H.out]), hW.trans (by assumption)⟩
  · have t2' : decide (a + s ≤ c + d) = true := by simpa using t2
    have H : Hid (withinB a s c d = true) := Lib.hid (by rw [HE.out, t1', t2']; rfl)
    (refine wp_region_ext (W := W) (by kernel_rfl) (by kernel_rfl) (by with_reducible assumption) ?_; (repeat (go_big_quiet_step (first | (go_at_call 15; with_reducible exact Calls.ext_of (may_is a s _ h1 _)) | (go_at_call 15; with_reducible exact Calls.ext_of (may_is c d _ h2 _)) | (go_at_call 111; with_reducible exact Calls.ext_of (end_is c d h2 _)) | (go_at_call 111; with_reducible exact Calls.ext_of (end_is a s h1 _))))); refine wpQuiet_nil ?_; intro w1 hx)
    go_wp2_with fail
    go_ret
    exact ⟨ret_bool (by rw [H.out]), hW.trans (by assumption)⟩

set_option maxHeartbeats 2000000 in
theorem refwithin_any (a s c d : Int) (w : World) :
    Calls Try.prog 112 #[.agg #[.int .i64 (a), .int .i64 (s)], .agg #[.int .i64 (c), .int .i64 (d)]] w fun e w' => e = .returned (.bool (withinB a s c d)) ∧ Ext w w' := by
  go_enter Try.func112, Try.ntmps112
  go_wp2_with fail
  have hW : Ext w ((w.alloc (.cells #[.int .i64 a, .int .i64 s] 23)).alloc (.cells #[.int .i64 c, .int .i64 d] 23)) := ((Ext.refl w).alloc _).alloc _
  have k0 := boxed w #[.int .i64 a, .int .i64 s] 23 0 (.int .i64 a) rfl
  have k1 := boxed w #[.int .i64 a, .int .i64 s] 23 1 (.int .i64 s) rfl
  have k2 := boxed (w.alloc (.cells #[.int .i64 a, .int .i64 s] 23)) #[.int .i64 c, .int .i64 d] 23 0 (.int .i64 c) rfl
  have k3 := boxed (w.alloc (.cells #[.int .i64 a, .int .i64 s] 23)) #[.int .i64 c, .int .i64 d] 23 1 (.int .i64 d) rfl
  replace k0 : ∀ w', Ext ((w.alloc (.cells #[.int .i64 a, .int .i64 s] 23)).alloc (.cells #[.int .i64 c, .int .i64 d] 23)) w' → _ := fun w' h => k0 w' (((Ext.refl _).alloc _).trans h)
  replace k1 : ∀ w', Ext ((w.alloc (.cells #[.int .i64 a, .int .i64 s] 23)).alloc (.cells #[.int .i64 c, .int .i64 d] 23)) w' → _ := fun w' h => k1 w' (((Ext.refl _).alloc _).trans h)
  simp only [World.size_alloc] at k2 k3
  generalize (w.alloc (.cells #[.int .i64 a, .int .i64 s] 23)).alloc (.cells #[.int .i64 c, .int .i64 d] 23) = W at *
  have hs0 : Ext W W := Ext.refl W
  have HE := Lib.hid (fun (h1 : mayB a s = true) (h2 : mayB c d = true) => within_ref h1 h2)
  have HS := Lib.hid (fun (h1 : mayB a s = true) => (by have := may_bd h1; exact ⟨IntWalk.wrap64_in _ ⟨by omega, by omega⟩, IntWalk.wrap64_in _ ⟨by omega, by omega⟩⟩ : wrap64 (a + s) = a + s ∧ wrap64 (a + s - 1) = a + s - 1))
  have HN1 := Lib.hid (@within_no1 a s c d)
  have HN2 := Lib.hid (@within_no2 a s c d)
  cases h1 : mayB a s
  · go_wp2_with (first | (go_at_call 67; refine (refmay_is a s _ h1 _).mono ?_; rintro e w1 ⟨rfl, hx0⟩; have hx := Ext.trans (a := W) (by with_reducible assumption) hx0; clear hx0))
    go_ret
    exact ⟨ret_bool (by rw [HN1.out h1]), hW.trans (by assumption)⟩
  cases h2 : mayB c d
  · go_wp2_with fail
    refine (refmay_is a s _ h1 _).mono ?_
    rintro e w1 ⟨rfl, hx⟩
    go_wp2_with fail
    refine (refmay_is c d _ h2 _).mono ?_
    rintro e w2 ⟨rfl, hx2⟩
    have hx' := hx.trans hx2
    clear hx hx2
    go_wp2_with fail
    go_ret
    exact ⟨ret_bool (by rw [HN2.out h2]), hW.trans (by assumption)⟩
  obtain ⟨s1, s2⟩ := HS.out h1
  obtain ⟨q1, q2, q3, q4⟩ := may_bd h1
  have step : ∀ b1 b2, hasB c d a = b1 → hasB c d (a + s - 1) = b2 → withinB a s c d = (b1 && b2) := fun b1 b2 e1 e2 => by rw [HE.out h1 h2, e1, e2]
  have HE := Lib.hid step
  clear step
  go_wp2_with fail
  refine (refmay_is a s _ h1 _).mono ?_
  rintro e w1 ⟨rfl, hx⟩
  go_wp2_with fail
  refine (refmay_is c d _ h2 _).mono ?_
  rintro e w2 ⟨rfl, hx2⟩
  have hx' := hx.trans hx2
  clear hx hx2 h1 h2
  go_wp2_with fail
  generalize hb1 : hasB c d a = b1
  generalize hb2 : hasB c d (a + s - 1) = b2
  have H1 := Lib.hid hb1
  have H2 := Lib.hid hb2
  clear hb1 hb2
  refine (refhas_is c d a b1 H1.out _).mono ?_
  rintro e w2 ⟨rfl, hx2⟩
  have hx := hx'.trans hx2
  clear hx' hx2
  cases b1
  · go_wp2_with fail
    go_ret
    exact ⟨ret_bool (by rw [HE.out _ _ H1.out H2.out]; rfl), hW.trans (by assumption)⟩
  · go_wp2_with fail
    refine (refhas_is c d (a + s - 1) b2 H2.out _).mono ?_
    rintro e w2 ⟨rfl, hx2⟩
    have hx' := hx.trans hx2
    clear hx hx2
    go_wp2_with fail
    go_ret
    exact ⟨ret_bool (by rw [HE.out _ _ H1.out H2.out]; rfl), hW.trans (by assumption)⟩
end Go.Proofs.Ytkcpfimhbogdcaa

