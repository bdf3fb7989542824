/- A map of numbers to numbers that a call makes itself: looked up, written. -/
import Derived.Test.YtidfibheehcdgaaGraR
import Derived.Maps.Own
import Derived.Maps.OwnOps
import Derived.Maps.OwnSet
import Derived.Maps.Views
set_option linter.unusedSimpArgs false
set_option linter.unusedVariables false
namespace Go.Proofs.Ytidfibheehcdgaa
open Go.RowKit Go.Shelf Go.Maps

theorem intKeyed : Keyed Try.prog 3 := int_keyed Try.underlying3
theorem zeroInt (w : World) : (zeroValue 3).run Try.prog w = .ok (.int .i64 0) w := by kernel_rfl
def keyI (x : Int) : Lit := .int .i64 x
/-- Block b is a map of at most n entries: f tells what is where. -/
def MapOf (w : World) (b n : Nat) (f : Int → Option Int) : Prop :=
  ∃ D : DataW Unit, w.ownsMap Try.prog 3 (plainElem Try.prog 3) b n D ∧ IsMap D ∧ ∀ x, Maps.has D (keyI x) = (f x).isSome ∧ D.atKey (keyI x) (.lit (.int .i64 0)) = .lit (.int .i64 ((f x).getD 0))
section
variable {w w' : World} {b n : Nat} {f : Int → Option Int}
theorem MapOf.made (w : World) : MapOf (w.alloc (.map #[] 0)) w.heap.size 0 (fun _ => none) :=
  ⟨.map [], World.ownsMap_made _ _ _ _, isMap_empty, fun x => ⟨rfl, rfl⟩⟩
theorem MapOf.lt (h : MapOf w b n f) : b < w.heap.size := by obtain ⟨D, h1, _⟩ := h; exact h1.lt
theorem MapOf.kept {row : Option Nat} (h : MapOf w b n f) (hg : w.grownBy w' row) (hne : some b ≠ row) : MapOf w' b n f := by
  obtain ⟨D, h1, h2⟩ := h; exact ⟨D, h1.kept hg hne, h2⟩
theorem MapOf.ext (h : MapOf w b n f) (hx : Ext w w') : MapOf w' b n f := by
  obtain ⟨D, ⟨es, clock, hb, r⟩, h2⟩ := h
  exact ⟨D, ⟨es, clock, (hx.block (Array.getElem?_eq_some_iff.1 hb).1).trans hb, r⟩, h2⟩
theorem MapOf.setCell (h : MapOf w b n f) {a : Addr} (ha : b ≠ a.block) (u : Value) : MapOf (w.setCell a u) b n f := by
  obtain ⟨D, h1, h2⟩ := h; exact ⟨D, h1.setCell ha u, h2⟩
variable {ops : Array Oper} {rest : List Oper} {o : Oper} {a : Act} {Q : Exit → Act → World → Prop}
theorem wpList_map_look (hg : o.guard = none) (m x : Operand) (hop : o.op = Op.lookup 54 m x true) (h : MapOf w b n f) (hm : a.eval m = .map (some b)) (k : Int) (hx : a.eval x = .int .i64 k) (hk : (Lit.int .i64 k).wf = true)
    (hK : wpList Try.prog ops Q rest (a.put o.dst (.tuple #[.int .i64 ((f k).getD 0), .bool (f k).isSome])) w) : wpList Try.prog ops Q (o :: rest) a w := by
  obtain ⟨D, h1, h2, h3⟩ := h
  refine wpList_lookup_own_ok_int w hg m x 54 hop 3 3 .i64 intKeyed Try.underlying54 Try.underlying3 (zeroInt w) b n D hm h1 (.int .i64 k) (keyI k) hx (keyOf_int_mk Try.underlying3 hk) ?_
  intro c hat hwc
  obtain ⟨e1, e2⟩ := h3 k
  rw [e2] at hat
  injection hat with hat
  injection hat with _ hat
  rw [← hat, e1]
  exact hK
theorem wpList_map_put (hg : o.guard = none) (m x v : Operand) (hop : o.op = Op.mapUpdate 54 m x v) (h : MapOf w b n f) (hm : a.eval m = .map (some b)) (hn : n < maxLen) (k c : Int) (hx : a.eval x = .int .i64 k) (hv : a.eval v = .int .i64 c) (hk : (Lit.int .i64 k).wf = true) (hc : (Lit.int .i64 c).wf = true)
    (hK : ∀ w', MapOf w' b (n + 1) (fun y => if y = k then some c else f y) → w.grownBy w' (some b) → wpList Try.prog ops Q rest (a.put o.dst undef) w') : wpList Try.prog ops Q (o :: rest) a w := by
  obtain ⟨D, h1, h2, h3⟩ := h
  refine wpList_mapUpdate_own w hg m x v 54 hop 3 3 intKeyed Try.underlying54 (plainElem Try.prog 3) b n D hm h1 hn (.int .i64 k) (.int .i64 c) (keyI k) hx hv (keyOf_int_mk Try.underlying3 hk) (.lit (.int .i64 c)) [] (plainElem_int Try.underlying3 hc) ?_
  intro w' ho hgr
  refine hK w' ⟨_, ho, h2.put _ _, fun y => ?_⟩ hgr
  by_cases hy : y = k
  · subst hy
    simp only [if_true]
    exact ⟨has_put_same h2 (show WideAt.IsKeyLit (keyI y) from trivial) _, atKey_put_same h2 (show WideAt.IsKeyLit (keyI y) from trivial) _ _⟩
  · simp only [if_neg hy]
    have hne : keyI y ≠ keyI k := fun e => hy (by injection e)
    rw [has_put_other hne, atKey_put_other hne]
    exact h3 y
end
end Go.Proofs.Ytidfibheehcdgaa
