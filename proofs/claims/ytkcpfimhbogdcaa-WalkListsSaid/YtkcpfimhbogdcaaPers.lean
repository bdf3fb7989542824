/- What is known of a world and stays known of all that it grows into. Of no program. -/
import Derived.Test.YtkcpfimhbogdcaaGen
set_option linter.unusedSimpArgs false
set_option linter.unusedVariables false
namespace Go.Proofs.Ytkcpfimhbogdcaa
open Go.RowKit

/-- P of all worlds that W has grown into. -/
def Pers (W : World) (P : World → Prop) : Prop := ∀ w, Ext W w → P w
section
variable {W W1 w : World} {P : World → Prop}
theorem Pers.at (h : Pers W P) (hx : Ext W w) : P w := h w hx
theorem Pers.re (h : Pers W P) (hx : Ext W W1) : Pers W1 P := fun w k => h w (hx.trans k)
theorem Pers.here (h : Pers W P) : P W := h W (Ext.refl W)
theorem pers_row {α : Type} {n : Nat} {f : α → List Value} {A : Option Addr} {xs : List α} (h : RowAt n f W A xs) : Pers W (fun w => RowAt n f w A xs) := fun _ k => h.ext k
theorem pers_own {α : Type} {e : TypeId} {n : Nat} {f : α → List Value} {B : Nat} {v : Value} {xs : List α} (h : Own e n f W B v xs) : Pers W (fun w => Own e n f w B v xs) := fun _ k => h.ext k
theorem pers_blk {b : Nat} {o : Obj} (h : W.heap[b]? = some o) : Pers W (fun w => w.heap[b]? = some o) := fun _ k => (k.block (lt_of_heap h)).trans h
theorem pers_new (w : World) (cs : Array Value) (t : TypeId) (b : Nat) (hb : w.heap.size = b) : Pers (w.alloc (.cells cs t)) (fun w => w.heap[b]? = some (.cells cs t (0, 0))) := pers_blk (blk_new w cs t b hb)
theorem pers_new2 (w : World) (cs : Array Value) (t : TypeId) (b : Nat) (hb : w.heap.size = b) (o2 : Obj) : Pers ((w.alloc (.cells cs t)).alloc o2) (fun w => w.heap[b]? = some (.cells cs t (0, 0))) := pers_blk (blk_old (blk_new w cs t b hb))
theorem Pers.cells {b : Nat} {cs : Array Value} {t : TypeId} (h : Pers W (fun w => w.heap[b]? = some (.cells cs t (0, 0)))) : ∀ (u : ExtOf W) (i : Nat), u.1.cell? ⟨b, i, none⟩ = cs[i]? := fun u i => by
  have := h u.1 u.2
  simp [World.cell?, this]
theorem Pers.frees {b : Nat} {cs : Array Value} {t : TypeId} (h : Pers W (fun w => w.heap[b]? = some (.cells cs t (0, 0)))) : ∀ (u : ExtOf W) (i : Nat), u.1.frozen? ⟨b, i, none⟩ = false := fun u i => by
  have := h u.1 u.2
  simp [World.frozen?, this]
theorem Pers.lt {b : Nat} {o : Obj} (h : Pers W (fun w => w.heap[b]? = some o)) : ∀ u : ExtOf W, b < u.1.heap.size := fun u => lt_of_heap (h u.1 u.2)
theorem ExtOf.ext (u : ExtOf W) : Ext W u.1 := u.2
/-- A walk that stands in W may be thought to stand in some world that W has grown into. -/
theorem at_base {G : World → Prop} (h : ∀ u : ExtOf W, G u.1) : G W := h ⟨W, Ext.refl W⟩
/-- A cell that stays. -/
theorem pers_cell {p : Addr} {v : Value} (h : W.cell? p = some v) : ∀ u : ExtOf W, u.1.cell? p = some v := fun u => u.2.cell h
end
end Go.Proofs.Ytkcpfimhbogdcaa
