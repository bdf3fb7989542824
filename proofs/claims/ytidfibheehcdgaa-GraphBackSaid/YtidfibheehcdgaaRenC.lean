/- What the renumbering loop of the program keeps: a copy of the graph so far, the map, and that the lists lie apart. -/
import Derived.Test.YtidfibheehcdgaaGraS
set_option linter.unusedSimpArgs false
set_option linter.unusedVariables false
namespace Go.Proofs.Ytidfibheehcdgaa
open Go.RowKit Go.Shelf

def blk (c : NodeD) : Option Nat := (Value.slice c.fA c.fields.length c.fcap).ownBlock
/-- No two are one. -/
def Apart (l : List (Option Nat)) : Prop := l.Pairwise fun a b => a = none ∨ a ≠ b
structure RenC (V : World) (Bo : Nat) (g0 g1 : Value) (res : Array Value) (rs : List (Int × Int)) (cs : List NodeD) (v root : Value) (bm n : Nat) (f : Int → Option Int) (wr : World) : Prop where
  base : CopI V Bo g0 g1 res rs cs v root wr
  map : MapOf wr bm n f
  sep : Apart (root.ownBlock :: cs.map blk)
section
variable {V : World} {Bo bm n : Nat} {g0 g1 : Value} {res : Array Value} {rs : List (Int × Int)} {cs : List NodeD} {v root : Value} {f : Int → Option Int} {wr w' : World}
theorem RenC.grow (h : RenC V Bo g0 g1 res rs cs v root bm n f wr) (hx : Ext wr w') : RenC V Bo g0 g1 res rs cs v root bm n f w' := ⟨h.base.grow hx, h.map.ext hx, h.sep⟩
/-- All lists of it lie below the world's end. -/
theorem RenC.lt (h : RenC V Bo g0 g1 res rs cs v root bm n f wr) : ∀ a ∈ root.ownBlock :: cs.map blk, ∀ b, a = some b → b < wr.heap.size := by
  intro a ha b hb
  rcases List.mem_cons.1 ha with rfl | ha
  · exact (World.ownsRow.lt h.base.root b hb).2
  · obtain ⟨c, hc, rfl⟩ := List.mem_map.1 ha
    exact (World.ownsRow.lt (h.base.each c hc).f b hb).2
theorem MapOf.ne_own {α : Type} {e : TypeId} {k : Nat} {g : α → List Value} {B : Nat} {u : Value} {xs : List α} (h : MapOf wr bm n f) (ho : Own e k g wr B u xs) : some bm ≠ u.ownBlock := fun heq => by
  obtain ⟨D, ⟨es, clock, hb, _⟩, _⟩ := h
  rcases ho.2 with ⟨hv, _⟩ | ⟨b2, cap, cur, hv, _, hg2, _⟩
  · rw [hv] at heq; cases heq
  · rw [hv] at heq
    have : bm = b2 := by simpa [Value.ownBlock] using heq
    subst this
    rw [hb] at hg2
    cases hg2
theorem MapOf.ne_cells (h : MapOf wr bm n f) {b : Nat} {ws : Array Value} {t : TypeId} {r : Nat × Nat} (hb : wr.heap[b]? = some (.cells ws t r)) : bm ≠ b := fun e => by
  obtain ⟨D, ⟨es, clock, hb', _⟩, _⟩ := h
  subst e
  rw [hb] at hb'
  cases hb'
/-- A node more: N is the world's end behind which its fields were laid. -/
theorem RenC.app (h : RenC V Bo g0 g1 res rs cs v root bm n f wr) {v' : Value} {x : NodeD} (hown : Own 34 3 nodeC w' V.heap.size v' (cs ++ [x])) (hg : wr.grownBy w' v.ownBlock) (hx : OwnN wr V.heap.size x)
    {N : Nat} (hN : ∀ a ∈ root.ownBlock :: cs.map blk, ∀ b, a = some b → b < N) (hf : ∀ b, blk x = some b → N ≤ b) :
    RenC V Bo g0 g1 res rs (cs ++ [x]) v' root bm n f (w'.setCell ⟨Bo, 0, none⟩ v') := by
  refine ⟨h.base.app hown hg hx, (h.map.kept hg (h.map.ne_own h.base.own)).setCell (h.map.ne_cells h.base.out) _, ?_⟩
  rw [List.map_append, ← List.cons_append]
  refine List.pairwise_append.2 ⟨h.sep, by simp, fun a ha b hb => ?_⟩
  rcases List.mem_singleton.1 hb with rfl
  cases a with
  | none => exact .inl rfl
  | some k =>
    refine .inr fun e => ?_
    have h1 := hN _ ha k rfl
    have h2 := hf k e.symm
    omega
end
end Go.Proofs.Ytidfibheehcdgaa
