/- A slice that a range over a function collects (lines of our text JoinW, at any kind of elements). Of no program. -/
import Derived.Test.YtkcpfimhbogdcaaGen
import Derived.Test.YtkcpfimhbogdcaaRangeK
set_option linter.unusedSimpArgs false
set_option linter.unusedVariables false
namespace Go.Proofs.Ytkcpfimhbogdcaa
open Go.RowKit
attribute [local go_sem] Oper.semAt_some

section
variable {α : Type} {e : TypeId} {n : Nat} {f : α → List Value} {B : Nat} {v : Value} {xs ys : List α} {w w' : World} {P : Program} {t : TypeId} {bytes : Nat} {F : Fence} {m' : Nat}
/-- append inside a fence. -/
theorem wpIn_app {o : Oper} {a : Act} {K : Act → World → Prop} {Q : Exit → Act → World → Prop} (s x : Operand) (t : TypeId)
    (ho : o.op = .call { callee := .builtin .append, args := #[s, x], argTypes := #[t, t] }) (hI : Info P t e n bytes) (hf : Cells n f)
    (hs : a.eval s = v) (hown : Own e n f w B v xs) (ad : Addr) (c : Nat) (ys : List α) (r m : Nat) (hk : xs.length + ys.length = r) (hm : ys.length = m) (hx : a.eval x = .slice (some ad) m c) (hr : RowAt n f w (some ad) ys)
    (hlen : r * bytes ≤ 140737488355328) (h63 : r ≤ maxLen) (hB : B ≤ w.heap.size)
    (h : ∀ A cap w', Own e n f w' B (.slice A r cap) (xs ++ ys) → w.grownBy w' v.ownBlock →
      ((Value.slice A r cap).ownBlock = v.ownBlock ∨ (Value.slice A r cap).ownBlock = some w.heap.size) →
      K (a.put o.dst (.slice A r cap)) w') : o.wpIn F m' P a w K Q := by
  subst hk hm
  obtain ⟨A, cap, w', hr', h2, h3, h4⟩ := run_app hI hf o.type hown ad c hr hlen h63 hB
  unfold Oper.wpIn
  refine ⟨by simp [Oper.about, ho, resolve, Target.leads, Sem.run_pure], ?_⟩
  rw [Oper.semAt_plain F _ _ (by rw [ho]; intro c hc'; cases hc')]
  simp only [execOp, ho, resolve, invoke, builtin, Sem.run_bind, Sem.run_pure, Result.andThen_ok, List.map_toArray, List.map_cons, List.map_nil, hs, hx, hr']
  exact h A cap w' h2 h3 h4
theorem wpListIn_app_lit {ops : Array Oper} {rest : List Oper} {o : Oper} {a : Act} {Q : Exit → Act → World → Prop} (hgd : o.guard = none) (s x : Operand) (t : TypeId)
    (ho : o.op = .call { callee := .builtin .append, args := #[s, x], argTypes := #[t, t] }) (hI : Info P t e n bytes) (hf : Cells n f)
    (hs : a.eval s = v) (hown : Own e n f w B v xs) (ys : List α) (c : Nat) (cs : Array Value) (hcs : cs = (ys.flatMap f).toArray) (r m : Nat) (hk : xs.length + ys.length = r) (hm : ys.length = m) (H : Nat) (hx : a.eval x = .slice (some ⟨H, 0, none⟩) m c) (hH : w.heap.size = H)
    (hlen : r * bytes ≤ 140737488355328) (h63 : r ≤ maxLen) (hB : B ≤ w.heap.size)
    (h : ∀ A cap w', Own e n f w' B (.slice A r cap) (xs ++ ys) → (w.alloc (.cells cs e)).grownBy w' v.ownBlock →
      ((Value.slice A r cap).ownBlock = v.ownBlock ∨ (Value.slice A r cap).ownBlock = some (w.heap.size + 1)) →
      wpListIn F m' P ops Q rest (a.put o.dst (.slice A r cap)) w') : wpListIn F m' P ops Q (o :: rest) a (w.alloc (.cells cs e)) :=
  wpListIn_plain hgd fun _ hK => wpIn_app s x t ho hI hf hs (hown.ext ((Ext.refl _).alloc _)) _ c ys r m hk hm (by rw [hx, ← hH]) (row_lit w cs hcs hf hI.pos) hlen h63 (by simp; omega) fun A cap w' h2 h3 h4 => hK _ _ (h A cap w' h2 h3 (by simpa using h4))
end

/-- A variable of a loop's caller that collects: its box, and what it leads to. -/
structure CollG {α : Type} (e : TypeId) (n : Nat) (f : α → List Value) (n0 Bout : Nat) (t : TypeId) (pre : List α) (W : World) (v : Value) : Prop where
  box : W.heap[Bout]? = some (.cells #[v] t (0, 0))
  own : Own e n f W n0 v pre
section
variable {α : Type} {e : TypeId} {n : Nat} {f : α → List Value} {n0 Bout : Nat} {t : TypeId} {pre : List α} {W W' A B : World} {v : Value}
theorem CollG.cell (h : CollG e n f n0 Bout t pre W v) : W.cell? ⟨Bout, 0, none⟩ = some v ∧ W.frozen? ⟨Bout, 0, none⟩ = false := by
  have := h.box
  constructor <;> simp [World.cell?, World.frozen?, this]
theorem CollG.led (h : CollG e n f n0 Bout t pre W v) (b : Nat) : Led W Bout b ↔ v.ownBlock = some b := by
  unfold Led
  rw [h.cell.1]
  rcases h.own.2 with ⟨rfl, _⟩ | ⟨g, cap, cur, rfl, _⟩
  · simp [Value.ownBlock]
  · simp [Value.ownBlock]
theorem CollG.abI (h : CollG e n f n0 Bout t pre A v) (hB : Bout < n0) (hab : AbI n0 Bout A B) : CollG e n f n0 Bout t pre B v :=
  ⟨(hab.below.block Bout hB).trans h.box, h.own.same fun g cs ty r hg hc => hab.kept g _ hc rfl ((h.led g).2 hg)⟩
theorem CollG.keep (h : CollG e n f n0 Bout t pre A v) (hB : Bout < n0) (hk : ∀ (k : Nat) (o : Obj), A.heap[k]? = some o → o.isCells = true → B.heap[k]? = some o) : CollG e n f n0 Bout t pre B v :=
  ⟨hk Bout _ h.box rfl, h.own.same fun g cs ty r hg hc => hk g _ hc rfl⟩
theorem CollG.ext (h : CollG e n f n0 Bout t pre W v) (hx : Ext W W') : CollG e n f n0 Bout t pre W' v := ⟨(hx.block (lt_of_heap h.box)).trans h.box, h.own.ext hx⟩
theorem CollG.setOther (h : CollG e n f n0 Bout t pre W v) {k i : Nat} (u : Value) (hk : k < n0) (hne : Bout ≠ k) : CollG e n f n0 Bout t pre (W.setCell ⟨k, i, none⟩ u) v :=
  ⟨(Below.heap_setCell W ⟨k, i, none⟩ u Bout hne).trans h.box, h.own.same fun g cs ty r hg hc => (Below.heap_setCell W ⟨k, i, none⟩ u g (fun e => by simp only at e; have := (World.ownsRow.lt h.own g hg).1; omega)).trans hc⟩
/-- What an append and the store behind it do: w1 stands behind the append, W' behind the store. -/
theorem CollG.app (h : CollG e n f n0 Bout t pre W v) (hB : Bout < n0) {nV : Nat} (hV : nV ≤ Bout) {w1 : World} {x : α} {A1 : Option Addr} {r cap1 H : Nat} (hn : n0 ≤ W.heap.size) (hH : W.heap.size ≤ H)
    (hown : Own e n f w1 n0 (.slice A1 r cap1) (pre ++ [x])) (hg : W.grownBy w1 v.ownBlock) (hat : (Value.slice A1 r cap1).ownBlock = v.ownBlock ∨ (Value.slice A1 r cap1).ownBlock = some H) :
    (w1.cell? ⟨Bout, 0, none⟩ = some v ∧ w1.frozen? ⟨Bout, 0, none⟩ = false) ∧ CollG e n f n0 Bout t (pre ++ [x]) (w1.setCell ⟨Bout, 0, none⟩ (.slice A1 r cap1)) (.slice A1 r cap1) ∧
      Kp nV n0 Bout W (w1.setCell ⟨Bout, 0, none⟩ (.slice A1 r cap1)) ∧ KeepsFrom n0 W (w1.setCell ⟨Bout, 0, none⟩ (.slice A1 r cap1)) ∧
      ∀ k, k < W.heap.size → k ≠ Bout → v.ownBlock ≠ some k → (w1.setCell ⟨Bout, 0, none⟩ (.slice A1 r cap1)).heap[k]? = W.heap[k]? := by
  have hlt := lt_of_heap h.box
  have hbo : v.ownBlock ≠ some Bout := fun e => by have := (World.ownsRow.lt h.own _ e).1; omega
  have hb1 : w1.heap[Bout]? = some (.cells #[v] t (0, 0)) := (hg.block Bout hlt (fun e => hbo e.symm)).trans h.box
  have hbo2 : (Value.slice A1 r cap1).ownBlock ≠ some Bout := fun e => by have := (World.ownsRow.lt hown _ e).1; omega
  have hC : CollG e n f n0 Bout t (pre ++ [x]) (w1.setCell ⟨Bout, 0, none⟩ (.slice A1 r cap1)) (.slice A1 r cap1) := by
    refine ⟨?_, hown.same fun g cs ty r' hg' hc => ?_⟩
    · rw [heap_setCell_same w1 Bout 0 _ _ _ hb1]; rfl
    · rw [Below.heap_setCell w1 ⟨Bout, 0, none⟩ _ g (fun e => hbo2 (by rw [hg']; exact congrArg some e))]; exact hc
  refine ⟨⟨by simp [World.cell?, hb1], by simp [World.frozen?, hb1]⟩, hC, ⟨?_, fun k o hk ho hc hl => ?_, fun k hk => ?_⟩, ⟨by simpa using hg.size, fun k o hk ho hc => ?_⟩, fun k hk hne hov => (Below.heap_setCell w1 ⟨Bout, 0, none⟩ _ k hne).trans (hg.block k hk (fun e => hov e.symm))⟩
  · exact ((Below.refl nV W).grown hg (by omega) (fun k e => by have := (World.ownsRow.lt h.own k e).1; omega)).setCell (p := ⟨Bout, 0, none⟩) hV _
  · rw [Below.heap_setCell w1 ⟨Bout, 0, none⟩ _ k (fun e => by simp only at e; omega)]
    exact (hg.block k (lt_of_heap ho) (fun e => hl ((h.led k).2 e.symm))).trans ho
  · rw [hC.led] at hk
    rcases hat with h1 | h1
    · exact .inl ((h.led k).2 (by rw [← h1]; exact hk))
    · rw [h1] at hk
      obtain rfl : H = k := by simpa using hk
      have := (World.ownsRow.lt hC.own H h1).2
      exact .inr ⟨hH, this⟩
  · rw [Below.heap_setCell w1 ⟨Bout, 0, none⟩ _ k (fun e => by simp only at e; omega)]
    refine (hg.block k (lt_of_heap ho) (fun e => ?_)).trans ho
    rcases h.own.2 with ⟨rfl, _⟩ | ⟨g, cap, cur, rfl, _, hgb, _⟩
    · simp [Value.ownBlock] at e
    · obtain rfl : k = g := by simpa [Value.ownBlock] using e
      rw [hgb] at ho; cases ho; cases hc
end
end Go.Proofs.Ytkcpfimhbogdcaa
