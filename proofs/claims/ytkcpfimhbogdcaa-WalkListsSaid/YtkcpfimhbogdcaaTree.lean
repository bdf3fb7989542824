/- A region that draws its order, whose head only reads, and of whose other operations several may come up at once: all orders, as a tree. Of no program. -/
import Derived.Test.YtkcpfimhbogdcaaExact
set_option linter.unusedSimpArgs false
set_option linter.unusedVariables false
namespace Go.Proofs.Ytkcpfimhbogdcaa
open Go.RowKit

/-- Which operation comes up, and what then: n levels. -/
@[reducible] def Tr : Nat → Type
  | 0 => Unit
  | n + 1 => List (Nat × Tr n)
section
variable {P : Program} {ops : Array Oper} {md : Region.Mode} {Q : Exit → Act → World → Prop} {S : World → Prop}
def trB (md : Region.Mode) (ops : Array Oper) (tl : List Nat) : (n : Nat) → Tr n → Array Bool → Bool
  | 0, _, listed => seqNB md ops tl listed
  | n + 1, cs, listed => !(Region.ready md ops listed).isEmpty && (Region.ready md ops listed).all fun i => List.any (α := Nat × Tr n) cs fun c => decide (c.1 = i) && decide (i ∉ tl) && trB md ops tl n c.2 (listed.setIfInBounds i true)
/-- One operation, S shown behind it; then R. -/
def OpThen (P : Program) (ops : Array Oper) (Q : Exit → Act → World → Prop) (S : World → Prop) (o : Oper) (R : Act → World → Prop) (a : Act) (w : World) : Prop :=
  if Region.wanted o (yielded ops a.tmps) then o.wp P a w (fun a' w' => S w' ∧ R a' w') Q ∨ (o.asks P a w ∧ LetsOut Q) else S w ∧ R (a.put o.dst undef) w
def TrWalk (P : Program) (ops : Array Oper) (Q : Exit → Act → World → Prop) (S : World → Prop) (l tl : List Oper) : (n : Nat) → Tr n → Act → World → Prop
  | 0, _, a, w => wpList P ops Q tl a w
  | n + 1, cs, a, w => ∀ c : Nat × Tr n, List.Mem c cs → OpThen P ops Q S (l.getD c.1 default) (TrWalk P ops Q S l tl n c.2) a w
theorem op_step {o : Oper} {R : Act → World → Prop} {a : Act} {w : World} (hw : Region.wanted o (yielded ops a.tmps) = true) (h : ∀ K : Act → World → Prop, (∀ a' w', S w' → R a' w' → K a' w') → o.wp P a w K Q) : OpThen P ops Q S o R a w := by
  simp only [OpThen, hw, if_true]
  exact .inl (h _ fun _ _ h1 h2 => ⟨h1, h2⟩)
theorem tr_nil {l tl : List Oper} {a : Act} {w : World} (h : wpList P ops Q tl a w) : TrWalk P ops Q S l tl 0 () a w := h
theorem tr_one {l tl : List Oper} {n i : Nat} {t : Tr n} {a : Act} {w : World} (h : OpThen P ops Q S (l.getD i default) (TrWalk P ops Q S l tl n t) a w) : TrWalk P ops Q S l tl (n + 1) [(i, t)] a w := by
  intro c hc
  rcases List.mem_singleton.1 hc with rfl
  exact h
theorem tr_two {l tl : List Oper} {n i j : Nat} {t u : Tr n} {a : Act} {w : World} (h : OpThen P ops Q S (l.getD i default) (TrWalk P ops Q S l tl n t) a w) (h2 : OpThen P ops Q S (l.getD j default) (TrWalk P ops Q S l tl n u) a w) :
    TrWalk P ops Q S l tl (n + 1) [(i, t), (j, u)] a w := by
  intro c hc
  rcases List.mem_cons.1 hc with rfl | hc
  · exact h
  · rcases List.mem_singleton.1 hc with rfl
    exact h2
theorem tr_three {l tl : List Oper} {n i j k : Nat} {t u v : Tr n} {a : Act} {w : World} (h : OpThen P ops Q S (l.getD i default) (TrWalk P ops Q S l tl n t) a w) (h2 : OpThen P ops Q S (l.getD j default) (TrWalk P ops Q S l tl n u) a w)
    (h3 : OpThen P ops Q S (l.getD k default) (TrWalk P ops Q S l tl n v) a w) : TrWalk P ops Q S l tl (n + 1) [(i, t), (j, u), (k, v)] a w := by
  intro c hc
  rcases List.mem_cons.1 hc with rfl | hc
  · exact h
  rcases List.mem_cons.1 hc with rfl | hc
  · exact h2
  · rcases List.mem_singleton.1 hc with rfl
    exact h3
theorem G_tree {l : List Oper} {tl : List Nat} (hops : ops = l.toArray) : ∀ (n : Nat) (t : Tr n) (listed : Array Bool) (a : Act) (w : World), trB md ops tl n t listed = true → TrWalk P ops Q S l (opsOf l tl) n t a w → wpAnyG P md ops Q S tl (n + tl.length) listed a w := by
  intro n
  induction n with
  | zero =>
    intro _ listed a w hB h
    rw [Nat.zero_add]
    exact G_tail hops tl listed a w (fun _ h => h) hB h
  | succ n ih =>
    intro t listed a w hB h
    simp only [trB, Bool.and_eq_true, Bool.not_eq_true', List.all_eq_true, List.any_eq_true, decide_eq_true_eq] at hB
    obtain ⟨h0, hall⟩ := hB
    rw [Nat.add_right_comm]
    refine ⟨fun h1 => (by rw [h1] at h0; simp at h0), fun j hj => ?_⟩
    obtain ⟨c, hc, ⟨rfl, hnt⟩, hB'⟩ := hall j hj
    have h0 := get_of_ready hj
    have e : ops.getD c.1 default = l.getD c.1 default := by subst hops; simp
    have hw : wpOp P ops Q c.1 (fun a' w' => S w' ∧ TrWalk P ops Q S l (opsOf l tl) n c.2 a' w') a w := by
      unfold wpOp
      simp only [h0]
      rw [e]
      exact h c hc
    exact wpOp_mono (fun a' w' h' => ⟨fun _ => h'.1, ih _ _ a' w' hB' h'.2⟩) hw
theorem G_exactN {l : List Oper} {n : Nat} {next : Array Bool → Bool} {N : Act → World → Prop} {tl : List Nat} (hops : ops = l.toArray) (hsel : Region.noSelect ops = true) (hQ : ∀ c (a : Act) d v w, Q (.panic c) (a.put d v) w → Q (.panic c) a w)
    (hN : ∀ listed a w, next listed = true → N a w → wpAnyG P md ops Q S tl n listed a w) :
    ∀ (hd : List Nat) (listed : Array Bool) (a : Act) (w : World), Closed md ops listed → headB md ops tl next (hd.map fun i => (i, true)) listed = true → S w →
      wpQuiet P ops S (fun a' => N a' w) (opsOf l hd) a → wpAnyG P md ops Q S tl (hd.length + n) listed a w := by
  intro hd
  induction hd with
  | nil =>
    intro listed a w hc hB hx h
    rw [List.length_nil, Nat.zero_add]
    exact hN _ _ _ hB h
  | cons i hd ih =>
    intro listed a w hc hB hx h
    rw [List.length_cons, Nat.add_right_comm]
    have e : ops.getD i default = l.getD i default := by subst hops; simp
    obtain ⟨v, hy, hrest⟩ := yields_of_quiet (o := l.getD i default) (rest := opsOf l hd) h
    simp only [List.map_cons, headB, Bool.and_eq_true] at hB
    obtain ⟨⟨⟨⟨hr, hf⟩, ht⟩, hrd⟩, hB'⟩ := hB
    have hr' : i ∈ Region.ready md ops listed := by simpa using hr
    have h0 := get_of_ready hr'
    rw [e] at h0 hrd
    refine G_first (n := ops.size) h0 (Region.noSelect_spec hsel) (fun c a w => hQ c a _ _ w) (fun j hj => List.all_eq_true.1 ht j hj) _ listed a w hc (Region.free_spec h0 hf) hr' ?_ hx (ih _ _ w (hc.set hr') hB' hx hrest)
    rcases hy with ⟨hw, hq⟩ | ⟨hw, hv⟩
    · exact .inl ⟨hw, fun w' hw' => run_read hrd (hq w' hw')⟩
    · exact .inr ⟨hw, hv⟩
theorem any_tree {a : Act} {w : World} {l : List Oper} (S : World → Prop) (hd : List Nat) (n : Nat) (t : Tr n) (tl : List Nat)
    (hB : (Region.noSelect l.toArray && headB .any l.toArray tl (trB .any l.toArray tl n t) (hd.map fun i => (i, true)) (Array.replicate l.toArray.size false) && decide (hd.length + (n + tl.length) = l.toArray.size)) = true)
    (hQ : ∀ c (a : Act) d v w, Q (.panic c) (a.put d v) w → Q (.panic c) a w) (hx : S w.drew)
    (h : wpQuiet P l.toArray S (fun a' => TrWalk P l.toArray Q S l (opsOf l tl) n t a' w.drew) (opsOf l hd) a) :
    wpAny P .any l.toArray Q l.toArray.size (Array.replicate l.toArray.size false) a { w with drawn := w.drawn + 1 } := by
  simp only [Bool.and_eq_true, decide_eq_true_eq] at hB
  obtain ⟨⟨hsel, hord⟩, hlen⟩ := hB
  have := G_exactN (P := P) (Q := Q) (S := S) (tl := tl) (n := n + tl.length) (N := fun a' w' => TrWalk P l.toArray Q S l (opsOf l tl) n t a' w') rfl hsel hQ (fun listed a w hB h => G_tree rfl n t listed a w hB h) hd _ a w.drew
    (fun j oj _ hl => (by rw [getD_replicate_false] at hl; cases hl)) hord hx h
  rw [hlen] at this
  exact wpAny_of_G _ _ _ _ this
theorem wp_region_tree {id : Nat} {a : Act} {w : World} {l : List Oper} (S : World → Prop) (hd : List Nat) (n : Nat) (t : Tr n) (tl : List Nat) (hm : P.follows .mixedOrders = true)
    (hB : (Region.noSelect l.toArray && headB .any l.toArray tl (trB .any l.toArray tl n t) (hd.map fun i => (i, true)) (Array.replicate l.toArray.size false) && decide (hd.length + (n + tl.length) = l.toArray.size)) = true)
    (hQ : ∀ c (a : Act) d v w, Q (.panic c) (a.put d v) w → Q (.panic c) a w) (hx : S w.drew)
    (h : wpQuiet P l.toArray S (fun a' => TrWalk P l.toArray Q S l (opsOf l tl) n t a' w.drew) (opsOf l hd) a) :
    (Code.region id l.toArray true).wp P Q a w := wp_region_any hm (any_tree S hd n t tl hB hQ hx h)
end
end Go.Proofs.Ytkcpfimhbogdcaa
