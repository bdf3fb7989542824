/- A region that draws its order, where two operations that lay or are called may come up in either order. Of no program. -/
import Derived.Test.YtkcpfimhbogdcaaSeg
set_option linter.unusedSimpArgs false
set_option linter.unusedVariables false
namespace Go.Proofs.Ytkcpfimhbogdcaa
open Go.RowKit

section
variable {P : Program} {ops : Array Oper} {md : Region.Mode} {Q : Exit → Act → World → Prop} {S : World → Prop} {tl : List Nat}

/-- Is what may come up one of the first numbers, and does the rest stand in one order behind it? -/
def forkB (md : Region.Mode) (ops : Array Oper) (n : Nat) (tl : List Nat) (ts : List (Nat × List Nat)) (listed : Array Bool) : Bool :=
  !(Region.ready md ops listed).isEmpty && (Region.ready md ops listed).all fun i => ts.any fun t => decide (t.1 = i) && decide (t.2.length = n) && seqNB md ops (t.2 ++ tl) (listed.setIfInBounds i true)
theorem G_fork {l : List Oper} {n : Nat} {ts : List (Nat × List Nat)} (hops : ops = l.toArray) (listed : Array Bool) (a : Act) (w : World) (hB : forkB md ops n tl ts listed = true)
    (h : ∀ t ∈ ts, MidWalk P ops Q S (opsOf l tl) (opsOf l (t.1 :: t.2)) a w) : wpAnyG P md ops Q S tl (n + tl.length + 1) listed a w := by
  simp only [forkB, Bool.and_eq_true, Bool.not_eq_true', List.all_eq_true, List.any_eq_true, decide_eq_true_eq] at hB
  obtain ⟨h0, hall⟩ := hB
  refine ⟨fun h1 => (by rw [h1] at h0; simp at h0), fun j hj => ?_⟩
  obtain ⟨⟨i, r⟩, ht, ⟨rfl, hn⟩, hs⟩ := hall j hj
  simp only at hn hs hj ⊢
  have h0 := get_of_ready hj
  have e : ops.getD i default = l.getD i default := by subst hops; simp
  have hw : wpOp P ops Q i (fun a' w' => S w' ∧ MidWalk P ops Q S (opsOf l tl) (opsOf l r) a' w') a w := by
    unfold wpOp
    simp only [h0]
    rw [e]
    exact h (i, r) ht
  rw [← hn]
  exact wpOp_mono (fun a' w' h' => ⟨fun _ => h'.1, G_mid hops r _ a' w' hs h'.2⟩) hw

theorem any_fork {W : World} {a : Act} {w : World} {l : List Oper} (hd : List (Nat × Bool)) (n : Nat) (ts : List (Nat × List Nat)) (tl : List Nat)
    (hB : (Region.noSelect l.toArray && headB .any l.toArray tl (forkB .any l.toArray n tl ts) hd (Array.replicate l.toArray.size false) && decide (hd.length + (n + tl.length + 1) = l.toArray.size)) = true)
    (hQ : ∀ c (a : Act) d v w, Q (.panic c) (a.put d v) w → Q (.panic c) a w) (hx : Ext W w)
    (h : wpQuiet P l.toArray (fun w' => ∃ u : ExtOf W, w' = u.1) (fun a' => ∀ t ∈ ts, ∀ w', Ext W w' → MidWalk P l.toArray Q (Ext W) (opsOf l tl) (opsOf l (t.1 :: t.2)) a' w') (opsOf l (hd.map (·.1))) a) :
    wpAny P .any l.toArray Q l.toArray.size (Array.replicate l.toArray.size false) a { w with drawn := w.drawn + 1 } := by
  simp only [Bool.and_eq_true, decide_eq_true_eq] at hB
  obtain ⟨⟨hsel, hord⟩, hlen⟩ := hB
  have := G_quiet (P := P) (Q := Q) (tl := tl) (W := W) (l := l) rfl hsel hQ (n := n + tl.length + 1) (fun listed a w _ hB hx h => G_fork rfl listed a w hB fun t ht => h t ht w hx) hd _ a { w with drawn := w.drawn + 1 }
    (fun j oj _ hl => (by rw [getD_replicate_false] at hl; cases hl)) hord (Ext.drew hx) h
  rw [hlen] at this
  exact wpAny_of_G _ _ _ _ this
theorem wp_region_fork {W : World} {id : Nat} {a : Act} {w : World} {l : List Oper} (hd : List (Nat × Bool)) (n : Nat) (ts : List (Nat × List Nat)) (tl : List Nat) (hm : P.follows .mixedOrders = true)
    (hB : (Region.noSelect l.toArray && headB .any l.toArray tl (forkB .any l.toArray n tl ts) hd (Array.replicate l.toArray.size false) && decide (hd.length + (n + tl.length + 1) = l.toArray.size)) = true)
    (hQ : ∀ c (a : Act) d v w, Q (.panic c) (a.put d v) w → Q (.panic c) a w) (hx : Ext W w)
    (h : wpQuiet P l.toArray (fun w' => ∃ u : ExtOf W, w' = u.1) (fun a' => ∀ t ∈ ts, ∀ w', Ext W w' → MidWalk P l.toArray Q (Ext W) (opsOf l tl) (opsOf l (t.1 :: t.2)) a' w') (opsOf l (hd.map (·.1))) a) :
    (Code.region id l.toArray true).wp P Q a w :=
  wp_region_any hm (any_fork hd n ts tl hB hQ hx h)
theorem all_two {α : Type} {p : α → Prop} {x y : α} (h1 : p x) (h2 : p y) : ∀ t ∈ [x, y], p t := fun t ht => by
  simp only [List.mem_cons, List.not_mem_nil, or_false] at ht
  rcases ht with rfl | rfl
  · exact h1
  · exact h2
end
end Go.Proofs.Ytkcpfimhbogdcaa
