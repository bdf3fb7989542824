/- A region that draws its order, whose head only reads: the world stands still there; S is what every operation keeps. Of no program. -/
import Derived.Test.YtkcpfimhbogdcaaFork
set_option linter.unusedSimpArgs false
set_option linter.unusedVariables false
namespace Go.Proofs.Ytkcpfimhbogdcaa
open Go.RowKit

section
variable {P : Program} {ops : Array Oper} {md : Region.Mode} {Q : Exit → Act → World → Prop} {S : World → Prop} {tl : List Nat}

theorem G_exact {l : List Oper} {mid : List Nat} {N : Act → World → Prop} (hops : ops = l.toArray) (hsel : Region.noSelect ops = true) (hQ : ∀ c (a : Act) d v w, Q (.panic c) (a.put d v) w → Q (.panic c) a w)
    (hN : ∀ a w, N a w → MidWalk P ops Q S (opsOf l tl) (opsOf l mid) a w) :
    ∀ (hd : List Nat) (listed : Array Bool) (a : Act) (w : World), Closed md ops listed → ordB md ops mid tl (hd.map fun i => (i, true)) listed = true → S w →
      wpQuiet P ops S (fun a' => N a' w) (opsOf l hd) a → wpAnyG P md ops Q S tl (hd.length + (mid.length + tl.length)) listed a w := by
  intro hd
  induction hd with
  | nil =>
    intro listed a w hc hB hx h
    rw [List.length_nil, Nat.zero_add]
    exact G_mid hops mid listed a w hB (hN _ _ h)
  | cons i hd ih =>
    intro listed a w hc hB hx h
    rw [List.length_cons, Nat.add_right_comm]
    have e : ops.getD i default = l.getD i default := by subst hops; simp
    obtain ⟨v, hy, hrest⟩ := yields_of_quiet (o := l.getD i default) (rest := opsOf l hd) h
    simp only [List.map_cons, ordB, Bool.and_eq_true] at hB
    obtain ⟨⟨⟨⟨hr, hf⟩, ht⟩, hrd⟩, hB'⟩ := hB
    have hr' : i ∈ Region.ready md ops listed := by simpa using hr
    have h0 := get_of_ready hr'
    rw [e] at h0 hrd
    refine G_first (n := ops.size) h0 (Region.noSelect_spec hsel) (fun c a w => hQ c a _ _ w) (fun j hj => List.all_eq_true.1 ht j hj) _ listed a w hc (Region.free_spec h0 hf) hr' ?_ hx (ih _ _ w (hc.set hr') hB' hx hrest)
    rcases hy with ⟨hw, hq⟩ | ⟨hw, hv⟩
    · exact .inl ⟨hw, fun w' hw' => run_read hrd (hq w' hw')⟩
    · exact .inr ⟨hw, hv⟩

theorem wp_region_exact {id : Nat} {a : Act} {w : World} {l : List Oper} (S : World → Prop) (hd mid tl : List Nat) (hm : P.follows .mixedOrders = true)
    (hB : (Region.noSelect l.toArray && ordB .any l.toArray mid tl (hd.map fun i => (i, true)) (Array.replicate l.toArray.size false) && decide (hd.length + (mid.length + tl.length) = l.toArray.size)) = true)
    (hQ : ∀ c (a : Act) d v w, Q (.panic c) (a.put d v) w → Q (.panic c) a w) (hx : S w.drew)
    (h : wpQuiet P l.toArray S (fun a' => MidWalk P l.toArray Q S (opsOf l tl) (opsOf l mid) a' w.drew) (opsOf l hd) a) :
    (Code.region id l.toArray true).wp P Q a w := by
  refine wp_region_any hm ?_
  simp only [Bool.and_eq_true, decide_eq_true_eq] at hB
  obtain ⟨⟨hsel, hord⟩, hlen⟩ := hB
  have := G_exact (P := P) (Q := Q) (S := S) (tl := tl) (mid := mid) (N := fun a' w' => MidWalk P l.toArray Q S (opsOf l tl) (opsOf l mid) a' w') rfl hsel hQ (fun _ _ h => h) hd _ a w.drew
    (fun j oj _ hl => (by rw [getD_replicate_false] at hl; cases hl)) hord hx h
  rw [hlen] at this
  exact wpAny_of_G _ _ _ _ this
end
/-- The worlds of which S holds, if it holds of W: as a type, so that what is read there is an equation without a premise. -/
def KeptOf (W : World) (S : World → Prop) : Type := { w : World // S W → S w }
instance KeptOf.inhabited (W : World) (S : World → Prop) : Nonempty (KeptOf W S) := ⟨⟨W, id⟩⟩
theorem KeptOf.of {W : World} {S : World → Prop} (h : S W) (u : KeptOf W S) : S u.1 := u.2 h
theorem kept_mk {W w : World} {S : World → Prop} (h : S w) : ∃ u : KeptOf W S, w = u.1 := ⟨⟨w, fun _ => h⟩, rfl⟩
end Go.Proofs.Ytkcpfimhbogdcaa
