/- A region that draws its order, with calls whose results hang on the world: behind each such call the kept world is chosen anew. Of no program. -/
import Derived.Test.YtkcpfimhbogdcaaOrd
set_option linter.unusedSimpArgs false
set_option linter.unusedVariables false
namespace Go.Proofs.Ytkcpfimhbogdcaa
open Go.RowKit

section
variable {P : Program} {ops : Array Oper} {md : Region.Mode} {Q : Exit → Act → World → Prop} {S S' : World → Prop} {tl : List Nat}

theorem G_mono (h : ∀ w, S w → S' w) : ∀ (fuel : Nat) (listed : Array Bool) (a : Act) (w : World), wpAnyG P md ops Q S tl fuel listed a w → wpAnyG P md ops Q S' tl fuel listed a w := by
  intro fuel
  induction fuel with
  | zero => exact fun _ _ _ h => h
  | succ fuel ih => exact fun listed a w hh => ⟨hh.1, fun i hi => wpOp_mono (fun a' w' h' => ⟨fun hn => h _ (h'.1 hn), ih _ a' w' h'.2⟩) (hh.2 i hi)⟩

/-- One operation by itself. -/
def OneOp (P : Program) (ops : Array Oper) (Q : Exit → Act → World → Prop) (o : Oper) (K : Act → World → Prop) (a : Act) (w : World) : Prop :=
  if Region.wanted o (yielded ops a.tmps) then o.wp P a w K Q ∨ (o.asks P a w ∧ LetsOut Q) else K (a.put o.dst undef) w
/-- The walk: what reads and is called in a row; an operation behind which the kept world is chosen anew; and so on. -/
def SegWalk (P : Program) (l : List Oper) (Q : Exit → Act → World → Prop) (last tl : List Oper) : List (List Oper × Oper) → World → Act → Prop
  | [], W, a => wpQuiet P l.toArray (fun w' => ∃ u : ExtOf W, w' = u.1) (fun a' => ∀ w', Ext W w' → wpList P l.toArray Q tl a' w') last a
  | (hd, o) :: segs, W, a => wpQuiet P l.toArray (fun w' => ∃ u : ExtOf W, w' = u.1) (fun a' => ∀ w', Ext W w' → OneOp P l.toArray Q o (fun a'' w'' => ∃ W', Ext W W' ∧ Ext W' w'' ∧ SegWalk P l Q last tl segs W' a'') a' w') hd a
theorem seg_cons {l last tl : List Oper} {segs : List (List Oper × Oper)} {hd : List Oper} {o : Oper} {a : Act} {W : World}
    (h : wpQuiet P l.toArray (fun w' => ∃ u : ExtOf W, w' = u.1) (fun a' => ∀ w', Ext W w' → OneOp P l.toArray Q o (fun a'' w'' => ∃ W', Ext W W' ∧ Ext W' w'' ∧ SegWalk P l Q last tl segs W' a'') a' w') hd a) : SegWalk P l Q last tl ((hd, o) :: segs) W a := h
theorem seg_last {l last tl : List Oper} {a : Act} {W : World} (h : wpQuiet P l.toArray (fun w' => ∃ u : ExtOf W, w' = u.1) (fun a' => ∀ w', Ext W w' → wpList P l.toArray Q tl a' w') last a) : SegWalk P l Q last tl [] W a := h
theorem seg_step {l last tl : List Oper} {segs : List (List Oper × Oper)} {o : Oper} {a : Act} {W w : World} (hw : Region.wanted o (yielded l.toArray a.tmps) = true)
    (h : ∀ K : Act → World → Prop, (∀ W' a' w', Ext W W' → Ext W' w' → SegWalk P l Q last tl segs W' a' → K a' w') → o.wp P a w K Q) :
    OneOp P l.toArray Q o (fun a'' w'' => ∃ W', Ext W W' ∧ Ext W' w'' ∧ SegWalk P l Q last tl segs W' a'') a w := by
  unfold OneOp
  rw [if_pos hw]
  exact .inl (h _ fun W' a' w' h1 h2 h3 => ⟨W', h1, h2, h3⟩)
theorem seg_skip {l last tl : List Oper} {segs : List (List Oper × Oper)} {o : Oper} {a : Act} {W w : World} (hw : Region.wanted o (yielded l.toArray a.tmps) = false) (hx : Ext W w)
    (h : SegWalk P l Q last tl segs W (a.put o.dst undef)) :
    OneOp P l.toArray Q o (fun a'' w'' => ∃ W', Ext W W' ∧ Ext W' w'' ∧ SegWalk P l Q last tl segs W' a'') a w := by
  unfold OneOp
  rw [if_neg (by rw [hw]; exact Bool.false_ne_true)]
  exact ⟨W, Ext.refl W, hx, h⟩

def headB (md : Region.Mode) (ops : Array Oper) (tl : List Nat) (next : Array Bool → Bool) : List (Nat × Bool) → Array Bool → Bool
  | [], listed => next listed
  | (i, true) :: l, listed => (Region.ready md ops listed).contains i && Region.free md ops listed i && tl.all (fun j => waitsT md ops ops.size j i) && isRead (ops.getD i default).op && headB md ops tl next l (listed.setIfInBounds i true)
  | (i, false) :: l, listed => decide (Region.ready md ops listed = [i]) && decide (i ∉ tl) && headB md ops tl next l (listed.setIfInBounds i true)
def segB (md : Region.Mode) (ops : Array Oper) (last : List (Nat × Bool)) (tl : List Nat) : List (List (Nat × Bool) × Nat) → Array Bool → Bool
  | [], listed => headB md ops tl (seqNB md ops tl) last listed
  | (hd, j) :: segs, listed => headB md ops tl (fun listed' => decide (Region.ready md ops listed' = [j]) && decide (j ∉ tl) && segB md ops last tl segs (listed'.setIfInBounds j true)) hd listed

theorem G_quiet {W : World} {l : List Oper} (hops : ops = l.toArray) (hsel : Region.noSelect ops = true) (hQ : ∀ c (a : Act) d v w, Q (.panic c) (a.put d v) w → Q (.panic c) a w) {next : Array Bool → Bool} {N : Act → Prop} {n : Nat}
    (hN : ∀ listed a w, Closed md ops listed → next listed = true → Ext W w → N a → wpAnyG P md ops Q (Ext W) tl n listed a w) :
    ∀ (hd : List (Nat × Bool)) (listed : Array Bool) (a : Act) (w : World), Closed md ops listed → headB md ops tl next hd listed = true → Ext W w →
      wpQuiet P ops (fun w' => ∃ u : ExtOf W, w' = u.1) N (opsOf l (hd.map (·.1))) a → wpAnyG P md ops Q (Ext W) tl (hd.length + n) listed a w := by
  intro hd
  induction hd with
  | nil =>
    intro listed a w hc hB hx h
    rw [List.length_nil, Nat.zero_add]
    exact hN listed a w hc hB hx h
  | cons p hd ih =>
    intro listed a w hc hB hx h
    obtain ⟨i, b⟩ := p
    rw [List.length_cons, Nat.add_right_comm]
    have e : ops.getD i default = l.getD i default := by subst hops; simp
    obtain ⟨v, hy, hrest⟩ := yields_of_quiet (o := l.getD i default) (rest := opsOf l (hd.map (·.1))) h
    cases b with
    | true =>
      simp only [headB, Bool.and_eq_true] at hB
      obtain ⟨⟨⟨⟨hr, hf⟩, ht⟩, hrd⟩, hB'⟩ := hB
      have hr' : i ∈ Region.ready md ops listed := by simpa using hr
      have h0 := get_of_ready hr'
      rw [e] at h0 hrd
      refine G_first (n := ops.size) h0 (Region.noSelect_spec hsel) (fun c a w => hQ c a _ _ w) (fun j hj => List.all_eq_true.1 ht j hj) _ listed a w hc (Region.free_spec h0 hf) hr' ?_ hx (ih _ _ w (hc.set hr') hB' hx hrest)
      rcases hy with ⟨hw, hq⟩ | ⟨hw, hv⟩
      · exact .inl ⟨hw, fun w' hw' => run_read hrd (hq w' ⟨⟨w', hw'⟩, rfl⟩)⟩
      · exact .inr ⟨hw, hv⟩
    | false =>
      simp only [headB, Bool.and_eq_true, decide_eq_true_eq] at hB
      obtain ⟨⟨hr, hnt⟩, hB'⟩ := hB
      refine ⟨fun h1 => (by rw [hr] at h1; cases h1), fun j hj => ?_⟩
      have hji : j = i := by rw [hr] at hj; simpa using hj
      subst hji
      have h0 := get_of_ready hj
      rw [e] at h0
      refine wpOp_yields h0 hy ⟨⟨w, hx⟩, rfl⟩ fun w' hw' => ?_
      obtain ⟨u, rfl⟩ := hw'
      exact ⟨fun _ => u.2, ih _ _ u.1 (hc.set hj) hB' u.2 hrest⟩

def segLen (last : List (Nat × Bool)) (tl : List Nat) : List (List (Nat × Bool) × Nat) → Nat
  | [] => last.length + tl.length
  | (hd, _) :: segs => hd.length + (segLen last tl segs + 1)
theorem G_seg {l : List Oper} {last : List (Nat × Bool)} (hops : ops = l.toArray) (hsel : Region.noSelect ops = true) (hQ : ∀ c (a : Act) d v w, Q (.panic c) (a.put d v) w → Q (.panic c) a w) :
    ∀ (segs : List (List (Nat × Bool) × Nat)) (W : World) (listed : Array Bool) (a : Act) (w : World), Closed md ops listed → segB md ops last tl segs listed = true → Ext W w →
      SegWalk P l Q (opsOf l (last.map (·.1))) (opsOf l tl) (segs.map fun x => (opsOf l (x.1.map (·.1)), l.getD x.2 default)) W a → wpAnyG P md ops Q (Ext W) tl (segLen last tl segs) listed a w := by
  intro segs
  induction segs with
  | nil =>
    intro W listed a w hc hB hx h
    subst hops
    exact G_quiet rfl hsel hQ (next := seqNB md l.toArray tl) (n := tl.length) (fun listed a w _ hB hx h => G_tail rfl tl listed a w (fun _ h => h) hB (h w hx)) last listed a w hc hB hx h
  | cons s segs ih =>
    intro W listed a w hc hB hx h
    obtain ⟨hd, j⟩ := s
    subst hops
    refine G_quiet rfl hsel hQ (n := segLen last tl segs + 1) (fun listed a w hc hB hx h => ?_) hd listed a w hc hB hx h
    simp only [Bool.and_eq_true, decide_eq_true_eq] at hB
    obtain ⟨⟨hr, hnt⟩, hB'⟩ := hB
    refine ⟨fun h1 => (by rw [hr] at h1; cases h1), fun k hk => ?_⟩
    have hkj : k = j := by rw [hr] at hk; simpa using hk
    subst hkj
    have h0 := get_of_ready hk
    have e : l.toArray.getD k default = l.getD k default := by simp
    have hw : wpOp P l.toArray Q k (fun a'' w'' => ∃ W', Ext W W' ∧ Ext W' w'' ∧ SegWalk P l Q (opsOf l (last.map (·.1))) (opsOf l tl) (segs.map fun x => (opsOf l (x.1.map (·.1)), l.getD x.2 default)) W' a'') a w := by
      unfold wpOp
      simp only [h0]
      rw [e]
      exact h w hx
    refine wpOp_mono (fun a'' w'' h' => ?_) hw
    obtain ⟨W', h1, h2, h3⟩ := h'
    exact ⟨fun _ => h1.trans h2, G_mono (fun w hw => h1.trans hw) _ _ _ _ (ih W' _ a'' w'' (hc.set hk) hB' h2 h3)⟩

theorem any_seg {W : World} {a : Act} {w : World} {l : List Oper} (segs : List (List (Nat × Bool) × Nat)) (last : List (Nat × Bool)) (tl : List Nat)
    (hB : (Region.noSelect l.toArray && segB .any l.toArray last tl segs (Array.replicate l.toArray.size false) && decide (segLen last tl segs = l.toArray.size)) = true)
    (hQ : ∀ c (a : Act) d v w, Q (.panic c) (a.put d v) w → Q (.panic c) a w) (hx : Ext W w)
    (h : SegWalk P l Q (opsOf l (last.map (·.1))) (opsOf l tl) (segs.map fun x => (opsOf l (x.1.map (·.1)), l.getD x.2 default)) W a) :
    wpAny P .any l.toArray Q l.toArray.size (Array.replicate l.toArray.size false) a { w with drawn := w.drawn + 1 } := by
  simp only [Bool.and_eq_true, decide_eq_true_eq] at hB
  obtain ⟨⟨hsel, hord⟩, hlen⟩ := hB
  have := G_seg (Q := Q) (tl := tl) (last := last) (w := { w with drawn := w.drawn + 1 }) rfl hsel hQ segs W _ a (fun j oj _ hl => (by rw [getD_replicate_false] at hl; cases hl)) hord (Ext.drew hx) h
  rw [hlen] at this
  exact wpAny_of_G _ _ _ _ this
theorem wp_region_seg {W : World} {id : Nat} {a : Act} {w : World} {l : List Oper} (segs : List (List (Nat × Bool) × Nat)) (last : List (Nat × Bool)) (tl : List Nat) (hm : P.follows .mixedOrders = true)
    (hB : (Region.noSelect l.toArray && segB .any l.toArray last tl segs (Array.replicate l.toArray.size false) && decide (segLen last tl segs = l.toArray.size)) = true)
    (hQ : ∀ c (a : Act) d v w, Q (.panic c) (a.put d v) w → Q (.panic c) a w) (hx : Ext W w)
    (h : SegWalk P l Q (opsOf l (last.map (·.1))) (opsOf l tl) (segs.map fun x => (opsOf l (x.1.map (·.1)), l.getD x.2 default)) W a) :
    (Code.region id l.toArray true).wp P Q a w :=
  wp_region_any hm (any_seg segs last tl hB hQ hx h)
theorem wpIn_region_seg {W : World} {rd m id : Nat} {a : Act} {w : World} {l : List Oper} (segs : List (List (Nat × Bool) × Nat)) (last : List (Nat × Bool)) (tl : List Nat) (hm : P.follows .mixedOrders = true)
    (hB : (Region.noSelect l.toArray && segB .any l.toArray last tl segs (Array.replicate l.toArray.size false) && decide (segLen last tl segs = l.toArray.size)) = true) (hdf : noDefer l.toArray = true)
    (hO : ∀ a w, ¬ Q .outgrown a w) (hQ : ∀ c (a : Act) d v w, Q (.panic c) (a.put d v) w → Q (.panic c) a w) (hx : Ext W w)
    (h : SegWalk P l Q (opsOf l (last.map (·.1))) (opsOf l tl) (segs.map fun x => (opsOf l (x.1.map (·.1)), l.getD x.2 default)) W a) :
    (Code.region id l.toArray true).wpIn (Fence.wide.inRound rd) m P Q a w :=
  wpIn_region_draw fun t => by
    refine opsIn_of_ops hdf hO _ _ _ ?_
    simp only [Region.schedule, hm, Bool.true_or, if_true]
    exact wpAny_sound l.toArray.size t _ a _ (any_seg segs last tl hB hQ hx h)
end
end Go.Proofs.Ytkcpfimhbogdcaa
