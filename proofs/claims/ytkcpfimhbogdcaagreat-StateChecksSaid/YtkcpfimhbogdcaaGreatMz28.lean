/- Merged by program (merge.py) out of: LedD, LedE, LedF, LedG, LedH, LedI, LedJ. -/
import Derived.Laws.Externs
import Derived.Test.YtkcpfimhbogdcaaGreatMz27
import Derived.Test.YtkcpfimhbogdcaaGreatMz4
import Derived.Test.YtkcpfimhbogdcaaGreatMz11
import Derived.Test.YtkcpfimhbogdcaaGreatMz13
/- slices.Insert at spans, where there is room. -/
set_option linter.unusedSimpArgs false
set_option linter.unusedVariables false
namespace Go.Proofs.YtkcpfimhbogdcaaGreat
open Go.RowKit Go.Shelf

theorem Own.block {α : Type} {e n : Nat} {f : α → List Value} {w : World} {B : Nat} {xs : List α} {g N cap : Nat} (h : Own e n f w B (.slice (some ⟨g, 0, none⟩) N cap) xs) : ∃ cur : Array Value, w.heap[g]? = some (.cells cur e (0, 0)) ∧ cur.size = cap * n := by
  rcases h.2 with ⟨h', _⟩ | ⟨g', cap', cur, h', hb, hg, hnc, hcm, hcs, _⟩
  · simp at h'
  · simp only [Value.slice.injEq, Option.some.injEq, Addr.mk.injEq, and_true, true_and] at h'
    obtain ⟨rfl, _, rfl⟩ := h'
    exact ⟨cur, hg, hcs⟩
theorem OwnS.room_at {w : World} {B g N cap : Nat} {xs : List (Int × Int)} (h : OwnS w B (.slice (some ⟨g, 0, none⟩) N cap) xs) {j : Nat} (hj : j < cap * 2) : (w.cell? ⟨g, j, none⟩).isSome = true ∧ w.frozen? ⟨g, j, none⟩ = false := by
  obtain ⟨cur, h1, h2⟩ := Own.block h
  refine ⟨?_, frozen_of_row w g j cur _ h1⟩
  have hjc : j < cur.size := by omega
  rw [cell_of_row w g j cur _ (0, 0) h1]
  simp [hjc]
theorem room_list {xs : List (Int × Int)} {x : Int × Int} {i N : Nat} (hN : xs.length = N) (hi : i < N) : layL (xs.take (i + 1) ++ xs.drop i) i [x] = xs.take i ++ x :: xs.drop i := by
  have h1 : (xs.take (i + 1)).length = i + 1 := by rw [List.length_take]; omega
  rw [layL_eq _ _ _ (by rw [List.length_append, h1, List.length_singleton]; omega), List.take_append_of_le_length (by omega), List.take_take, List.length_singleton, List.drop_append, h1, List.drop_of_length_le (by omega), Nat.sub_self, List.drop_zero, List.nil_append, Nat.min_eq_left (by omega)]
  simp

end Go.Proofs.YtkcpfimhbogdcaaGreat

/- ledger.Add. -/
set_option linter.unusedSimpArgs false
set_option linter.unusedVariables false
namespace Go.Proofs.YtkcpfimhbogdcaaGreat
open Go.RowKit Go.Shelf

/-- Where a span is put. -/
def addI (a : Int) (xs : List (Int × Int)) : Nat := (xs.findIdx? (addP a)).getD xs.length
theorem addI_le (a : Int) (xs : List (Int × Int)) : addI a xs ≤ xs.length := by
  unfold addI
  cases h : xs.findIdx? (addP a) with
  | none => exact Nat.le_refl _
  | some k =>
    obtain ⟨hk, _⟩ := List.findIdx?_eq_some_iff_getElem.1 h
    exact Nat.le_of_lt hk
theorem addI_cases (a : Int) (xs : List (Int × Int)) : (idxZ (addP a) xs = -1 ∧ addI a xs = xs.length) ∨ (idxZ (addP a) xs = (addI a xs : Int)) := by
  unfold addI idxZ
  cases h : xs.findIdx? (addP a) with
  | none => exact .inl ⟨rfl, rfl⟩
  | some k => exact .inr rfl
def addL (a s : Int) (xs : List (Int × Int)) : List (Int × Int) := xs.take (addI a xs) ++ (a, s) :: xs.drop (addI a xs)
theorem addL_length (a s : Int) (xs : List (Int × Int)) : (addL a s xs).length = xs.length + 1 := by
  have := addI_le a xs
  simp [addL]
  omega
/-- The two results. -/
def AddRes (a s : Int) (xs : List (Int × Int)) (ys : List (Int × Int)) (er : Int) : Prop :=
  (mayB a s = false ∧ ys = xs ∧ er = 1) ∨ (mayB a s = true ∧ xs.any (giveP a s) = true ∧ ys = xs ∧ er = 16) ∨ (mayB a s = true ∧ xs.any (giveP a s) = false ∧ ys = addL a s xs ∧ er = 0)
def AddPost (a s : Int) (xs : List (Int × Int)) (V : World) (e : Ending) (w' : World) : Prop :=
  ∃ (ys : List (Int × Int)) (er : Int) (m : Nat) (A2 : Option Addr) (cap2 : Nat), AddRes a s xs ys er ∧ m = ys.length ∧ e = .returned (.tuple #[.slice A2 m cap2, .int .i64 er]) ∧ SpansAt w' A2 ys ∧ Ext V w'

end Go.Proofs.YtkcpfimhbogdcaaGreat

/- ledger.Drop. -/
set_option linter.unusedSimpArgs false
set_option linter.unusedVariables false
namespace Go.Proofs.YtkcpfimhbogdcaaGreat
open Go.RowKit Go.Shelf

/-- The three results. -/
def DropRes (q : Int) (xs ys : List (Int × Int)) (x : Int × Int) (er : Int) : Prop :=
  (idxZ (findP q) xs = -1 ∧ ys = xs ∧ x = (0, 0) ∧ er = 2) ∨ (∃ k, k < xs.length ∧ idxZ (findP q) xs = k ∧ ys = xs.eraseIdx k ∧ x = gt xs k ∧ er = 0)
def DropPost (q : Int) (xs : List (Int × Int)) (V : World) (e : Ending) (w' : World) : Prop :=
  ∃ (ys : List (Int × Int)) (a s er : Int) (m : Nat) (A2 : Option Addr) (cap2 : Nat), DropRes q xs ys (a, s) er ∧ m = ys.length ∧ e = .returned (.tuple #[.slice A2 m cap2, .agg #[.int .i64 (a), .int .i64 (s)], .int .i64 er]) ∧ SpansAt w' A2 ys ∧ Ext V w'

/-- What every step of the last statement keeps. -/
def DropS (V : World) (p : Nat) (a s : Int) (w : World) : Prop := Ext V w ∧ w.cell? ⟨p, 0, none⟩ = some (.int .i64 a) ∧ w.cell? ⟨p, 1, none⟩ = some (.int .i64 s)

end Go.Proofs.YtkcpfimhbogdcaaGreat

/- The reference of the ledger: Find, Of. -/
set_option linter.unusedSimpArgs false
set_option linter.unusedVariables false
namespace Go.Proofs.YtkcpfimhbogdcaaGreat
open Go.RowKit Go.Shelf

end Go.Proofs.YtkcpfimhbogdcaaGreat

/- The reference of ledger.Drop. -/
set_option linter.unusedSimpArgs false
set_option linter.unusedVariables false
namespace Go.Proofs.YtkcpfimhbogdcaaGreat
open Go.RowKit Go.Shelf

/-- What 'x[i:]' has for an address. -/
def cutA (A : Option Addr) (cap i : Nat) : Option Addr := if cap = i then A else A.map (·.add (i * 2))
theorem cutA_row {w : World} {A : Option Addr} {cap : Nat} {xs : List (Int × Int)} (h : SpansAt w A xs) (hcap : xs.length ≤ cap) (i : Nat) : SpansAt w (cutA A cap i) (xs.drop i) := by
  unfold cutA
  by_cases hi : i < xs.length
  · obtain ⟨b, off, hA, hc⟩ := h
    obtain rfl := hA (by intro e; subst e; simp at hi)
    rw [if_neg (by omega)]
    have := RowAt.drop (n := 2) (f := spanC) (w := w) (b := b) (off := off) (xs := xs) ⟨b, off, fun _ => rfl, hc⟩ i
    simp only [Option.map_some, Addr.add]
    split
    · rename_i h0
      obtain rfl : i = 0 := by omega
      simpa using this
    · exact this
  · rw [List.drop_eq_nil_of_le (by omega)]
    exact RowAt.none _ _ _
theorem cutA_none {A : Option Addr} {cap i : Nat} (hA : A = none → cap = 0) (h : cutA A cap i = none) : cap - i = 0 := by
  unfold cutA at h
  split at h
  · omega
  · cases A with
    | none => have := hA rfl; omega
    | some a => simp at h

end Go.Proofs.YtkcpfimhbogdcaaGreat

/- The reference of ledger.Add. -/
set_option linter.unusedSimpArgs false
set_option linter.unusedVariables false
namespace Go.Proofs.YtkcpfimhbogdcaaGreat
open Go.RowKit Go.Shelf

theorem refmeets_is (a s c d : Int) (b : Bool) (h : meetsB a s c d = b) (w : World) : Calls Tryz.prog 86 #[.agg #[.int .i64 (a), .int .i64 (s)], .agg #[.int .i64 (c), .int .i64 (d)]] w fun e w' => e = .returned (.bool b) ∧ Ext w w' := by
  subst h; exact refmeets_any a s c d w
theorem any_hit {p : Int × Int → Bool} {xs : List (Int × Int)} {k : Nat} (hk : k < xs.length) (h : p (xs.getD k (0, 0)) = true) : xs.any p = true := by
  rw [List.any_eq_true]
  exact ⟨xs.getD k (0, 0), by simp [hk], h⟩
theorem any_miss {p : Int × Int → Bool} {xs : List (Int × Int)} (h : ∀ k, k < xs.length → p (xs.getD k (0, 0)) = false) : xs.any p = false := by
  rw [List.any_eq_false]
  intro x hx
  obtain ⟨k, hk, rfl⟩ := List.getElem_of_mem hx
  have := h k hk
  simp only [List.getD_eq_getElem?_getD, List.getElem?_eq_getElem hk, Option.getD_some] at this
  simp [this]
theorem addI_at {a : Int} {xs : List (Int × Int)} {k : Nat} (hk : k ≤ xs.length) (h1 : ∀ i, i < k → addP a (xs.getD i (0, 0)) = false) (h2 : k < xs.length → addP a (xs.getD k (0, 0)) = true) : addI a xs = k := by
  rcases Nat.lt_or_ge k xs.length with h | h
  · have := idx_hit (p := addP a) h (h2 h) h1
    rcases addI_cases a xs with ⟨hz, hi⟩ | hz <;> omega
  · have := idx_miss (p := addP a) (xs := xs) (fun i hi => h1 i (by omega))
    rcases addI_cases a xs with ⟨hz, hi⟩ | hz <;> omega
theorem step_no {p : Int × Int → Bool} {xs : List (Int × Int)} {k : Nat} (h : ∀ i, i < k → p (xs.getD i (0, 0)) = false) (h2 : p (xs.getD k (0, 0)) = false) : ∀ i, i < k + 1 → p (xs.getD i (0, 0)) = false := fun i hi => by
  rcases Nat.lt_or_ge i k with h' | h'
  · exact h i h'
  · obtain rfl : i = k := by omega
    exact h2

end Go.Proofs.YtkcpfimhbogdcaaGreat

/- ledger.Right. -/
set_option linter.unusedSimpArgs false
set_option linter.unusedVariables false
namespace Go.Proofs.YtkcpfimhbogdcaaGreat
open Go.RowKit Go.Shelf

def ledB (a s : Int) (xs : List (Int × Int)) : Bool := xs.all (fun x => withinB x.1 x.2 a s) && chainB xs
open Classical in
noncomputable def ledR (a s : Int) (xs fs : List (Int × Int)) : Bool := ledB a s xs && decide (GapsOf a s xs fs)
theorem ledR_no {a s : Int} {xs fs : List (Int × Int)} (h : ledB a s xs = false) : ledR a s xs fs = false := by unfold ledR; rw [h]; rfl
theorem ledR_of {a s : Int} {xs ys fs : List (Int × Int)} (h : ledB a s xs = true) (hg : GapsOf a s xs ys) : ledR a s xs fs = decide (ys = fs) := by
  unfold ledR
  rw [h, Bool.true_and, Bool.eq_iff_iff]
  simp only [decide_eq_true_eq]
  exact ⟨fun h2 => Canon.unique hg h2, fun e => e ▸ hg⟩
theorem led_no1 {a s : Int} {xs : List (Int × Int)} {k : Nat} (hk : k < xs.length) (h : withinB (xs.getD k (0, 0)).1 (xs.getD k (0, 0)).2 a s = false) : ledB a s xs = false := by
  have : xs.all (fun x => withinB x.1 x.2 a s) = false := by
    rw [List.all_eq_false]
    exact ⟨xs.getD k (0, 0), by simp [hk], by rw [h]; simp⟩
  rw [ledB, this, Bool.false_and]
theorem led_no2 {a s : Int} {xs : List (Int × Int)} {j : Nat} (hj : j + 1 < xs.length) (h : (xs.getD (j + 1) (0, 0)).1 < (xs.getD j (0, 0)).1 + (xs.getD j (0, 0)).2) : ledB a s xs = false := by
  rw [ledB, chain_no2 hj h, Bool.and_false]
def LedTo (a s : Int) (xs : List (Int × Int)) (k : Nat) : Prop := ∀ i, i < k → withinB (xs.getD i (0, 0)).1 (xs.getD i (0, 0)).2 a s = true ∧ ∀ j, j + 1 = i → (xs.getD j (0, 0)).1 + (xs.getD j (0, 0)).2 ≤ (xs.getD i (0, 0)).1
theorem LedTo.step {a s : Int} {xs : List (Int × Int)} {k : Nat} (h : LedTo a s xs k) (h1 : withinB (xs.getD k (0, 0)).1 (xs.getD k (0, 0)).2 a s = true) (h2 : ∀ j, j + 1 = k → (xs.getD j (0, 0)).1 + (xs.getD j (0, 0)).2 ≤ (xs.getD k (0, 0)).1) : LedTo a s xs (k + 1) := fun i hi => by
  rcases Nat.lt_or_ge i k with h' | h'
  · exact h i h'
  · obtain rfl : i = k := by omega
    exact ⟨h1, h2⟩
theorem led_yes {a s : Int} {xs : List (Int × Int)} (h : LedTo a s xs xs.length) : ledB a s xs = true := by
  rw [ledB, all_within fun i hi => (h i hi).1, Bool.true_and]
  exact chain_yes fun i hi => ⟨within_may (h i hi).1, fun j _ hj => (h i hi).2 j hj⟩

set_option maxRecDepth 100000 in
set_option maxHeartbeats 4000000 in
theorem ledright_any (a s : Int) (A A2 : Option Addr) (cap cap2 : Nat) (xs fs : List (Int × Int)) (w : World) (hlen : xs.length ≤ 400000) (hlen2 : fs.length ≤ 9223372036854775807) (hl : SpansAt w A xs) (hl2 : SpansAt w A2 fs) :
    Calls Tryz.prog 81 #[.agg #[.int .i64 (a), .int .i64 (s)], .slice A xs.length cap, .slice A2 fs.length cap2] w fun e w' => e = .returned (.bool (ledR a s xs fs)) ∧ Ext w w' := by
  have hW : Ext w (w.alloc (.cells #[.int .i64 a, .int .i64 s] 50)) := (Ext.refl w).alloc _
  have HL := Lib.hid (hl.ext hW)
  have HF := Lib.hid (hl2.ext hW)
  have b0 := boxed w #[.int .i64 a, .int .i64 s] 50 0 (.int .i64 a) rfl
  have b1 := boxed w #[.int .i64 a, .int .i64 s] 50 1 (.int .i64 s) rfl
  clear hl hl2
  go_enter Tryz.func81, Tryz.ntmps81
  go_wp2_with fail
  generalize w.alloc (.cells #[.int .i64 a, .int .i64 s] 50) = W at *
  go_loopw [7, 8, 11] (fun _ _ i wr => ∃ k : Nat, k ≤ xs.length ∧ i = .int .i64 k ∧ Ext W wr ∧ Hid (LedTo a s xs k)) (fun _ _ i _ => xs.length - (intOf i).toNat)
  case atStart => exact ⟨0, by omega, rfl, Ext.refl _, Lib.hid (fun i hi => absurd hi (by omega))⟩
  case round =>
    obtain ⟨k, hk, rfl, hxr, hq⟩ := hrel
    by_cases hlt : k < xs.length
    rotate_left
    · have HR := Lib.hid (led_yes (a := a) (s := s) (xs := xs) (fun i hi => hq.out i (by omega)))
      have c0 := b0 wr hxr
      have c1 := b1 wr hxr
      clear hq
      go_wp2_with fail
      refine (gaps_any a s A cap xs _ (by omega) (HL.out.ext hxr)).mono ?_
      rintro e W8 ⟨ys, hg, h8⟩
      obtain ⟨A8, cap8, rfl, hj8, hx8⟩ := h8.open
      have HJ := Lib.hid hj8
      have hys := gaps_len hg
      have HG := Lib.hid (ledR_of (fs := fs) HR.out hg)
      replace hxr := hxr.trans hx8
      clear hj8 hx8 h8 c0 c1
      go_wp2_with fail
      refine (equal_any A8 A2 cap8 cap2 ys fs W8 (by omega) (by omega) HJ.out (HF.out.ext hxr)).mono ?_
      rintro e W9 ⟨rfl, hx9⟩
      replace hxr := hxr.trans hx9
      go_wp2_with fail
      go_ret
      exact ⟨ret_bool (by rw [HG.out]), hW.trans hxr⟩
    obtain ⟨lb, off, rfl, hc⟩ := HL.out.get (by omega)
    have HC := Lib.hid hc
    obtain ⟨e1, e2⟩ := spans_cell hc hlt
    have HN1 := Lib.hid (fun h => led_no1 (a := a) (s := s) hlt h)
    have HP := Lib.hid (fun h1 h2 => hq.out.step h1 h2)
    have ib1 : (k : Int) < (xs.length : Int) := by omega
    have c1 := hxr.cell e1
    have c2 := hxr.cell e2
    clear e1 e2 hc HL HF
    rcases k with _ | m
    · generalize xs.getD 0 (0, 0) = x at *
      obtain ⟨x1, x2⟩ := x
      simp only [Nat.zero_mul, Nat.add_zero] at c1 c2
      have hz0 : Ext wr (wr.alloc (.cells #[.int .i64 x1, .int .i64 x2] 50)) := (Ext.refl wr).alloc _
      have n0 := boxed wr #[.int .i64 x1, .int .i64 x2] 50 0 (.int .i64 x1) rfl
      have n1 := boxed wr #[.int .i64 x1, .int .i64 x2] 50 1 (.int .i64 x2) rfl
      clear hq HC
      cases hb : withinB x1 x2 a s
      all_goals
        go_wp2_with fail
        generalize wr.alloc (.cells #[.int .i64 x1, .int .i64 x2] 50) = Wn at *
        generalize wr.heap.size = H at *
        have l1 := fun u : ExtOf Wn => n0 u.1 u.2
        have l2 := fun u : ExtOf Wn => n1 u.1 u.2
        have m1 := fun u : ExtOf Wn => b0 u.1 (hxr.trans (hz0.trans u.2))
        have m2 := fun u : ExtOf Wn => b1 u.1 (hxr.trans (hz0.trans u.2))
        have hs0 : Ext Wn Wn := Ext.refl Wn
        (refine wp_region_ext (W := Wn) (by kernel_rfl) (by kernel_rfl) (by with_reducible assumption) ?_; (repeat (go_big_quiet_step (first | (go_at_call 94; with_reducible exact Calls.ext_of (within_is x1 x2 a s _ hb _))))); refine wpQuiet_nil ?_; intro w1 hx)
        go_wp2_with fail
      · go_ret
        exact ⟨ret_bool (by rw [ledR_no (HN1.out hb)]), hW.trans (hxr.trans (hz0.trans hx))⟩
      · go_roundw
        case rel => exact ⟨0 + 1, by omega, by go_num, hxr.trans (hz0.trans hx), Lib.hid (HP.out hb (by omega))⟩
        case measure => simp [intOf]; omega
    · have hq1 := within_may (hq.out m (by omega)).1
      obtain ⟨e3, e4⟩ := spans_cell HC.out (show m < xs.length by omega)
      have c3 := hxr.cell e3
      have c4 := hxr.cell e4
      have HN2 := Lib.hid (fun h => led_no2 (a := a) (s := s) (xs := xs) (j := m) hlt h)
      have HP2 := Lib.hid (fun h1 (h2 : (xs.getD m (0, 0)).1 + (xs.getD m (0, 0)).2 ≤ (xs.getD (m + 1) (0, 0)).1) => HP.out h1 (fun j (hj : j + 1 = m + 1) => (show j = m by omega) ▸ h2))
      clear e3 e4 hq HC HP
      generalize xs.getD (m + 1) (0, 0) = x at *
      generalize xs.getD m (0, 0) = y at *
      obtain ⟨x1, x2⟩ := x
      obtain ⟨c, d⟩ := y
      simp only at c1 c2 c3 c4 hq1
      obtain ⟨q1, q2, q3, q4⟩ := may_bd hq1
      have hcast : ((m + 1 : Nat) : Int) = (m : Int) + 1 := by omega
      rw [hcast]
      rw [hcast] at ib1
      clear hcast hq1
      have hp : decide ((0 : Int) < (m : Int) + 1) = true := by simp; try omega
      have s1 : IntKind.i64.wrap ((m : Int) + 1 - 1) = (m : Int) := by rw [show (m : Int) + 1 - 1 = (m : Int) from by omega]; exact IntWalk.i64_in _ (by omega)
      have ib2 : (m : Int) < (xs.length : Int) := by omega
      have ib3 : (0 : Int) ≤ (m : Int) := by omega
      have hz0 : Ext wr (wr.alloc (.cells #[.int .i64 x1, .int .i64 x2] 50)) := (Ext.refl wr).alloc _
      have n0 := boxed wr #[.int .i64 x1, .int .i64 x2] 50 0 (.int .i64 x1) rfl
      have n1 := boxed wr #[.int .i64 x1, .int .i64 x2] 50 1 (.int .i64 x2) rfl
      obtain ⟨t, ht⟩ : ∃ t, decide (x1 < c + d) = t := ⟨_, rfl⟩
      have HT := Lib.hid ht
      have C3 := Lib.hid c3
      have C4 := Lib.hid c4
      clear c3 c4
      cases hb : withinB x1 x2 a s
      all_goals cases t
      all_goals
        go_wp2_with fail
        generalize wr.alloc (.cells #[.int .i64 x1, .int .i64 x2] 50) = Wn at *
        generalize wr.heap.size = H at *
        have l1 := fun u : ExtOf Wn => n0 u.1 u.2
        have l2 := fun u : ExtOf Wn => n1 u.1 u.2
        have m1 := fun u : ExtOf Wn => b0 u.1 (hxr.trans (hz0.trans u.2))
        have m2 := fun u : ExtOf Wn => b1 u.1 (hxr.trans (hz0.trans u.2))
        have l3 := fun u : ExtOf Wn => (hz0.trans u.2).cell C3.out
        have l4 := fun u : ExtOf Wn => (hz0.trans u.2).cell C4.out
        have hs0 : Ext Wn Wn := Ext.refl Wn
        (refine wp_region_ext (W := Wn) (by kernel_rfl) (by kernel_rfl) (by with_reducible assumption) ?_; (repeat (go_big_quiet_step (first | (go_at_call 94; with_reducible exact Calls.ext_of (within_is x1 x2 a s _ hb _))))); refine wpQuiet_nil ?_; intro w1 hx)
        go_wp2_with fail
      · go_ret
        exact ⟨ret_bool (by rw [ledR_no (HN1.out hb)]), hW.trans (hxr.trans (hz0.trans hx))⟩
      · go_ret
        exact ⟨ret_bool (by rw [ledR_no (HN1.out hb)]), hW.trans (hxr.trans (hz0.trans hx))⟩
      · go_roundw
        case rel => exact ⟨m + 1 + 1, by omega, by go_num, hxr.trans (hz0.trans hx), Lib.hid (HP2.out hb (by have := HT.out; simpa using this))⟩
        case measure => simp [intOf]; omega
      · go_ret
        exact ⟨ret_bool (by rw [ledR_no (HN2.out (by have := HT.out; simpa using this))]), hW.trans (hxr.trans (hz0.trans hx))⟩
end Go.Proofs.YtkcpfimhbogdcaaGreat

