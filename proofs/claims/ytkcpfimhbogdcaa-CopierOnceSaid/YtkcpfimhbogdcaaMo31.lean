/- Merged by program (merge.py) out of: OpenS, OpenC. -/
import Derived.Deep.SlicePairs
import Derived.Test.YtkcpfimhbogdcaaMo5
/- A parameter that is a slice of spans. Of no program. -/
set_option linter.unusedSimpArgs false
set_option linter.unusedVariables false
namespace Go.Proofs.Ytkcpfimhbogdcaa
open Go.RowKit
section
open Go.WideShapes Go.ChangeShapes Go.ChangeAt Go.Joins Go.Deep
variable {H : Type} {enc : TypeId × Value → H} {w : World} {base b0 : Nat} {spare : Nat → Bool} {held : Bool} {v : Value} {d : DataW H} {p : List MemPlace} {r : Reach} {P : Program}
def pairB (P : Program) (f0 f1 : Field) : Bool := f0.offset == 0 && f1.offset == 1 && P.cellsOf f0.type == 1 && P.cellsOf f1.type == 1
theorem open_spansAt {t e : TypeId} {f0 f1 : Field} (ht : P.underlying t = some (.slice e)) (he : P.underlying e = some (.struct #[f0, f1])) (hc : P.cellsOf e = 2) (hf : pairB P f0 f1 = true)
    (he0 : P.underlying f0.type = some (.int .i64)) (he1 : P.underlying f1.type = some (.int .i64)) (hv : Value.okWide P w r b0 t v) (h : DataW.Trod enc P w base spare held t v d p) :
    ∃ (A : Option Addr) (cap : Nat) (xs : List (Int × Int)), v = .slice A xs.length cap ∧ xs.length ≤ 9223372036854775807 ∧ (A = none → cap = 0) ∧ (∀ x ∈ xs, (-9223372036854775808 ≤ x.1 ∧ x.1 ≤ 9223372036854775807) ∧ (-9223372036854775808 ≤ x.2 ∧ x.2 ≤ 9223372036854775807)) ∧ SpansAt w A xs := by
  obtain ⟨a0, len, cap, rfl⟩ := okWide_slice ht hv
  obtain ⟨fuel, hfu⟩ := h
  simp only [pairB, Bool.and_eq_true, beq_iff_eq] at hf
  obtain ⟨⟨⟨o0, o1⟩, c0⟩, c1⟩ := hf
  rcases open_slice_pairs ht he hc o0 o1 c0 c1 hfu with ⟨hcs, _⟩ | ⟨a, len', cap', m, n, V0, V1, D0, D1, P0, P1, hcs, _, hl, hm, hmm, _, hel⟩
  · simp only [Value.cells, List.cons.injEq, Value.slice.injEq, and_true] at hcs
    obtain ⟨rfl, rfl, rfl⟩ := hcs
    exact ⟨none, 0, [], rfl, by simp, fun _ => rfl, by simp, 0, 0, by simp, by simp⟩
  · simp only [Value.cells, List.cons.injEq, Value.slice.injEq, and_true] at hcs
    obtain ⟨rfl, rfl, rfl⟩ := hcs
    have hlm : len ≤ m := by rw [hmm]; split <;> omega
    have each : ∀ i, i < len → ∃ x : Int × Int, w.cell? (a.add (i * 2)) = some (.int .i64 x.1) ∧ w.cell? (a.add (i * 2 + 1)) = some (.int .i64 x.2) ∧ (-9223372036854775808 ≤ x.1 ∧ x.1 ≤ 9223372036854775807) ∧ (-9223372036854775808 ≤ x.2 ∧ x.2 ≤ 9223372036854775807) := by
      intro i hi
      obtain ⟨h0, h1, t0, t1⟩ := hel i (by omega)
      obtain ⟨z0, e0, _, w0⟩ := DataW.trod_int he0 t0
      obtain ⟨z1, e1, _, w1⟩ := DataW.trod_int he1 t1
      have e0' : V0 i = .int .i64 z0 := by simpa [Value.cells] using e0
      have e1' : V1 i = .int .i64 z1 := by simpa [Value.cells] using e1
      exact ⟨(z0, z1), by rw [h0, e0'], by rw [h1, e1'], i64_bd w0, i64_bd w1⟩
    obtain ⟨g, hg⟩ : ∃ g : Nat → Int × Int, ∀ i, i < len → w.cell? (a.add (i * 2)) = some (.int .i64 (g i).1) ∧ w.cell? (a.add (i * 2 + 1)) = some (.int .i64 (g i).2) ∧ (-9223372036854775808 ≤ (g i).1 ∧ (g i).1 ≤ 9223372036854775807) ∧ (-9223372036854775808 ≤ (g i).2 ∧ (g i).2 ≤ 9223372036854775807) :=
      ⟨fun i => if h : i < len then Classical.choose (each i h) else (0, 0), fun i hi => by
        have := Classical.choose_spec (each i hi)
        simpa only [hi, dif_pos] using this⟩
    have hxl : ((List.range len).map g).length = len := by simp
    have hget : ∀ i x, ((List.range len).map g)[i]? = some x → i < len ∧ x = g i := by
      intro i x hx
      obtain ⟨h1, h2⟩ := List.getElem?_eq_some_iff.1 hx
      have hi : i < len := by simpa using h1
      exact ⟨hi, by rw [← h2]; simp⟩
    refine ⟨some a, cap, (List.range len).map g, by rw [hxl], by rw [hxl]; unfold maxLen at hm; omega, by simp, fun x hx => ?_, ?_⟩
    · obtain ⟨i, hi, rfl⟩ := List.mem_map.1 hx
      have := hg i (List.mem_range.1 hi)
      exact this.2.2
    · by_cases h0 : 0 < len
      · obtain ⟨b, off, rfl, _⟩ := ints_at (w := w) (a := a) (zs := [(g 0).1]) (k := .i64) (fun i hi => by
          obtain rfl : i = 0 := by simpa using hi
          simpa using (hg 0 h0).1) (by simp)
        have hadd : ∀ k, (⟨b, off, none⟩ : Addr).add k = ⟨b, off + k, none⟩ := fun k => by unfold Addr.add; split <;> simp_all
        refine ⟨b, off, fun _ => rfl, fun i x hx j u hu => ?_⟩
        obtain ⟨hi, rfl⟩ := hget i x hx
        obtain ⟨h1, h2, _⟩ := hg i hi
        rw [hadd] at h1 h2
        match j, hu with
        | 0, hu => simp only [spanC, List.getElem?_cons_zero, Option.some.injEq] at hu; subst hu; simpa using h1
        | 1, hu => simp only [spanC, List.getElem?_cons_succ, List.getElem?_cons_zero, Option.some.injEq] at hu; subst hu; simpa [Nat.add_assoc] using h2
        | j + 2, hu => simp [spanC] at hu
      · have e : (List.range len).map g = [] := by
          have : len = 0 := by omega
          subst this; simp
        rw [e]
        exact RowAt.none _ _ _
end
end Go.Proofs.Ytkcpfimhbogdcaa

/- A parameter that is a slice of spans: with its capacity. Of no program. -/
set_option linter.unusedSimpArgs false
set_option linter.unusedVariables false
namespace Go.Proofs.Ytkcpfimhbogdcaa
open Go.RowKit
section
open Go.WideShapes Go.ChangeShapes Go.ChangeAt Go.Joins Go.Deep
variable {H : Type} {enc : TypeId × Value → H} {w : World} {base b0 : Nat} {spare : Nat → Bool} {held : Bool} {v : Value} {d : DataW H} {p : List MemPlace} {r : Reach} {P : Program}
theorem cap_spansAt {t e : TypeId} {f0 f1 : Field} (ht : P.underlying t = some (.slice e)) (he : P.underlying e = some (.struct #[f0, f1])) (hc : P.cellsOf e = 2) (hf : pairB P f0 f1 = true)
    (hv : Value.okWide P w r b0 t v) (h : DataW.Trod enc P w base spare held t v d p) : ∃ (A : Option Addr) (n cap : Nat), v = .slice A n cap ∧ n ≤ cap := by
  obtain ⟨a0, len, cap, rfl⟩ := okWide_slice ht hv
  obtain ⟨fuel, hfu⟩ := h
  simp only [pairB, Bool.and_eq_true, beq_iff_eq] at hf
  obtain ⟨⟨⟨o0, o1⟩, c0⟩, c1⟩ := hf
  rcases open_slice_pairs ht he hc o0 o1 c0 c1 hfu with ⟨hcs, _⟩ | ⟨a, len', cap', m, n, V0, V1, D0, D1, P0, P1, hcs, _, hl, hm, hmm, _, hel⟩
  · simp only [Value.cells, List.cons.injEq, Value.slice.injEq, and_true] at hcs
    obtain ⟨rfl, rfl, rfl⟩ := hcs
    exact ⟨_, _, _, rfl, Nat.le_refl _⟩
  · simp only [Value.cells, List.cons.injEq, Value.slice.injEq, and_true] at hcs
    obtain ⟨rfl, rfl, rfl⟩ := hcs
    exact ⟨_, _, _, rfl, hl⟩
theorem open_spansCap {t e : TypeId} {f0 f1 : Field} (ht : P.underlying t = some (.slice e)) (he : P.underlying e = some (.struct #[f0, f1])) (hc : P.cellsOf e = 2) (hf : pairB P f0 f1 = true)
    (he0 : P.underlying f0.type = some (.int .i64)) (he1 : P.underlying f1.type = some (.int .i64)) (hv : Value.okWide P w r b0 t v) (h : DataW.Trod enc P w base spare held t v d p) :
    ∃ (A : Option Addr) (cap : Nat) (xs : List (Int × Int)), v = .slice A xs.length cap ∧ xs.length ≤ 9223372036854775807 ∧ (A = none → cap = 0) ∧ xs.length ≤ cap ∧ (∀ x ∈ xs, (-9223372036854775808 ≤ x.1 ∧ x.1 ≤ 9223372036854775807) ∧ (-9223372036854775808 ≤ x.2 ∧ x.2 ≤ 9223372036854775807)) ∧ SpansAt w A xs := by
  obtain ⟨A, cap, xs, h1, h2, h3, h4, h5⟩ := open_spansAt ht he hc hf he0 he1 hv h
  obtain ⟨A', n, cap', k1, k2⟩ := cap_spansAt ht he hc hf hv h
  rw [h1] at k1
  injection k1 with e1 e2 e3
  subst e1 e2 e3
  exact ⟨A, cap, xs, h1, h2, h3, k2, h4, h5⟩
end
end Go.Proofs.Ytkcpfimhbogdcaa

