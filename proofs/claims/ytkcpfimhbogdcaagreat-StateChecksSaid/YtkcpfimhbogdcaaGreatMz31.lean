/- Merged by program (merge.py) out of: Law03C, Law03D. -/
import Derived.Test.YtkcpfimhbogdcaaGreatMz13
import Derived.Test.YtkcpfimhbogdcaaGreatMz30
/- The laws SpanTells and SpanGaps out of their walks. -/
set_option linter.unusedSimpArgs false
set_option linter.unusedVariables false
namespace Go.Proofs.YtkcpfimhbogdcaaGreat
open Go.RowKit

/-- What the openers give. -/
abbrev IsSpanC (v : Value) : Prop := ∃ a s : Int, v = .agg #[.int .i64 (a), .int .i64 (s)] ∧ (-9223372036854775808 ≤ a ∧ a ≤ 9223372036854775807) ∧ (-9223372036854775808 ≤ s ∧ s ≤ 9223372036854775807)
abbrev IsSpans (w : World) (v : Value) : Prop := ∃ (A : Option Addr) (cap : Nat) (xs : List (Int × Int)), v = .slice A xs.length cap ∧ xs.length ≤ 9223372036854775807 ∧ (A = none → cap = 0) ∧ (∀ x ∈ xs, (-9223372036854775808 ≤ x.1 ∧ x.1 ≤ 9223372036854775807) ∧ (-9223372036854775808 ≤ x.2 ∧ x.2 ≤ 9223372036854775807)) ∧ SpansAt w A xs
end Go.Proofs.YtkcpfimhbogdcaaGreat

/- The walks of the laws SpanLists and SpanParts. -/
set_option linter.unusedSimpArgs false
set_option linter.unusedVariables false
namespace Go.Proofs.YtkcpfimhbogdcaaGreat
open Go.RowKit

theorem refsort_c (A : Option Addr) (cap : Nat) (xs : List (Int × Int)) (n m : Nat) (V : World) (hn : xs.length = n) (hm : (sortS xs).length = m) (hlen : n ≤ 1000000) (hl : SpansAt V A xs) :
    Calls Tryz.prog 99 #[.slice A n cap] V fun e w' => ∃ A2 cap2, e = .returned (.slice A2 m cap2) ∧ SpansAt w' A2 (sortS xs) ∧ Ext V w' := by
  subst hn hm
  exact (refsort_any A cap xs V hlen hl).mono fun e w' h => h.open
theorem refapart_c (A : Option Addr) (cap : Nat) (xs : List (Int × Int)) (n : Nat) (V : World) (hn : xs.length = n) (hlen : n ≤ 1000000) (hl : SpansAt V A xs) :
    Calls Tryz.prog 73 #[.slice A n cap] V fun e w' => e = .returned (.bool (apartB xs)) ∧ Ext V w' := by
  subst hn
  exact refapart_any A cap xs V (by omega) hl

theorem gap_may {a s : Int} {xs zs : List (Int × Int)} (h : GapsOf a s xs zs) {z : Int × Int} (hz : z ∈ zs) : mayB z.1 z.2 = true := by
  have h1 := h.pos z hz
  obtain ⟨hm, h2, _⟩ := hasB_iff.1 ((h.mem z.1).1 ⟨z, hz, by omega, by omega⟩).1
  obtain ⟨_, _, h3⟩ := hasB_iff.1 ((h.mem (z.1 + z.2 - 1)).1 ⟨z, hz, by omega, by omega⟩).1
  have := may_bd hm
  simp only [mayB, decide_eq_true_eq]
  omega
theorem gap_apart {a s : Int} {xs zs : List (Int × Int)} (h : GapsOf a s xs zs) : apartB zs = true := by
  rw [apart_iff]
  refine ⟨fun z hz => gap_may h hz, ?_⟩
  have hp := h.apart
  have hm : ∀ z ∈ zs, mayB z.1 z.2 = true := fun z hz => gap_may h hz
  clear h
  induction zs with
  | nil => exact List.Pairwise.nil
  | cons z zs ih =>
    rw [List.pairwise_cons] at hp ⊢
    refine ⟨fun y hy => ?_, ih hp.2 fun y hy => hm y (by simp [hy])⟩
    rw [meets_alt (hm z (by simp)) (hm y (by simp [hy]))]
    have := hp.1 y hy
    simp
    omega
theorem gap_join {a s : Int} {xs zs : List (Int × Int)} (h : GapsOf a s xs zs) : joinL zs = zs := by
  refine Canon.unique (join_canon zs) ⟨h.pos, h.apart, fun p => ?_⟩
  rw [covered_iff]
  exact ⟨fun ⟨x, hx, hp⟩ => ⟨x, hx, gap_may h hx, hp⟩, fun ⟨x, hx, _, hp⟩ => ⟨x, hx, hp⟩⟩
/-- How many of some spans have a place. -/
def countB (p : Int) (zs : List (Int × Int)) : Nat := (zs.filter fun z => hasB z.1 z.2 p).length
theorem count_snoc {p : Int} {zs : List (Int × Int)} {k : Nat} (hk : k < zs.length) : countB p (zs.take (k + 1)) = countB p (zs.take k) + if hasB (zs.getD k (0, 0)).1 (zs.getD k (0, 0)).2 p then 1 else 0 := by
  unfold countB
  rw [List.take_succ_eq_append_getElem hk, List.filter_append, List.length_append]
  simp only [List.getD_eq_getElem?_getD, List.getElem?_eq_getElem hk, Option.getD_some]
  by_cases h : hasB zs[k].1 zs[k].2 p = true
  · simp [h]
  · simp [h]
theorem covered_snoc_k {p : Int} {xs : List (Int × Int)} {k : Nat} (hk : k < xs.length) : coveredB (xs.take (k + 1)) p = (coveredB (xs.take k) p || hasB (xs.getD k (0, 0)).1 (xs.getD k (0, 0)).2 p) := by
  unfold coveredB
  rw [List.take_succ_eq_append_getElem hk, List.any_append]
  simp [List.getElem?_eq_getElem hk]
theorem gap_count {a s p : Int} {xs zs : List (Int × Int)} (h : GapsOf a s xs zs) : countB p zs = if hasB a s p = true ∧ coveredB xs p = false then 1 else 0 := by
  have h1 : (∃ z ∈ zs, hasB z.1 z.2 p = true) ↔ (hasB a s p = true ∧ coveredB xs p = false) := by
    rw [← show LeftB a s xs p ↔ (hasB a s p = true ∧ coveredB xs p = false) from Iff.rfl, ← h.mem p]
    exact ⟨fun ⟨z, hz, hp⟩ => ⟨z, hz, (hasB_iff.1 hp).2⟩, fun ⟨z, hz, hp⟩ => ⟨z, hz, hasB_iff.2 ⟨gap_may h hz, hp⟩⟩⟩
  have h2 : countB p zs ≤ 1 := by
    have hp := h.apart
    clear h h1
    unfold countB
    induction zs with
    | nil => simp
    | cons z zs ih =>
      rw [List.pairwise_cons] at hp
      by_cases hz : hasB z.1 z.2 p = true
      · have : zs.filter (fun z => hasB z.1 z.2 p) = [] := by
          rw [List.filter_eq_nil_iff]
          intro y hy hb
          have := hp.1 y hy
          have := (hasB_iff.1 hz).2
          have := (hasB_iff.1 hb).2
          omega
        simp [hz, this]
      · simp only [List.filter_cons, hz, Bool.false_eq_true, if_false]
        exact ih hp.2
  by_cases hc : hasB a s p = true ∧ coveredB xs p = false
  · rw [if_pos hc]
    obtain ⟨z, hz, hb⟩ := h1.2 hc
    have : 0 < countB p zs := by
      unfold countB
      exact List.length_pos_of_mem (List.mem_filter.2 ⟨hz, hb⟩)
    omega
  · rw [if_neg hc]
    unfold countB
    rw [List.length_eq_zero_iff, List.filter_eq_nil_iff]
    intro z hz hb
    exact hc (h1.1 ⟨z, hz, hb⟩)
end Go.Proofs.YtkcpfimhbogdcaaGreat

