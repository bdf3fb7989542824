/- Merged by program (merge.py) out of: SpanD, SpanE. -/
import Derived.Test.YtkcpfimhbogdcaaMw21
/- The walks of span.Apart, and of the reference's Total and Same. -/
set_option linter.unusedSimpArgs false
set_option linter.unusedVariables false
namespace Go.Proofs.Ytkcpfimhbogdcaa
open Go.RowKit

theorem same_of {xs ys : List (Int × Int)} (hl : xs.length = ys.length) (h : ∀ i, i < xs.length → xs.getD i (0, 0) = ys.getD i (0, 0)) : xs = ys := by
  refine List.ext_getElem hl fun i h1 h2 => ?_
  have := h i h1
  simpa [List.getElem?_eq_getElem h1, List.getElem?_eq_getElem h2] using this

set_option maxRecDepth 100000 in
set_option maxHeartbeats 1000000 in
theorem refsame_any (A A2 : Option Addr) (cap cap2 : Nat) (xs ys : List (Int × Int)) (W : World) (hlen : xs.length ≤ 9223372036854775807) (hlen2 : ys.length ≤ 9223372036854775807) (hl : SpansAt W A xs) (hl2 : SpansAt W A2 ys) :
    Calls Try.prog 52 #[.slice A xs.length cap, .slice A2 ys.length cap2] W fun e w' => e = .returned (.bool (decide (xs = ys))) ∧ Ext W w' := by
  have HL := Lib.hid hl
  have HL2 := Lib.hid hl2
  clear hl hl2
  by_cases hne : xs.length = ys.length
  rotate_left
  · have h1 : ((xs.length : Int) != (ys.length : Int)) = true := by rw [bne_iff_ne]; omega
    have h2 : decide (xs = ys) = false := by simp; intro e; subst e; exact hne rfl
    have HR := Lib.hid h2
    clear h2 hne
    go_enter Try.func52, Try.ntmps52
    go_wp2_with fail
    go_ret
    exact ⟨ret_bool (by rw [HR.out]), Ext.refl _⟩
  have HN := Lib.hid hne
  have h1 : ((xs.length : Int) != (ys.length : Int)) = false := by rw [← HN.out]; simp
  clear hne
  go_enter Try.func52, Try.ntmps52
  go_wp2_with fail
  go_loopw [5] (fun i wr => ∃ k : Nat, k ≤ xs.length ∧ i = .int .i64 k ∧ Ext W wr ∧ Hid (∀ i, i < k → xs.getD i (0, 0) = ys.getD i (0, 0))) (fun i _ => xs.length - (intOf i).toNat)
  case atStart => exact ⟨0, by omega, rfl, Ext.refl _, Lib.hid (by omega)⟩
  case round =>
    obtain ⟨k, hk, rfl, hxr, hq⟩ := hrel
    by_cases hlt : k < xs.length
    rotate_left
    · have HR := Lib.hid (same_of HN.out (fun i hi => hq.out i (by omega)))
      clear hq
      go_wp2_with fail
      go_ret
      exact ⟨ret_bool (by simp [HR.out]), hxr⟩
    have hlt2 : k < ys.length := by have := HN.out; omega
    obtain ⟨lb, off, rfl, hc⟩ := HL.out.get (by omega)
    obtain ⟨lb2, off2, rfl, hc2⟩ := HL2.out.get (by omega)
    obtain ⟨e1, e2⟩ := spans_cell hc hlt
    obtain ⟨e3, e4⟩ := spans_cell hc2 hlt2
    have c1 := hxr.cell e1
    have c2 := hxr.cell e2
    have c3 := hxr.cell e3
    have c4 := hxr.cell e4
    have HS := Lib.hid (fun (h : xs.getD k (0, 0) = ys.getD k (0, 0)) => (fun i (hi : i < k + 1) => by
      rcases Nat.lt_or_ge i k with h' | h'
      · exact hq.out i h'
      · obtain rfl : i = k := by omega
        exact h : ∀ i, i < k + 1 → xs.getD i (0, 0) = ys.getD i (0, 0)))
    have HD := Lib.hid (fun (h : xs.getD k (0, 0) ≠ ys.getD k (0, 0)) => (fun e : xs = ys => h (by rw [e]) : xs ≠ ys))
    clear e1 e2 e3 e4 hc hc2 HL HL2 hq HN
    generalize xs.getD k (0, 0) = x at *
    generalize ys.getD k (0, 0) = y at *
    obtain ⟨a, s⟩ := x
    obtain ⟨c, d⟩ := y
    simp only at c1 c2 c3 c4
    have ib1 : (k : Int) < (xs.length : Int) := by omega
    have ib2 : (k : Int) < (ys.length : Int) := by omega
    have ib3 : (0 : Int) ≤ (k : Int) := by omega
    by_cases he : a = c ∧ s = d
    · obtain ⟨rfl, rfl⟩ := he
      go_wp2_with fail
      go_quiet (fail)
      go_wp2_with fail
      go_roundw
      case rel => exact ⟨k + 1, by omega, by go_num, hxr.drewN _, Lib.hid (HS.out (by first | rfl | trivial))⟩
      case measure => simp [intOf]; omega
    · have HE := Lib.hid (HD.out (by intro e; injection e with e1 e2; exact he ⟨e1, e2⟩))
      have hb : (a == c) = false ∨ (a = c ∧ (s == d) = false) := by
        by_cases h1 : a = c
        · exact .inr ⟨h1, by rw [beq_eq_false_iff_ne]; exact fun h => he ⟨h1, h⟩⟩
        · exact .inl (by rw [beq_eq_false_iff_ne]; exact h1)
      clear he HD HS
      rcases hb with hb | ⟨rfl, hb⟩
      all_goals
        go_wp2_with fail
        go_quiet (fail)
        go_wp2_with fail
        go_ret
        exact ⟨ret_bool (decide_eq_false HE.out).symm, hxr.drewN _⟩

/-- In a row in order: each may be, and none begins ahead of its forerunner's end. -/
def chainB (zs : List (Int × Int)) : Bool := decide (∀ i, i < zs.length → mayB (zs.getD i (0, 0)).1 (zs.getD i (0, 0)).2 = true ∧ ∀ j, j < i → j + 1 = i → (zs.getD j (0, 0)).1 + (zs.getD j (0, 0)).2 ≤ (zs.getD i (0, 0)).1)
theorem chain_yes {zs : List (Int × Int)} (h : ∀ i, i < zs.length → mayB (zs.getD i (0, 0)).1 (zs.getD i (0, 0)).2 = true ∧ ∀ j, j < i → j + 1 = i → (zs.getD j (0, 0)).1 + (zs.getD j (0, 0)).2 ≤ (zs.getD i (0, 0)).1) : chainB zs = true := decide_eq_true h
theorem chain_no1 {zs : List (Int × Int)} {i : Nat} (hi : i < zs.length) (h : mayB (zs.getD i (0, 0)).1 (zs.getD i (0, 0)).2 = false) : chainB zs = false :=
  decide_eq_false fun H => by rw [(H i hi).1] at h; cases h
theorem chain_no2 {zs : List (Int × Int)} {j : Nat} (hi : j + 1 < zs.length) (h : (zs.getD (j + 1) (0, 0)).1 < (zs.getD j (0, 0)).1 + (zs.getD j (0, 0)).2) : chainB zs = false :=
  decide_eq_false fun H => by have := (H (j + 1) hi).2 j (by omega) rfl; omega

theorem meets_symm (a s c d : Int) : meetsB a s c d = meetsB c d a s := by
  unfold meetsB
  cases mayB a s <;> cases mayB c d <;> simp [Bool.or_comm]
theorem apart_iff {xs : List (Int × Int)} : apartB xs = true ↔ (∀ x ∈ xs, mayB x.1 x.2 = true) ∧ xs.Pairwise (fun x y => meetsB x.1 x.2 y.1 y.2 = false) := by
  unfold apartB
  rw [decide_eq_true_iff]
  have gd : ∀ i (h : i < xs.length), xs.getD i (0, 0) = xs[i] := fun i h => by simp [List.getElem?_eq_getElem h]
  constructor
  · intro h
    refine ⟨fun x hx => ?_, List.pairwise_iff_getElem.2 fun i j hi hj hij => ?_⟩
    · obtain ⟨i, hi, rfl⟩ := List.getElem_of_mem hx
      have := (h i hi).1
      rwa [gd i hi] at this
    · have := (h j hj).2 i hij
      rwa [gd i hi, gd j hj, meets_symm] at this
  · rintro ⟨h1, h2⟩ i hi
    rw [gd i hi]
    refine ⟨h1 _ (List.getElem_mem hi), fun k hk => ?_⟩
    rw [gd k (by omega), meets_symm]
    exact List.pairwise_iff_getElem.1 h2 k i (by omega) hi hk

theorem chain_sort (xs : List (Int × Int)) : chainB (sortS xs) = apartB xs := by
  rw [Bool.eq_iff_iff, apart_iff]
  have hp := sortS_perm xs
  have hs := sortS_sorted xs
  have hsym : ∀ {x y : Int × Int}, meetsB x.1 x.2 y.1 y.2 = false → meetsB y.1 y.2 x.1 x.2 = false := fun h => by rw [meets_symm]; exact h
  rw [show (∀ x ∈ xs, mayB x.1 x.2 = true) ↔ (∀ x ∈ sortS xs, mayB x.1 x.2 = true) from ⟨fun h x hx => h x (hp.mem_iff.1 hx), fun h x hx => h x (hp.mem_iff.2 hx)⟩,
    ← hp.pairwise_iff hsym]
  generalize sortS xs = zs at *
  unfold chainB
  rw [decide_eq_true_iff]
  have gd : ∀ i (h : i < zs.length), zs.getD i (0, 0) = zs[i] := fun i h => by simp [List.getElem?_eq_getElem h]
  constructor
  · intro h
    have hm : ∀ i (h : i < zs.length), mayB zs[i].1 zs[i].2 = true := fun i hi => by have := (h i hi).1; rwa [gd i hi] at this
    have key : ∀ (d i : Nat) (hi : i + d + 1 < zs.length), zs[i].1 + zs[i].2 ≤ zs[i + d + 1].1 := by
      intro d
      induction d with
      | zero =>
        intro i hi
        have := (h (i + 1) hi).2 i (by omega) rfl
        rwa [gd i (by omega), gd (i + 1) hi] at this
      | succ d ih =>
        intro i hi
        have h1 := ih i (by omega)
        have h2 := (h (i + d + 1 + 1) (by omega)).2 (i + d + 1) (by omega) rfl
        rw [gd _ (by omega), gd _ (by omega)] at h2
        have h3 := may_bd (hm (i + d + 1) (by omega))
        have h4 : i + (d + 1) + 1 = i + d + 1 + 1 := by omega
        simp only [h4]
        omega
    refine ⟨fun x hx => ?_, List.pairwise_iff_getElem.2 fun i j hi hj hij => ?_⟩
    · obtain ⟨i, hi, rfl⟩ := List.getElem_of_mem hx
      exact hm i hi
    · obtain ⟨d, rfl⟩ : ∃ d, j = i + d + 1 := ⟨j - i - 1, by omega⟩
      have := key d i hj
      rw [meets_alt (hm i hi) (hm _ hj)]
      simp
      omega
  · rintro ⟨h1, h2⟩ i hi
    have hm : ∀ i (h : i < zs.length), mayB zs[i].1 zs[i].2 = true := fun i hi => h1 _ (List.getElem_mem hi)
    refine ⟨by rw [gd i hi]; exact hm i hi, fun j _ hj => ?_⟩
    subst hj
    rw [gd j (by omega), gd (j + 1) hi]
    have h3 := List.pairwise_iff_getElem.1 h2 j (j + 1) (by omega) hi (by omega)
    rw [meets_alt (hm j (by omega)) (hm _ hi)] at h3
    have h4 := List.pairwise_iff_getElem.1 hs j (j + 1) (by omega) hi (by omega)
    rw [leS_iff] at h4
    have h5 := may_bd (hm j (by omega))
    have h6 := may_bd (hm (j + 1) hi)
    simp at h3
    omega
end Go.Proofs.Ytkcpfimhbogdcaa

/- The walk of span.Apart. -/
set_option linter.unusedSimpArgs false
set_option linter.unusedVariables false
namespace Go.Proofs.Ytkcpfimhbogdcaa
open Go.RowKit

theorem RetS.open {w : World} {xs : List (Int × Int)} {e : Ending} {w' : World} (h : RetS w w.heap.size xs e w') : ∃ A cap, e = .returned (.slice A xs.length cap) ∧ SpansAt w' A xs ∧ Ext w w' := by
  obtain ⟨v, rfl, ho, hb⟩ := h
  obtain ⟨A, cap, rfl, hr, _⟩ := ho.form spanCells (by decide)
  exact ⟨A, cap, rfl, hr, hb⟩

end Go.Proofs.Ytkcpfimhbogdcaa

