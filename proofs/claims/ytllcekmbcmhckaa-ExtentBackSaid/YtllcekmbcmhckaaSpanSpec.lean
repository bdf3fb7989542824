/- Spans in order, as plain lists of pairs. Of no program. -/
set_option linter.unusedSimpArgs false
set_option linter.unusedVariables false
namespace Go.Proofs.Ytllcekmbcmhckaa

/-- x is not behind y. -/
def leS (x y : Int × Int) : Bool := decide (x.1 < y.1) || (decide (x.1 = y.1) && decide (x.2 ≤ y.2))
theorem leS_iff {x y : Int × Int} : leS x y = true ↔ x.1 < y.1 ∨ (x.1 = y.1 ∧ x.2 ≤ y.2) := by simp [leS]
theorem leS_trans (x y z : Int × Int) (h : leS x y = true) (k : leS y z = true) : leS x z = true := by rw [leS_iff] at *; omega
theorem leS_total (x y : Int × Int) : (leS x y || leS y x) = true := by
  rw [Bool.or_eq_true, leS_iff, leS_iff]; omega
theorem leS_antisymm {x y : Int × Int} (h : leS x y = true) (k : leS y x = true) : x = y := by
  rw [leS_iff] at *
  exact Prod.ext (by omega) (by omega)
/-- The spans in order. -/
def sortS (l : List (Int × Int)) : List (Int × Int) := l.mergeSort leS
theorem sortS_perm (l : List (Int × Int)) : (sortS l).Perm l := List.mergeSort_perm l leS
theorem sortS_sorted (l : List (Int × Int)) : (sortS l).Pairwise (fun x y => leS x y = true) := List.pairwise_mergeSort leS_trans leS_total l
theorem sortS_unique {l z : List (Int × Int)} (hp : z.Perm l) (hs : z.Pairwise (fun x y => leS x y = true)) : z = sortS l :=
  List.Perm.eq_of_pairwise (fun _ _ _ _ h k => leS_antisymm h k) hs (sortS_sorted l) (hp.trans (sortS_perm l).symm)
theorem sortS_length (l : List (Int × Int)) : (sortS l).length = l.length := (sortS_perm l).length_eq
theorem sortS_mem {l : List (Int × Int)} {x : Int × Int} : x ∈ sortS l ↔ x ∈ l := (sortS_perm l).mem_iff

/-- One more put in, behind those that are not greater. -/
theorem ins_sorted {ys : List (Int × Int)} {x : Int × Int} {m : Nat} (hs : ys.Pairwise (fun x y => leS x y = true)) (hm : m ≤ ys.length)
    (hlo : ∀ i, i < m → i + 1 = m → leS (ys.getD i (0, 0)) x = true) (hhi : ∀ i, m ≤ i → i < ys.length → leS x (ys.getD i (0, 0)) = true) :
    (ys.take m ++ [x] ++ ys.drop m).Pairwise (fun x y => leS x y = true) ∧ (ys.take m ++ [x] ++ ys.drop m).Perm (ys ++ [x]) := by
  constructor
  · have hs' := hs
    rw [← List.take_append_drop m ys, List.pairwise_append] at hs'
    obtain ⟨h1, h2, h3⟩ := hs'
    have hlo' : ∀ a ∈ ys.take m, leS a x = true := by
      intro a ha
      obtain ⟨i, hi, rfl⟩ := List.getElem_of_mem ha
      have him : i < m := by simp at hi; omega
      have hl := hlo (m - 1) (by omega) (by omega)
      have e1 : ys.getD (m - 1) (0, 0) = ys[m - 1]'(by omega) := by simp [List.getD, List.getElem?_eq_getElem (show m - 1 < ys.length by omega)]
      rw [e1] at hl
      rw [List.getElem_take]
      rcases Nat.lt_or_ge i (m - 1) with h | h
      · exact leS_trans _ _ _ (List.pairwise_iff_getElem.1 hs i (m - 1) (by omega) (by omega) h) hl
      · have : i = m - 1 := by omega
        subst this; exact hl
    have hhi' : ∀ b ∈ ys.drop m, leS x b = true := by
      intro b hb
      obtain ⟨i, hi, rfl⟩ := List.getElem_of_mem hb
      have hi' : m + i < ys.length := by simp at hi; omega
      have := hhi (m + i) (by omega) hi'
      rw [List.getElem_drop]
      simpa [List.getD, List.getElem?_eq_getElem hi'] using this
    rw [List.append_assoc, List.pairwise_append]
    refine ⟨h1, ?_, ?_⟩
    · rw [List.singleton_append, List.pairwise_cons]
      exact ⟨hhi', h2⟩
    · intro a ha b hb
      rw [List.singleton_append, List.mem_cons] at hb
      rcases hb with rfl | hb
      · exact hlo' a ha
      · exact h3 a ha b hb
  · rw [List.append_assoc, List.singleton_append]
    refine List.perm_middle.trans ?_
    rw [List.take_append_drop]
    exact (List.perm_append_singleton x ys).symm
end Go.Proofs.Ytllcekmbcmhckaa
