/- What Take and Give come to, of free words that may be: in plain Lean. -/
import Derived.Test.YtllcekmbcmhckaaExtG
set_option linter.unusedSimpArgs false
set_option linter.unusedVariables false
namespace Go.Proofs.Ytllcekmbcmhckaa
open Go.RowKit Go.Shelf

theorem join_self {xs : List (Int × Int)} (h1 : ∀ x ∈ xs, mayB x.1 x.2 = true) (h2 : xs.Pairwise fun x y => x.1 + x.2 < y.1) : joinL xs = xs := by
  refine Canon.unique (join_canon xs) ⟨fun x hx => (may_bd (h1 x hx)).2.2.1, h2, fun p => ?_⟩
  rw [covered_iff]
  exact ⟨fun ⟨x, hx, hp⟩ => ⟨x, hx, h1 x hx, hp⟩, fun ⟨x, hx, _, hp⟩ => ⟨x, hx, hp⟩⟩
theorem right_iff {a s : Int} {xs : List (Int × Int)} : rightB a s xs = true ↔ (∀ x ∈ xs, withinB x.1 x.2 a s = true) ∧ xs.Pairwise fun x y => x.1 + x.2 < y.1 := by
  rw [rightB, Bool.and_eq_true, List.all_eq_true, decide_eq_true_eq]
  constructor
  · rintro ⟨h1, h2⟩
    have := (join_canon xs).apart
    rw [h2] at this
    exact ⟨h1, this⟩
  · rintro ⟨h1, h2⟩
    exact ⟨h1, join_self (fun x hx => within_may (h1 x hx)) h2⟩

theorem largest_ge : ∀ (xs : List (Int × Int)) (n : Int), n ≤ xs.foldl lgT n ∧ ∀ x ∈ xs, mayB x.1 x.2 = true → x.2 ≤ xs.foldl lgT n := by
  intro xs
  induction xs with
  | nil => intro n; exact ⟨Int.le_refl _, by simp⟩
  | cons y ys ih =>
    intro n
    obtain ⟨h1, h2⟩ := ih (lgT n y)
    have h3 : n ≤ lgT n y := by unfold lgT; split <;> omega
    refine ⟨by simp only [List.foldl_cons]; omega, fun x hx hm => ?_⟩
    simp only [List.foldl_cons]
    rcases List.mem_cons.1 hx with rfl | hx
    · have : x.2 ≤ lgT n x := by unfold lgT; rw [if_pos hm]; omega
      omega
    · exact h2 x hx hm
theorem largest_at : ∀ (xs : List (Int × Int)) (n : Int), xs.foldl lgT n = n ∨ ∃ x ∈ xs, mayB x.1 x.2 = true ∧ x.2 = xs.foldl lgT n := by
  intro xs
  induction xs with
  | nil => intro n; exact .inl rfl
  | cons y ys ih =>
    intro n
    simp only [List.foldl_cons]
    rcases ih (lgT n y) with h | ⟨x, hx, h1, h2⟩
    · unfold lgT at h ⊢
      by_cases hm : mayB y.1 y.2 = true
      · rw [if_pos hm] at h ⊢
        by_cases h4 : n < y.2
        · exact .inr ⟨y, by simp, hm, by rw [h]; omega⟩
        · exact .inl (by rw [h]; omega)
      · rw [if_neg hm] at h ⊢
        exact .inl h
    · exact .inr ⟨x, by simp [hx], h1, h2⟩
/-- There is no room. -/
theorem take_not {n : Int} {xs ys : List (Int × Int)} {p er : Int} (h : TakeRes n xs ys p er) (hn : n < 1 ∨ largestL xs < n) : ys = xs ∧ er ≠ 0 := by
  rcases h with ⟨_, h, _, h3⟩ | ⟨_, _, h, _, h3⟩ | ⟨h1, k, hk, _, hy, _⟩
  · exact ⟨h, by omega⟩
  · exact ⟨h, by omega⟩
  · exfalso
    have hm : mayB (gt xs k).1 (gt xs k).2 = true ∧ n ≤ (gt xs k).2 := by simpa [takeP] using hy
    have hmem : gt xs k ∈ xs := by rw [gt_eq hk]; exact List.getElem_mem hk
    have := (largest_ge xs 0).2 _ hmem hm.1
    unfold largestL at hn
    omega
/-- What stands ahead of the span, and behind it. -/
structure Taken (n : Int) (xs ys : List (Int × Int)) (p er a0 s0 : Int) (pre post : List (Int × Int)) : Prop where
  hx : xs = pre ++ (a0, s0) :: post
  hy : ys = pre ++ ((if s0 = n then [] else [(a0 + n, s0 - n)]) ++ post)
  hm : mayB a0 s0 = true
  hn : 1 ≤ n ∧ n ≤ s0
  hp : p = a0
  he : er = 0
theorem take_yes {n : Int} {xs ys : List (Int × Int)} {p er : Int} (h : TakeRes n xs ys p er) (h1 : 1 ≤ n) (h2 : n ≤ largestL xs) : ∃ a0 s0 pre post, Taken n xs ys p er a0 s0 pre post := by
  rcases h with ⟨h, _⟩ | ⟨_, h, _⟩ | ⟨_, k, hk, _, hy, rfl, rfl, rfl⟩
  · omega
  · exfalso
    rcases largest_at xs 0 with h3 | ⟨x, hx, hm, h3⟩
    · unfold largestL at h2; omega
    · have := h x hx
      unfold largestL at h2
      simp only [takeP, hm, Bool.true_and, decide_eq_false_iff_not] at this
      omega
  · have hm : mayB (gt xs k).1 (gt xs k).2 = true ∧ n ≤ (gt xs k).2 := by simpa [takeP] using hy
    refine ⟨(gt xs k).1, (gt xs k).2, xs.take k, xs.drop (k + 1), ?_, ?_, hm.1, ⟨h1, hm.2⟩, rfl, rfl⟩
    · show xs = xs.take k ++ gt xs k :: xs.drop (k + 1)
      rw [gt_eq hk, List.getElem_cons_drop, List.take_append_drop]
    · unfold takeL
      split
      · rw [List.eraseIdx_eq_take_drop_succ, List.nil_append]
      · rw [List.set_eq_take_append_cons_drop, if_pos hk]; rfl

section
variable {n : Int} {xs ys : List (Int × Int)} {p er a0 s0 a s : Int} {pre post : List (Int × Int)}
theorem Taken.facts (h : Taken n xs ys p er a0 s0 pre post) (hr : rightB a s xs = true) :
    (∀ y ∈ pre, withinB y.1 y.2 a s = true ∧ y.1 + y.2 < a0) ∧ (∀ y ∈ post, withinB y.1 y.2 a s = true ∧ a0 + s0 < y.1) ∧ withinB a0 s0 a s = true ∧
    pre.Pairwise (fun x y => x.1 + x.2 < y.1) ∧ post.Pairwise (fun x y => x.1 + x.2 < y.1) ∧ ∀ x ∈ pre, ∀ y ∈ post, x.1 + x.2 < y.1 := by
  obtain ⟨h1, h2⟩ := right_iff.1 hr
  rw [h.hx] at h1 h2
  rw [List.pairwise_append, List.pairwise_cons] at h2
  obtain ⟨p1, ⟨p2, p3⟩, p4⟩ := h2
  exact ⟨fun y hy => ⟨h1 y (by simp [hy]), p4 y hy (a0, s0) (by simp)⟩, fun y hy => ⟨h1 y (by simp [hy]), p2 y hy⟩, h1 (a0, s0) (by simp), p1, p3, fun x hx y hy => p4 x hx y (by simp [hy])⟩
theorem Taken.len (h : Taken n xs ys p er a0 s0 pre post) : ys.length ≤ xs.length := by
  rw [h.hx, h.hy]
  split <;> simp
theorem Taken.mem (h : Taken n xs ys p er a0 s0 pre post) {y : Int × Int} (hy : y ∈ ys) : y ∈ pre ∨ y ∈ post ∨ (s0 ≠ n ∧ y = (a0 + n, s0 - n)) := by
  rw [h.hy] at hy
  simp only [List.mem_append] at hy
  rcases hy with hy | hy | hy
  · exact .inl hy
  · split at hy
    · simp at hy
    · rename_i hne
      exact .inr (.inr ⟨hne, by simpa using hy⟩)
  · exact .inr (.inl hy)
theorem within_iff {a s c d : Int} : withinB a s c d = true ↔ mayB a s = true ∧ mayB c d = true ∧ c ≤ a ∧ a + s ≤ c + d := by
  simp [withinB, and_assoc]
theorem Taken.rest_may (h : Taken n xs ys p er a0 s0 pre post) (hne : s0 ≠ n) : mayB (a0 + n) (s0 - n) = true := by
  have h1 := may_bd h.hm
  have h2 := h.hn
  simp only [mayB, decide_eq_true_eq]
  omega
theorem Taken.span_may (h : Taken n xs ys p er a0 s0 pre post) : mayB a0 n = true := by
  have h1 := may_bd h.hm
  have h2 := h.hn
  simp only [mayB, decide_eq_true_eq]
  omega
theorem Taken.right (h : Taken n xs ys p er a0 s0 pre post) (hr : rightB a s xs = true) : rightB a s ys = true := by
  obtain ⟨f1, f2, f3, f4, f5, f6⟩ := h.facts hr
  obtain ⟨g1, g2, g3⟩ := within_iff.1 f3
  have hn := h.hn
  refine right_iff.2 ⟨fun y hy => ?_, ?_⟩
  · rcases h.mem hy with hy | hy | ⟨hne, rfl⟩
    · exact (f1 y hy).1
    · exact (f2 y hy).1
    · exact within_iff.2 ⟨h.rest_may hne, g2, by show a ≤ a0 + n; omega, by show a0 + n + (s0 - n) ≤ a + s; omega⟩
  · rw [h.hy, List.pairwise_append]
    refine ⟨f4, ?_, fun x hx y hy => ?_⟩
    · split
      · exact f5
      · rw [List.cons_append, List.nil_append, List.pairwise_cons]
        refine ⟨fun y hy => ?_, f5⟩
        have := (f2 y hy).2
        show a0 + n + (s0 - n) < y.1
        omega
    · have h1 := (f1 x hx).2
      rw [List.mem_append] at hy
      rcases hy with hy | hy
      · split at hy
        · simp at hy
        · obtain rfl : y = (a0 + n, s0 - n) := by simpa using hy
          show x.1 + x.2 < a0 + n
          omega
      · exact f6 x hx y hy
theorem covered_append (l1 l2 : List (Int × Int)) (q : Int) : coveredB (l1 ++ l2) q = (coveredB l1 q || coveredB l2 q) := by simp [coveredB]
theorem covered_cons (x : Int × Int) (l : List (Int × Int)) (q : Int) : coveredB (x :: l) q = (hasB x.1 x.2 q || coveredB l q) := by simp [coveredB]
theorem Taken.covered (h : Taken n xs ys p er a0 s0 pre post) (hr : rightB a s xs = true) (q : Int) : coveredB ys q = (coveredB xs q && !hasB a0 n q) := by
  obtain ⟨f1, f2, f3, f4, f5, f6⟩ := h.facts hr
  have hn := h.hn
  have c1 : coveredB pre q = true → hasB a0 n q = false := by
    intro hc
    obtain ⟨x, hx, _, hq⟩ := covered_iff.1 hc
    have := (f1 x hx).2
    unfold InS at hq
    simp [hasB]
    omega
  have c2 : coveredB post q = true → hasB a0 n q = false := by
    intro hc
    obtain ⟨x, hx, _, hq⟩ := covered_iff.1 hc
    have := (f2 x hx).2
    unfold InS at hq
    simp [hasB]
    omega
  have c3 : coveredB (if s0 = n then [] else [(a0 + n, s0 - n)]) q = (hasB a0 s0 q && !hasB a0 n q) := by
    have m1 := h.hm
    have m2 := h.span_may
    split
    · rename_i he
      subst he
      simp [coveredB]
    · rename_i hne
      have m3 := h.rest_may hne
      rw [Bool.eq_iff_iff]
      simp [coveredB, hasB, m1, m2, m3]
      omega
  rw [h.hx, h.hy, covered_append, covered_append, covered_append, covered_cons, c3]
  cases hb : hasB a0 n q
  · simp
  · have d1 : coveredB pre q = false := by
      cases hc : coveredB pre q
      · rfl
      · rw [c1 hc] at hb; cases hb
    have d2 : coveredB post q = false := by
      cases hc : coveredB post q
      · rfl
      · rw [c2 hc] at hb; cases hb
    simp [d1, d2]
theorem Taken.give (h : Taken n xs ys p er a0 s0 pre post) (hr : rightB a s xs = true) : ∀ ys' er', GiveRes a0 n ys ys' er' → ys' = xs ∧ er' = 0 := by
  obtain ⟨f1, f2, f3, f4, f5, f6⟩ := h.facts hr
  have hn := h.hn
  rintro ys' er' (⟨h1, _⟩ | ⟨_, h1, _⟩ | ⟨_, _, rfl, rfl⟩)
  · rw [h.span_may] at h1; cases h1
  · exfalso
    rw [List.any_eq_true] at h1
    obtain ⟨y, hy, h1⟩ := h1
    unfold giveP at h1
    rcases h.mem hy with hy | hy | ⟨hne, rfl⟩
    · have := (f1 y hy).2
      rw [meets_alt (within_may (f1 y hy).1) h.span_may] at h1
      simp at h1
      omega
    · have := (f2 y hy).2
      rw [meets_alt (within_may (f2 y hy).1) h.span_may] at h1
      simp at h1
      omega
    · rw [meets_alt (h.rest_may hne) h.span_may] at h1
      simp at h1
  · refine ⟨?_, rfl⟩
    obtain ⟨h1, h2⟩ := right_iff.1 hr
    refine Canon.unique (join_canon _) ⟨fun x hx => (may_bd (within_may (h1 x hx))).2.2.1, h2, fun q => ?_⟩
    rw [covered_append, h.covered hr, covered_cons]
    have hq : (∃ x ∈ xs, InS x q) ↔ coveredB xs q = true := by
      rw [covered_iff]
      exact ⟨fun ⟨x, hx, hp⟩ => ⟨x, hx, within_may (h1 x hx), hp⟩, fun ⟨x, hx, _, hp⟩ => ⟨x, hx, hp⟩⟩
    rw [hq]
    have hc : hasB a0 n q = true → coveredB xs q = true := by
      intro hb
      rw [h.hx, covered_append, covered_cons]
      have : hasB a0 s0 q = true := by
        rw [hasB_iff] at hb ⊢
        refine ⟨h.hm, ?_⟩
        have := hb.2
        show a0 ≤ q ∧ q < a0 + s0
        omega
      simp [this]
    cases hb : hasB a0 n q
    · simp [coveredB]
    · simp [hc hb]
end
end Go.Proofs.Ytllcekmbcmhckaa
