/- Merged by program (merge.py) out of: Law03C, Law03D, ExtG, ExtH. -/
import Derived.Test.YtkcpfimhbogdcaaMo20
import Derived.Test.YtkcpfimhbogdcaaMo31
import Derived.Test.YtkcpfimhbogdcaaMo23
/- The laws SpanTells and SpanGaps out of their walks. -/
set_option linter.unusedSimpArgs false
set_option linter.unusedVariables false
namespace Go.Proofs.Ytkcpfimhbogdcaa
open Go.RowKit

/-- What the openers give. -/
abbrev IsSpanC (v : Value) : Prop := ∃ a s : Int, v = .agg #[.int .i64 (a), .int .i64 (s)] ∧ (-9223372036854775808 ≤ a ∧ a ≤ 9223372036854775807) ∧ (-9223372036854775808 ≤ s ∧ s ≤ 9223372036854775807)
abbrev IsSpans (w : World) (v : Value) : Prop := ∃ (A : Option Addr) (cap : Nat) (xs : List (Int × Int)), v = .slice A xs.length cap ∧ xs.length ≤ 9223372036854775807 ∧ (A = none → cap = 0) ∧ (∀ x ∈ xs, (-9223372036854775808 ≤ x.1 ∧ x.1 ≤ 9223372036854775807) ∧ (-9223372036854775808 ≤ x.2 ∧ x.2 ≤ 9223372036854775807)) ∧ SpansAt w A xs
end Go.Proofs.Ytkcpfimhbogdcaa

/- The walks of the laws SpanLists and SpanParts. -/
set_option linter.unusedSimpArgs false
set_option linter.unusedVariables false
namespace Go.Proofs.Ytkcpfimhbogdcaa
open Go.RowKit

theorem refsort_c (A : Option Addr) (cap : Nat) (xs : List (Int × Int)) (n m : Nat) (V : World) (hn : xs.length = n) (hm : (sortS xs).length = m) (hlen : n ≤ 1000000) (hl : SpansAt V A xs) :
    Calls Try.prog 173 #[.slice A n cap] V fun e w' => ∃ A2 cap2, e = .returned (.slice A2 m cap2) ∧ SpansAt w' A2 (sortS xs) ∧ Ext V w' := by
  subst hn hm
  exact (refsort_any A cap xs V hlen hl).mono fun e w' h => h.open
theorem refapart_c (A : Option Addr) (cap : Nat) (xs : List (Int × Int)) (n : Nat) (V : World) (hn : xs.length = n) (hlen : n ≤ 1000000) (hl : SpansAt V A xs) :
    Calls Try.prog 113 #[.slice A n cap] V fun e w' => e = .returned (.bool (apartB xs)) ∧ Ext V w' := by
  subst hn
  exact refapart_any A cap xs V (by omega) hl

theorem gap_may {a s : Int} {xs zs : List (Int × Int)} (h : GapsOf a s xs zs) {z : Int × Int} (hz : z ∈ zs) : mayB z.1 z.2 = true := by
  have h1 := h.pos z hz
  obtain ⟨hm, h2, _⟩ := hasB_iff.1 ((h.mem z.1).1 ⟨z, hz, by omega, by omega⟩).1
  obtain ⟨_, _, h3⟩ := hasB_iff.1 ((h.mem (z.1 + z.2 - 1)).1 ⟨z, hz, by omega, by omega⟩).1
  have := may_bd hm
  simp only [mayB, decide_eq_true_eq]
  omega
theorem gap_apart {a s : Int} {xs zs : List (Int × Int)} (h : GapsOf a s xs zs) : apartB zs = true := by
  rw [apart_iff]
  refine ⟨fun z hz => gap_may h hz, ?_⟩
  have hp := h.apart
  have hm : ∀ z ∈ zs, mayB z.1 z.2 = true := fun z hz => gap_may h hz
  clear h
  induction zs with
  | nil => exact List.Pairwise.nil
  | cons z zs ih =>
    rw [List.pairwise_cons] at hp ⊢
    refine ⟨fun y hy => ?_, ih hp.2 fun y hy => hm y (by simp [hy])⟩
    rw [meets_alt (hm z (by simp)) (hm y (by simp [hy]))]
    have := hp.1 y hy
    simp
    omega
theorem gap_join {a s : Int} {xs zs : List (Int × Int)} (h : GapsOf a s xs zs) : joinL zs = zs := by
  refine Canon.unique (join_canon zs) ⟨h.pos, h.apart, fun p => ?_⟩
  rw [covered_iff]
  exact ⟨fun ⟨x, hx, hp⟩ => ⟨x, hx, gap_may h hx, hp⟩, fun ⟨x, hx, _, hp⟩ => ⟨x, hx, hp⟩⟩
/-- How many of some spans have a place. -/
def countB (p : Int) (zs : List (Int × Int)) : Nat := (zs.filter fun z => hasB z.1 z.2 p).length
theorem count_snoc {p : Int} {zs : List (Int × Int)} {k : Nat} (hk : k < zs.length) : countB p (zs.take (k + 1)) = countB p (zs.take k) + if hasB (zs.getD k (0, 0)).1 (zs.getD k (0, 0)).2 p then 1 else 0 := by
  unfold countB
  rw [List.take_succ_eq_append_getElem hk, List.filter_append, List.length_append]
  simp only [List.getD_eq_getElem?_getD, List.getElem?_eq_getElem hk, Option.getD_some]
  by_cases h : hasB zs[k].1 zs[k].2 p = true
  · simp [h]
  · simp [h]
theorem covered_snoc_k {p : Int} {xs : List (Int × Int)} {k : Nat} (hk : k < xs.length) : coveredB (xs.take (k + 1)) p = (coveredB (xs.take k) p || hasB (xs.getD k (0, 0)).1 (xs.getD k (0, 0)).2 p) := by
  unfold coveredB
  rw [List.take_succ_eq_append_getElem hk, List.any_append]
  simp [List.getElem?_eq_getElem hk]
theorem gap_count {a s p : Int} {xs zs : List (Int × Int)} (h : GapsOf a s xs zs) : countB p zs = if hasB a s p = true ∧ coveredB xs p = false then 1 else 0 := by
  have h1 : (∃ z ∈ zs, hasB z.1 z.2 p = true) ↔ (hasB a s p = true ∧ coveredB xs p = false) := by
    rw [← show LeftB a s xs p ↔ (hasB a s p = true ∧ coveredB xs p = false) from Iff.rfl, ← h.mem p]
    exact ⟨fun ⟨z, hz, hp⟩ => ⟨z, hz, (hasB_iff.1 hp).2⟩, fun ⟨z, hz, hp⟩ => ⟨z, hz, hasB_iff.2 ⟨gap_may h hz, hp⟩⟩⟩
  have h2 : countB p zs ≤ 1 := by
    have hp := h.apart
    clear h h1
    unfold countB
    induction zs with
    | nil => simp
    | cons z zs ih =>
      rw [List.pairwise_cons] at hp
      by_cases hz : hasB z.1 z.2 p = true
      · have : zs.filter (fun z => hasB z.1 z.2 p) = [] := by
          rw [List.filter_eq_nil_iff]
          intro y hy hb
          have := hp.1 y hy
          have := (hasB_iff.1 hz).2
          have := (hasB_iff.1 hb).2
          omega
        simp [hz, this]
      · simp only [List.filter_cons, hz, Bool.false_eq_true, if_false]
        exact ih hp.2
  by_cases hc : hasB a s p = true ∧ coveredB xs p = false
  · rw [if_pos hc]
    obtain ⟨z, hz, hb⟩ := h1.2 hc
    have : 0 < countB p zs := by
      unfold countB
      exact List.length_pos_of_mem (List.mem_filter.2 ⟨hz, hb⟩)
    omega
  · rw [if_neg hc]
    unfold countB
    rw [List.length_eq_zero_iff, List.filter_eq_nil_iff]
    intro z hz hb
    exact hc (h1.1 ⟨z, hz, hb⟩)
end Go.Proofs.Ytkcpfimhbogdcaa

/- The law's awake of chapter 10, and the law ExtentTells. -/
set_option linter.unusedSimpArgs false
set_option linter.unusedVariables false
namespace Go.Proofs.Ytkcpfimhbogdcaa
open Go.RowKit Go.Shelf

theorem take_c (A : Option Addr) (cap : Nat) (xs ys : List (Int × Int)) (n p er : Int) (k m : Nat) (V : World) (hn : xs.length = k) (hr : ∀ ys' p' er', TakeRes n xs ys' p' er' → ys' = ys ∧ p' = p ∧ er' = er) (hm : ys.length = m) (hlen : k ≤ 1000000) (hl : SpansAt V A xs) :
    Calls Try.prog 103 #[.slice A k cap, .int .i64 n] V fun e w' => ∃ A2 cap2, e = .returned (.tuple #[.slice A2 m cap2, .int .i64 p, .int .i64 er]) ∧ SpansAt w' A2 ys ∧ Ext V w' := by
  subst hn hm
  refine (take_any A cap xs n V hlen hl).mono ?_
  rintro e w' ⟨ys', p', er', m, A2, cap2, h, rfl, rfl, h1, h2⟩
  obtain ⟨rfl, rfl, rfl⟩ := hr _ _ _ h
  exact ⟨A2, cap2, rfl, h1, h2⟩
theorem give_c (A : Option Addr) (cap : Nat) (xs ys : List (Int × Int)) (a s er : Int) (k m : Nat) (V : World) (hn : xs.length = k) (hr : ∀ ys' er', GiveRes a s xs ys' er' → ys' = ys ∧ er' = er) (hm : ys.length = m) (hlen : k ≤ 400000) (hl : SpansAt V A xs) :
    Calls Try.prog 110 #[.slice A k cap, .agg #[.int .i64 (a), .int .i64 (s)]] V fun e w' => ∃ A2 cap2, e = .returned (.tuple #[.slice A2 m cap2, .int .i64 er]) ∧ SpansAt w' A2 ys ∧ Ext V w' := by
  subst hn hm
  refine (give_any A cap xs a s V hlen hl).mono ?_
  rintro e w' ⟨ys', er', m, A2, cap2, h, rfl, rfl, h1, h2⟩
  obtain ⟨rfl, rfl⟩ := hr _ _ h
  exact ⟨A2, cap2, rfl, h1, h2⟩
def aw10 : List (Int × Int) := [(0, 2), (4, 5)]
theorem aw10_take (ys' : List (Int × Int)) (p' er' : Int) (h : TakeRes 3 aw10 ys' p' er') : ys' = [(0, 2), (7, 2)] ∧ p' = 4 ∧ er' = 0 := by
  rcases h with ⟨h, _⟩ | ⟨_, h, _⟩ | ⟨_, k, hk, hi, hy, rfl, rfl, rfl⟩
  · omega
  · exact absurd (h (4, 5) (by simp [aw10])) (by decide)
  · have hi' : idxZ (takeP 3) aw10 = 1 := by decide
    obtain rfl : k = 1 := by rw [hi'] at hi; omega
    decide
theorem aw10_give : ∀ ys' er', GiveRes 2 2 [(0, 2), (7, 2)] ys' er' → ys' = [(0, 4), (7, 2)] ∧ er' = 0 := by
  rintro ys' er' (⟨h, _⟩ | ⟨_, h, _⟩ | ⟨_, _, rfl, rfl⟩)
  · exact absurd h (by decide)
  · exact absurd h (by decide)
  · refine ⟨?_, rfl⟩
    have h := (sortS_unique (l := [(0, 2), (7, 2)] ++ [(2, 2)]) (z := [(0, 2), (2, 2), (7, 2)]) (by decide) (by decide)).symm
    unfold joinL
    rw [h]
    decide
theorem aw10_twice : ∀ ys' er', GiveRes 8 1 [(0, 4), (7, 2)] ys' er' → ys' = [(0, 4), (7, 2)] ∧ er' = 16 := by
  rintro ys' er' (⟨h, _⟩ | ⟨_, _, rfl, rfl⟩ | ⟨_, h, _⟩)
  · exact absurd h (by decide)
  · exact ⟨rfl, rfl⟩
  · exact absurd h (by decide)
theorem aw10_none (ys' : List (Int × Int)) (p' er' : Int) (h : TakeRes 6 aw10 ys' p' er') : ys' = aw10 ∧ p' = 0 ∧ er' = 9 := by
  rcases h with ⟨h, _⟩ | ⟨_, _, rfl, rfl, rfl⟩ | ⟨_, k, hk, hi, hy, rfl, rfl, rfl⟩
  · omega
  · exact ⟨rfl, rfl, rfl⟩
  · have hi' : idxZ (takeP 6) aw10 = -1 := by decide
    rw [hi'] at hi; omega
theorem aw10_right : rightB 0 9 aw10 = true :=
  right_yes fun i hi => by
    have : i = 0 ∨ i = 1 := by simp [aw10] at hi; omega
    rcases this with rfl | rfl
    · exact ⟨by decide, fun j hj => absurd hj (by omega)⟩
    · refine ⟨by decide, fun j hj => ?_⟩
      obtain rfl : j = 0 := by omega
      decide
theorem aw10_right8 : rightB 0 8 aw10 = false := right_no (k := 1) (by decide) (by decide)
theorem aw10_largest : largestL aw10 = 5 := by decide

end Go.Proofs.Ytkcpfimhbogdcaa

/- What Take and Give come to, of free words that may be: in plain Lean. -/
set_option linter.unusedSimpArgs false
set_option linter.unusedVariables false
namespace Go.Proofs.Ytkcpfimhbogdcaa
open Go.RowKit Go.Shelf

theorem join_self {xs : List (Int × Int)} (h1 : ∀ x ∈ xs, mayB x.1 x.2 = true) (h2 : xs.Pairwise fun x y => x.1 + x.2 < y.1) : joinL xs = xs := by
  refine Canon.unique (join_canon xs) ⟨fun x hx => (may_bd (h1 x hx)).2.2.1, h2, fun p => ?_⟩
  rw [covered_iff]
  exact ⟨fun ⟨x, hx, hp⟩ => ⟨x, hx, h1 x hx, hp⟩, fun ⟨x, hx, _, hp⟩ => ⟨x, hx, hp⟩⟩
theorem right_iff {a s : Int} {xs : List (Int × Int)} : rightB a s xs = true ↔ (∀ x ∈ xs, withinB x.1 x.2 a s = true) ∧ xs.Pairwise fun x y => x.1 + x.2 < y.1 := by
  rw [rightB, Bool.and_eq_true, List.all_eq_true, decide_eq_true_eq]
  constructor
  · rintro ⟨h1, h2⟩
    have := (join_canon xs).apart
    rw [h2] at this
    exact ⟨h1, this⟩
  · rintro ⟨h1, h2⟩
    exact ⟨h1, join_self (fun x hx => within_may (h1 x hx)) h2⟩

theorem largest_ge : ∀ (xs : List (Int × Int)) (n : Int), n ≤ xs.foldl lgT n ∧ ∀ x ∈ xs, mayB x.1 x.2 = true → x.2 ≤ xs.foldl lgT n := by
  intro xs
  induction xs with
  | nil => intro n; exact ⟨Int.le_refl _, by simp⟩
  | cons y ys ih =>
    intro n
    obtain ⟨h1, h2⟩ := ih (lgT n y)
    have h3 : n ≤ lgT n y := by unfold lgT; split <;> omega
    refine ⟨by simp only [List.foldl_cons]; omega, fun x hx hm => ?_⟩
    simp only [List.foldl_cons]
    rcases List.mem_cons.1 hx with rfl | hx
    · have : x.2 ≤ lgT n x := by unfold lgT; rw [if_pos hm]; omega
      omega
    · exact h2 x hx hm
theorem largest_at : ∀ (xs : List (Int × Int)) (n : Int), xs.foldl lgT n = n ∨ ∃ x ∈ xs, mayB x.1 x.2 = true ∧ x.2 = xs.foldl lgT n := by
  intro xs
  induction xs with
  | nil => intro n; exact .inl rfl
  | cons y ys ih =>
    intro n
    simp only [List.foldl_cons]
    rcases ih (lgT n y) with h | ⟨x, hx, h1, h2⟩
    · unfold lgT at h ⊢
      by_cases hm : mayB y.1 y.2 = true
      · rw [if_pos hm] at h ⊢
        by_cases h4 : n < y.2
        · exact .inr ⟨y, by simp, hm, by rw [h]; omega⟩
        · exact .inl (by rw [h]; omega)
      · rw [if_neg hm] at h ⊢
        exact .inl h
    · exact .inr ⟨x, by simp [hx], h1, h2⟩
/-- There is no room. -/
theorem take_not {n : Int} {xs ys : List (Int × Int)} {p er : Int} (h : TakeRes n xs ys p er) (hn : n < 1 ∨ largestL xs < n) : ys = xs ∧ er ≠ 0 := by
  rcases h with ⟨_, h, _, h3⟩ | ⟨_, _, h, _, h3⟩ | ⟨h1, k, hk, _, hy, _⟩
  · exact ⟨h, by omega⟩
  · exact ⟨h, by omega⟩
  · exfalso
    have hm : mayB (gt xs k).1 (gt xs k).2 = true ∧ n ≤ (gt xs k).2 := by simpa [takeP] using hy
    have hmem : gt xs k ∈ xs := by rw [gt_eq hk]; exact List.getElem_mem hk
    have := (largest_ge xs 0).2 _ hmem hm.1
    unfold largestL at hn
    omega
/-- What stands ahead of the span, and behind it. -/
structure Taken (n : Int) (xs ys : List (Int × Int)) (p er a0 s0 : Int) (pre post : List (Int × Int)) : Prop where
  hx : xs = pre ++ (a0, s0) :: post
  hy : ys = pre ++ ((if s0 = n then [] else [(a0 + n, s0 - n)]) ++ post)
  hm : mayB a0 s0 = true
  hn : 1 ≤ n ∧ n ≤ s0
  hp : p = a0
  he : er = 0
theorem take_yes {n : Int} {xs ys : List (Int × Int)} {p er : Int} (h : TakeRes n xs ys p er) (h1 : 1 ≤ n) (h2 : n ≤ largestL xs) : ∃ a0 s0 pre post, Taken n xs ys p er a0 s0 pre post := by
  rcases h with ⟨h, _⟩ | ⟨_, h, _⟩ | ⟨_, k, hk, _, hy, rfl, rfl, rfl⟩
  · omega
  · exfalso
    rcases largest_at xs 0 with h3 | ⟨x, hx, hm, h3⟩
    · unfold largestL at h2; omega
    · have := h x hx
      unfold largestL at h2
      simp only [takeP, hm, Bool.true_and, decide_eq_false_iff_not] at this
      omega
  · have hm : mayB (gt xs k).1 (gt xs k).2 = true ∧ n ≤ (gt xs k).2 := by simpa [takeP] using hy
    refine ⟨(gt xs k).1, (gt xs k).2, xs.take k, xs.drop (k + 1), ?_, ?_, hm.1, ⟨h1, hm.2⟩, rfl, rfl⟩
    · show xs = xs.take k ++ gt xs k :: xs.drop (k + 1)
      rw [gt_eq hk, List.getElem_cons_drop, List.take_append_drop]
    · unfold takeL
      split
      · rw [List.eraseIdx_eq_take_drop_succ, List.nil_append]
      · rw [List.set_eq_take_append_cons_drop, if_pos hk]; rfl

section
variable {n : Int} {xs ys : List (Int × Int)} {p er a0 s0 a s : Int} {pre post : List (Int × Int)}
theorem Taken.facts (h : Taken n xs ys p er a0 s0 pre post) (hr : rightB a s xs = true) :
    (∀ y ∈ pre, withinB y.1 y.2 a s = true ∧ y.1 + y.2 < a0) ∧ (∀ y ∈ post, withinB y.1 y.2 a s = true ∧ a0 + s0 < y.1) ∧ withinB a0 s0 a s = true ∧
    pre.Pairwise (fun x y => x.1 + x.2 < y.1) ∧ post.Pairwise (fun x y => x.1 + x.2 < y.1) ∧ ∀ x ∈ pre, ∀ y ∈ post, x.1 + x.2 < y.1 := by
  obtain ⟨h1, h2⟩ := right_iff.1 hr
  rw [h.hx] at h1 h2
  rw [List.pairwise_append, List.pairwise_cons] at h2
  obtain ⟨p1, ⟨p2, p3⟩, p4⟩ := h2
  exact ⟨fun y hy => ⟨h1 y (by simp [hy]), p4 y hy (a0, s0) (by simp)⟩, fun y hy => ⟨h1 y (by simp [hy]), p2 y hy⟩, h1 (a0, s0) (by simp), p1, p3, fun x hx y hy => p4 x hx y (by simp [hy])⟩
theorem Taken.len (h : Taken n xs ys p er a0 s0 pre post) : ys.length ≤ xs.length := by
  rw [h.hx, h.hy]
  split <;> simp
theorem Taken.mem (h : Taken n xs ys p er a0 s0 pre post) {y : Int × Int} (hy : y ∈ ys) : y ∈ pre ∨ y ∈ post ∨ (s0 ≠ n ∧ y = (a0 + n, s0 - n)) := by
  rw [h.hy] at hy
  simp only [List.mem_append] at hy
  rcases hy with hy | hy | hy
  · exact .inl hy
  · split at hy
    · simp at hy
    · rename_i hne
      exact .inr (.inr ⟨hne, by simpa using hy⟩)
  · exact .inr (.inl hy)
theorem within_iff {a s c d : Int} : withinB a s c d = true ↔ mayB a s = true ∧ mayB c d = true ∧ c ≤ a ∧ a + s ≤ c + d := by
  simp [withinB, and_assoc]
theorem Taken.rest_may (h : Taken n xs ys p er a0 s0 pre post) (hne : s0 ≠ n) : mayB (a0 + n) (s0 - n) = true := by
  have h1 := may_bd h.hm
  have h2 := h.hn
  simp only [mayB, decide_eq_true_eq]
  omega
theorem Taken.span_may (h : Taken n xs ys p er a0 s0 pre post) : mayB a0 n = true := by
  have h1 := may_bd h.hm
  have h2 := h.hn
  simp only [mayB, decide_eq_true_eq]
  omega
theorem Taken.right (h : Taken n xs ys p er a0 s0 pre post) (hr : rightB a s xs = true) : rightB a s ys = true := by
  obtain ⟨f1, f2, f3, f4, f5, f6⟩ := h.facts hr
  obtain ⟨g1, g2, g3⟩ := within_iff.1 f3
  have hn := h.hn
  refine right_iff.2 ⟨fun y hy => ?_, ?_⟩
  · rcases h.mem hy with hy | hy | ⟨hne, rfl⟩
    · exact (f1 y hy).1
    · exact (f2 y hy).1
    · exact within_iff.2 ⟨h.rest_may hne, g2, by show a ≤ a0 + n; omega, by show a0 + n + (s0 - n) ≤ a + s; omega⟩
  · rw [h.hy, List.pairwise_append]
    refine ⟨f4, ?_, fun x hx y hy => ?_⟩
    · split
      · exact f5
      · rw [List.cons_append, List.nil_append, List.pairwise_cons]
        refine ⟨fun y hy => ?_, f5⟩
        have := (f2 y hy).2
        show a0 + n + (s0 - n) < y.1
        omega
    · have h1 := (f1 x hx).2
      rw [List.mem_append] at hy
      rcases hy with hy | hy
      · split at hy
        · simp at hy
        · obtain rfl : y = (a0 + n, s0 - n) := by simpa using hy
          show x.1 + x.2 < a0 + n
          omega
      · exact f6 x hx y hy
theorem covered_append (l1 l2 : List (Int × Int)) (q : Int) : coveredB (l1 ++ l2) q = (coveredB l1 q || coveredB l2 q) := by simp [coveredB]
theorem covered_cons (x : Int × Int) (l : List (Int × Int)) (q : Int) : coveredB (x :: l) q = (hasB x.1 x.2 q || coveredB l q) := by simp [coveredB]
theorem Taken.covered (h : Taken n xs ys p er a0 s0 pre post) (hr : rightB a s xs = true) (q : Int) : coveredB ys q = (coveredB xs q && !hasB a0 n q) := by
  obtain ⟨f1, f2, f3, f4, f5, f6⟩ := h.facts hr
  have hn := h.hn
  have c1 : coveredB pre q = true → hasB a0 n q = false := by
    intro hc
    obtain ⟨x, hx, _, hq⟩ := covered_iff.1 hc
    have := (f1 x hx).2
    unfold InS at hq
    simp [hasB]
    omega
  have c2 : coveredB post q = true → hasB a0 n q = false := by
    intro hc
    obtain ⟨x, hx, _, hq⟩ := covered_iff.1 hc
    have := (f2 x hx).2
    unfold InS at hq
    simp [hasB]
    omega
  have c3 : coveredB (if s0 = n then [] else [(a0 + n, s0 - n)]) q = (hasB a0 s0 q && !hasB a0 n q) := by
    have m1 := h.hm
    have m2 := h.span_may
    split
    · rename_i he
      subst he
      simp [coveredB]
    · rename_i hne
      have m3 := h.rest_may hne
      rw [Bool.eq_iff_iff]
      simp [coveredB, hasB, m1, m2, m3]
      omega
  rw [h.hx, h.hy, covered_append, covered_append, covered_append, covered_cons, c3]
  cases hb : hasB a0 n q
  · simp
  · have d1 : coveredB pre q = false := by
      cases hc : coveredB pre q
      · rfl
      · rw [c1 hc] at hb; cases hb
    have d2 : coveredB post q = false := by
      cases hc : coveredB post q
      · rfl
      · rw [c2 hc] at hb; cases hb
    simp [d1, d2]
theorem Taken.give (h : Taken n xs ys p er a0 s0 pre post) (hr : rightB a s xs = true) : ∀ ys' er', GiveRes a0 n ys ys' er' → ys' = xs ∧ er' = 0 := by
  obtain ⟨f1, f2, f3, f4, f5, f6⟩ := h.facts hr
  have hn := h.hn
  rintro ys' er' (⟨h1, _⟩ | ⟨_, h1, _⟩ | ⟨_, _, rfl, rfl⟩)
  · rw [h.span_may] at h1; cases h1
  · exfalso
    rw [List.any_eq_true] at h1
    obtain ⟨y, hy, h1⟩ := h1
    unfold giveP at h1
    rcases h.mem hy with hy | hy | ⟨hne, rfl⟩
    · have := (f1 y hy).2
      rw [meets_alt (within_may (f1 y hy).1) h.span_may] at h1
      simp at h1
      omega
    · have := (f2 y hy).2
      rw [meets_alt (within_may (f2 y hy).1) h.span_may] at h1
      simp at h1
      omega
    · rw [meets_alt (h.rest_may hne) h.span_may] at h1
      simp at h1
  · refine ⟨?_, rfl⟩
    obtain ⟨h1, h2⟩ := right_iff.1 hr
    refine Canon.unique (join_canon _) ⟨fun x hx => (may_bd (within_may (h1 x hx))).2.2.1, h2, fun q => ?_⟩
    rw [covered_append, h.covered hr, covered_cons]
    have hq : (∃ x ∈ xs, InS x q) ↔ coveredB xs q = true := by
      rw [covered_iff]
      exact ⟨fun ⟨x, hx, hp⟩ => ⟨x, hx, within_may (h1 x hx), hp⟩, fun ⟨x, hx, _, hp⟩ => ⟨x, hx, hp⟩⟩
    rw [hq]
    have hc : hasB a0 n q = true → coveredB xs q = true := by
      intro hb
      rw [h.hx, covered_append, covered_cons]
      have : hasB a0 s0 q = true := by
        rw [hasB_iff] at hb ⊢
        refine ⟨h.hm, ?_⟩
        have := hb.2
        show a0 ≤ q ∧ q < a0 + s0
        omega
      simp [this]
    cases hb : hasB a0 n q
    · simp [coveredB]
    · simp [hc hb]
end
end Go.Proofs.Ytkcpfimhbogdcaa

