/- What spans leave of one, as plain lists. Of no program. -/
import Derived.Test.YtllcekmbcmhckaaRowsSpec
set_option linter.unusedSimpArgs false
set_option linter.unusedVariables false
namespace Go.Proofs.Ytllcekmbcmhckaa

/-- A word of the whole that no span has. -/
def LeftB (a s : Int) (xs : List (Int × Int)) (p : Int) : Prop := hasB a s p = true ∧ coveredB xs p = false
def GapsOf (a s : Int) (xs zs : List (Int × Int)) : Prop := Canon zs (LeftB a s xs)

theorem between {ys : List (Int × Int)} {es : List Int} (h : EndsOf ys es) {i : Nat} (hi : i + 1 < es.length) {p : Int} (h1 : es[i] ≤ p) (h2 : p < es[i + 1]) {x : Int × Int} (hx : x ∈ ys) (hm : mayB x.1 x.2 = true) : InS x p ↔ InS x es[i] := by
  have no : ∀ z ∈ es, z ≤ es[i] ∨ es[i + 1] ≤ z := by
    intro z hz
    obtain ⟨j, hj, rfl⟩ := List.getElem_of_mem hz
    rcases Nat.lt_trichotomy j i with hlt | rfl | hgt
    · exact .inl (Int.le_of_lt (List.pairwise_iff_getElem.1 h.inc j i (by omega) (by omega) hlt))
    · exact .inl (Int.le_refl _)
    · rcases Nat.lt_or_ge (i + 1) j with h3 | h3
      · exact .inr (Int.le_of_lt (List.pairwise_iff_getElem.1 h.inc (i + 1) j (by omega) (by omega) h3))
      · obtain rfl : j = i + 1 := by omega
        exact .inr (Int.le_refl _)
  have a1 := no x.1 ((h.mem _).2 ⟨x, hx, hm, .inl rfl⟩)
  have a2 := no (x.1 + x.2) ((h.mem _).2 ⟨x, hx, hm, .inr rfl⟩)
  constructor
  · rintro ⟨b1, b2⟩; exact ⟨by omega, by omega⟩
  · rintro ⟨b1, b2⟩; exact ⟨by omega, by omega⟩
theorem left_between {a s : Int} {xs : List (Int × Int)} {es : List Int} (h : EndsOf ((a, s) :: xs) es) {i : Nat} (hi : i + 1 < es.length) {p : Int} (h1 : es[i] ≤ p) (h2 : p < es[i + 1]) : hasB a s p = hasB a s es[i] ∧ coveredB xs p = coveredB xs es[i] := by
  constructor
  · rw [Bool.eq_iff_iff, hasB_iff, hasB_iff]
    exact ⟨fun ⟨hm, hp⟩ => ⟨hm, (between h hi h1 h2 (x := (a, s)) (by simp) hm).1 hp⟩, fun ⟨hm, hp⟩ => ⟨hm, (between h hi h1 h2 (x := (a, s)) (by simp) hm).2 hp⟩⟩
  · rw [Bool.eq_iff_iff, covered_iff, covered_iff]
    exact ⟨fun ⟨x, hx, hm, hp⟩ => ⟨x, hx, hm, (between h hi h1 h2 (by simp [hx]) hm).1 hp⟩, fun ⟨x, hx, hm, hp⟩ => ⟨x, hx, hm, (between h hi h1 h2 (by simp [hx]) hm).2 hp⟩⟩
theorem left_covered {a s : Int} {xs : List (Int × Int)} {p : Int} (h : LeftB a s xs p) : coveredB ((a, s) :: xs) p = true := by
  rw [covered_iff]
  obtain ⟨hm, hp⟩ := hasB_iff.1 h.1
  exact ⟨(a, s), by simp, hm, hp⟩
theorem gap_start {a s : Int} {xs : List (Int × Int)} {es : List Int} (h : EndsOf ((a, s) :: xs) es) (h0 : 0 < es.length) : JoinTo (LeftB a s xs) es[0] [] := by
  refine ⟨Canon.nil fun p hp => ?_, by simp⟩
  obtain ⟨i, hi, h1, h2⟩ := covered_lt h (left_covered hp.1)
  rcases Nat.eq_zero_or_pos i with rfl | h3
  · omega
  · have := List.pairwise_iff_getElem.1 h.inc 0 i h0 (by omega) h3
    have := hp.2
    omega
theorem gap_end {a s : Int} {xs zs : List (Int × Int)} {es : List Int} (h : EndsOf ((a, s) :: xs) es) (h0 : 0 < es.length) (hz : JoinTo (LeftB a s xs) (es[es.length - 1]'(by omega)) zs) : GapsOf a s xs zs := by
  refine hz.canon.congr fun p => ⟨fun a => a.1, fun a => ⟨a, ?_⟩⟩
  obtain ⟨i, hi, h1, h2⟩ := covered_lt h (left_covered a)
  rcases Nat.lt_or_ge (i + 1) (es.length - 1) with h3 | h3
  · have := List.pairwise_iff_getElem.1 h.inc (i + 1) (es.length - 1) hi (by omega) h3
    omega
  · have e : i + 1 = es.length - 1 := by omega
    simp only [← e]
    exact h2
theorem gap_none {a s : Int} {xs : List (Int × Int)} {es : List Int} (h : EndsOf ((a, s) :: xs) es) (h0 : es.length ≤ 0) : GapsOf a s xs [] :=
  Canon.nil fun p hp => by obtain ⟨i, hi, _⟩ := covered_lt h (left_covered hp); omega
theorem gap_nonneg {a s : Int} {xs zs : List (Int × Int)} {e : Int} (h : JoinTo (LeftB a s xs) e zs) : ∀ x ∈ zs, 0 ≤ x.1 ∧ 0 ≤ x.2 ∧ x.1 + x.2 ≤ e := by
  intro x hx
  have h1 := h.canon.pos x hx
  have h2 := h.upto x hx
  have h3 := ((h.canon.mem x.1).1 ⟨x, hx, by omega, by omega⟩).1.1
  obtain ⟨hm, h4, h5⟩ := hasB_iff.1 h3
  have := may_bd hm
  omega

/-- One more joined span: what is left so far, and from where on. -/
def stepG (st : List (Int × Int) × Int) (x : Int × Int) : List (Int × Int) × Int := (if st.2 < x.1 then st.1 ++ [(st.2, x.1 - st.2)] else st.1, max st.2 (x.1 + x.2))
def foldG (a : Int) (l : List (Int × Int)) : List (Int × Int) × Int := l.foldl stepG ([], a)
/-- What is left behind the last. -/
def restG (a s : Int) (st : List (Int × Int) × Int) : List (Int × Int) := if st.2 < a + s then st.1 ++ [(st.2, a + s - st.2)] else st.1
theorem foldG_snoc (a : Int) (l : List (Int × Int)) (x : Int × Int) : foldG a (l ++ [x]) = stepG (foldG a l) x := by simp [foldG]

structure InvG (a : Int) (l : List (Int × Int)) (st : List (Int × Int) × Int) : Prop where
  canon : Canon st.1 (fun p => a ≤ p ∧ p < st.2 ∧ ¬ ∃ x ∈ l, InS x p)
  lt : ∀ y ∈ st.1, y.1 + y.2 < st.2
  ends : ∀ x ∈ l, x.1 + x.2 ≤ st.2
  att : st.2 = a ∨ ∃ x ∈ l, st.2 = x.1 + x.2
  ge : a ≤ st.2
theorem InvG.step {a : Int} {l : List (Int × Int)} {st : List (Int × Int) × Int} {x : Int × Int} (h : InvG a l st) (hx : 1 ≤ x.2) (hl : ∀ y ∈ l, y.1 + y.2 < x.1) : InvG a (l ++ [x]) (stepG st x) := by
  obtain ⟨out, at0⟩ := st
  obtain ⟨hc, hlt, he, ha, hg⟩ := h
  simp only at hc hlt he ha hg
  have hpre : ∀ p, (∃ y ∈ l ++ [x], InS y p) ↔ (∃ y ∈ l, InS y p) ∨ InS x p := by
    intro p
    constructor
    · rintro ⟨y, hy, hp⟩
      rw [List.mem_append, List.mem_singleton] at hy
      rcases hy with hy | rfl
      · exact .inl ⟨y, hy, hp⟩
      · exact .inr hp
    · rintro (⟨y, hy, hp⟩ | hp)
      · exact ⟨y, by simp [hy], hp⟩
      · exact ⟨x, by simp, hp⟩
  have hno : ∀ p, at0 ≤ p → ¬ ∃ y ∈ l, InS y p := by
    rintro p hp ⟨y, hy, h1, h2⟩
    have := he y hy
    omega
  have ends' : ∀ y ∈ l ++ [x], y.1 + y.2 ≤ max at0 (x.1 + x.2) := by
    intro y hy
    rw [List.mem_append, List.mem_singleton] at hy
    rcases hy with hy | rfl
    · have := he y hy; omega
    · omega
  by_cases hj : at0 < x.1
  · have e : stepG (out, at0) x = (out ++ [(at0, x.1 - at0)], max at0 (x.1 + x.2)) := by simp [stepG, hj]
    rw [e]
    refine ⟨canon_append hc (by simp only; omega) hlt fun p => ?_, fun y hy => ?_, ends', .inr ⟨x, by simp, by simp only; omega⟩, by simp only; omega⟩
    · simp only [hpre p]
      constructor
      · rintro ⟨h1, h2, h3⟩
        by_cases hp : p < at0
        · exact .inl ⟨h1, hp, fun h => h3 (.inl h)⟩
        · refine .inr ⟨by simp only; omega, ?_⟩
          have : ¬ InS x p := fun h => h3 (.inr h)
          simp only [InS] at this ⊢
          omega
      · rintro (⟨h1, h2, h3⟩ | ⟨h1, h2⟩)
        · exact ⟨h1, by omega, fun h => h.elim h3 (fun ⟨h4, _⟩ => by omega)⟩
        · simp only at h1 h2
          exact ⟨by omega, by omega, fun h => h.elim (hno p h1) (fun ⟨h4, _⟩ => by omega)⟩
    · rw [List.mem_append, List.mem_singleton] at hy
      rcases hy with hy | rfl
      · have := hlt y hy; simp only; omega
      · simp only; omega
  · have e : stepG (out, at0) x = (out, max at0 (x.1 + x.2)) := by simp [stepG, hj]
    have hat : at0 = a := by
      rcases ha with h | ⟨y, hy, h⟩
      · exact h
      · have := hl y hy; omega
    rw [e]
    refine ⟨hc.congr fun p => ?_, fun y hy => by have := hlt y hy; simp only; omega, ends', ?_, by simp only; omega⟩
    · simp only [hpre p]
      constructor
      · rintro ⟨h1, h2, h3⟩; omega
      · rintro ⟨h1, h2, h3⟩
        exfalso
        have : ¬ InS x p := fun h => h3 (.inr h)
        simp only [InS] at this
        omega
    · by_cases hm : at0 ≤ x.1 + x.2
      · exact .inr ⟨x, by simp, by simp only; omega⟩
      · exact .inl (by simp only; omega)

theorem InvG.start (a : Int) : InvG a [] ([], a) := ⟨Canon.nil (by intro p; simp only; omega), by simp, by simp, .inl rfl, Int.le_refl _⟩
/-- The joined spans rise and lie apart. -/
theorem invG (a : Int) (js : List (Int × Int)) (hp : ∀ x ∈ js, 1 ≤ x.2) (ha : js.Pairwise (fun x y => x.1 + x.2 < y.1)) : ∀ pre, pre <+: js → InvG a pre (foldG a pre) := by
  intro pre
  obtain ⟨n, hn⟩ : ∃ n, pre.length = n := ⟨_, rfl⟩
  induction n generalizing pre with
  | zero =>
    intro _
    obtain rfl := List.eq_nil_of_length_eq_zero hn
    exact InvG.start a
  | succ n ih =>
    intro h
    rcases List.eq_nil_or_concat pre with rfl | ⟨ys, x, rfl⟩
    · simp at hn
    rw [List.concat_eq_append] at *
    have hys : ys <+: js := (List.prefix_append ys [x]).trans h
    rw [foldG_snoc]
    have hpw := ha.sublist h.sublist
    rw [List.pairwise_append] at hpw
    exact (ih ys (by simpa using hn) hys).step (hp x (h.subset (by simp))) fun y hy => hpw.2.2 y hy x (by simp)
/-- All has come. -/
theorem gaps_all {a s : Int} {xs js : List (Int × Int)} (hm : mayB a s = true) (hj : JoinOf xs js) {pre : List (Int × Int)} (hpre : pre <+: js) (hlt : ∀ x ∈ pre, x.1 < a + s)
    (hrest : pre = js ∨ ∃ x, pre ++ [x] <+: js ∧ a + s ≤ x.1) : GapsOf a s xs (restG a s (foldG a pre)) := by
  have hI := invG a js hj.pos hj.apart pre hpre
  have hmb := may_bd hm
  have hcov : ∀ p, p < a + s → (coveredB xs p = true ↔ ∃ x ∈ pre, InS x p) := by
    intro p hp
    rw [← hj.mem p]
    constructor
    · rintro ⟨y, hy, h1, h2⟩
      rcases hrest with rfl | ⟨x, ⟨tl, ht⟩, hx⟩
      · exact ⟨y, hy, h1, h2⟩
      · rw [← ht, List.mem_append, List.mem_append, List.mem_singleton] at hy
        rcases hy with (hy | rfl) | hy
        · exact ⟨y, hy, h1, h2⟩
        · omega
        · have hap := hj.apart
          rw [← ht, List.pairwise_append] at hap
          have := hap.2.2 x (by simp) y hy
          have := hj.pos x (by rw [← ht]; simp)
          omega
    · rintro ⟨y, hy, h⟩
      exact ⟨y, hpre.subset hy, h⟩
  generalize foldG a pre = st at *
  obtain ⟨out, at0⟩ := st
  obtain ⟨hc, hl, he, ha, hg⟩ := hI
  simp only at hc hl he ha hg
  have hleft : ∀ p, LeftB a s xs p ↔ a ≤ p ∧ p < a + s ∧ ¬ ∃ x ∈ pre, InS x p := by
    intro p
    unfold LeftB
    rw [hasB_iff]
    constructor
    · rintro ⟨⟨_, h1, h2⟩, h3⟩
      exact ⟨h1, h2, fun h => by rw [(hcov p h2).2 h] at h3; cases h3⟩
    · rintro ⟨h1, h2, h3⟩
      refine ⟨⟨hm, h1, h2⟩, ?_⟩
      cases hb : coveredB xs p
      · rfl
      · exact absurd ((hcov p h2).1 hb) h3
  have hno : ∀ p, at0 ≤ p → ¬ ∃ y ∈ pre, InS y p := by
    rintro p hp ⟨y, hy, h1, h2⟩
    have := he y hy
    omega
  unfold restG GapsOf
  by_cases hr : at0 < a + s
  · rw [if_pos hr]
    refine canon_append hc (by simp only; omega) hl fun p => ?_
    rw [hleft p]
    constructor
    · rintro ⟨h1, h2, h3⟩
      by_cases hp : p < at0
      · exact .inl ⟨h1, hp, h3⟩
      · exact .inr ⟨by simp only; omega, by simp only; omega⟩
    · rintro (⟨h1, h2, h3⟩ | ⟨h1, h2⟩)
      · exact ⟨h1, by omega, h3⟩
      · simp only at h1 h2
        exact ⟨by omega, by omega, hno p h1⟩
  · rw [if_neg hr]
    refine hc.congr fun p => ?_
    rw [hleft p]
    constructor
    · rintro ⟨h1, h2, h3⟩
      refine ⟨h1, ?_, h3⟩
      rcases ha with h | ⟨y, hy, h⟩
      · omega
      · rcases Int.lt_or_le p (a + s) with h4 | h4
        · exact h4
        · have := hlt y hy
          exact absurd ⟨y, hy, by omega, by omega⟩ h3
    · rintro ⟨h1, h2, h3⟩; exact ⟨h1, by omega, h3⟩
end Go.Proofs.Ytllcekmbcmhckaa
