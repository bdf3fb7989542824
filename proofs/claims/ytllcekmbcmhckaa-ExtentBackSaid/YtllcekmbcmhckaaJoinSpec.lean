/- What joined spans are: the one list of spans that lie apart, do not touch, and have just these words. -/
import Derived.Test.YtllcekmbcmhckaaRef03B
import Derived.Test.YtllcekmbcmhckaaSpanSpec
set_option linter.unusedSimpArgs false
set_option linter.unusedVariables false
namespace Go.Proofs.Ytllcekmbcmhckaa

/-- A place of a span, by its numbers. -/
abbrev InS (x : Int × Int) (p : Int) : Prop := x.1 ≤ p ∧ p < x.1 + x.2
structure Canon (zs : List (Int × Int)) (S : Int → Prop) : Prop where
  pos : ∀ x ∈ zs, 1 ≤ x.2
  apart : zs.Pairwise (fun x y => x.1 + x.2 < y.1)
  mem : ∀ p, (∃ x ∈ zs, InS x p) ↔ S p

theorem Canon.nil {S : Int → Prop} (h : ∀ p, ¬ S p) : Canon [] S := ⟨by simp, List.Pairwise.nil, fun p => by simp [h p]⟩

theorem Canon.congr {zs : List (Int × Int)} {S T : Int → Prop} (h : Canon zs S) (e : ∀ p, S p ↔ T p) : Canon zs T := ⟨h.pos, h.apart, fun p => (h.mem p).trans (e p)⟩

theorem Canon.tail {x : Int × Int} {zs : List (Int × Int)} {S : Int → Prop} (h : Canon (x :: zs) S) : Canon zs (fun p => S p ∧ x.1 + x.2 ≤ p) := by
  have ha := h.apart
  rw [List.pairwise_cons] at ha
  refine ⟨fun y hy => h.pos y (by simp [hy]), ha.2, fun p => ⟨fun ⟨y, hy, hp⟩ => ⟨(h.mem p).1 ⟨y, by simp [hy], hp⟩, ?_⟩, fun ⟨hs, hp⟩ => ?_⟩⟩
  · have := ha.1 y hy
    have := hp.1
    omega
  · obtain ⟨y, hy, hyp⟩ := (h.mem p).2 hs
    rw [List.mem_cons] at hy
    rcases hy with rfl | hy
    · have := hyp.2; omega
    · exact ⟨y, hy, hyp⟩

theorem Canon.unique : ∀ {zs ys : List (Int × Int)} {S : Int → Prop}, Canon zs S → Canon ys S → zs = ys := by
  intro zs
  induction zs with
  | nil =>
    intro ys S h k
    cases ys with
    | nil => rfl
    | cons y ys =>
      have := (k.mem y.1).1 ⟨y, by simp, by have := k.pos y (by simp); exact ⟨by omega, by omega⟩⟩
      have := (h.mem y.1).2 this
      simp at this
  | cons x zs ih =>
    intro ys S h k
    cases ys with
    | nil =>
      have := (h.mem x.1).1 ⟨x, by simp, by have := h.pos x (by simp); exact ⟨by omega, by omega⟩⟩
      have := (k.mem x.1).2 this
      simp at this
    | cons y ys =>
      have hx := h.pos x (by simp)
      have hy := k.pos y (by simp)
      have hxa := h.apart
      have hya := k.apart
      rw [List.pairwise_cons] at hxa hya
      -- the same beginning
      have lo : ∀ {a b : Int × Int} {l m : List (Int × Int)}, Canon (a :: l) S → Canon (b :: m) S → b.1 ≤ a.1 := by
        intro a b l m ha hb
        have hpa := ha.pos a (by simp)
        have hba := hb.apart
        rw [List.pairwise_cons] at hba
        have h1 := (ha.mem a.1).1 ⟨a, by simp, ⟨by omega, by omega⟩⟩
        obtain ⟨c, hc, hcp⟩ := (hb.mem a.1).2 h1
        rw [List.mem_cons] at hc
        rcases hc with rfl | hc
        · exact hcp.1
        · have := hba.1 c hc; have := hcp.1; have := hb.pos b (by simp); omega
      have e1 : x.1 = y.1 := by have := lo h k; have := lo k h; omega
      -- the same end
      have hi : ∀ {a b : Int × Int} {l m : List (Int × Int)}, Canon (a :: l) S → Canon (b :: m) S → a.1 = b.1 → a.1 + a.2 ≤ b.1 + b.2 := by
        intro a b l m ha hb e
        rcases Int.lt_or_le (b.1 + b.2) (a.1 + a.2) with hlt | hle
        · have hpb := hb.pos b (by simp)
          have hba := hb.apart
          rw [List.pairwise_cons] at hba
          have h1 := (ha.mem (b.1 + b.2)).1 ⟨a, by simp, ⟨by omega, by omega⟩⟩
          obtain ⟨c, hc, hcp⟩ := (hb.mem (b.1 + b.2)).2 h1
          rw [List.mem_cons] at hc
          rcases hc with rfl | hc
          · have := hcp.2; omega
          · have := hba.1 c hc; have := hcp.1; omega
        · exact hle
      have e2 : x.2 = y.2 := by have := hi h k e1; have := hi k h e1.symm; omega
      obtain rfl : x = y := Prod.ext e1 e2
      rw [ih h.tail k.tail]

/-- The ends of spans that may be: rising, each once. -/
structure EndsOf (xs : List (Int × Int)) (es : List Int) : Prop where
  inc : es.Pairwise (· < ·)
  mem : ∀ z, z ∈ es ↔ ∃ x ∈ xs, mayB x.1 x.2 = true ∧ (z = x.1 ∨ z = x.1 + x.2)

theorem hasB_iff {a s p : Int} : hasB a s p = true ↔ mayB a s = true ∧ a ≤ p ∧ p < a + s := by simp [hasB]
theorem covered_iff {xs : List (Int × Int)} {p : Int} : coveredB xs p = true ↔ ∃ x ∈ xs, mayB x.1 x.2 = true ∧ InS x p := by
  unfold coveredB
  rw [List.any_eq_true]
  constructor
  · rintro ⟨x, hx, h⟩; exact ⟨x, hx, hasB_iff.1 h⟩
  · rintro ⟨x, hx, h⟩; exact ⟨x, hx, hasB_iff.2 h⟩

/-- Between two neighbouring ends nothing turns. -/
theorem covered_between {xs : List (Int × Int)} {es : List Int} (h : EndsOf xs es) {i : Nat} (hi : i + 1 < es.length) {p : Int} (h1 : es[i] ≤ p) (h2 : p < es[i + 1]) : coveredB xs p = coveredB xs es[i] := by
  have key : ∀ x ∈ xs, mayB x.1 x.2 = true → (InS x p ↔ InS x es[i]) := by
    intro x hx hm
    have no : ∀ z ∈ es, z ≤ es[i] ∨ es[i + 1] ≤ z := by
      intro z hz
      obtain ⟨j, hj, rfl⟩ := List.getElem_of_mem hz
      rcases Nat.lt_trichotomy j i with hlt | rfl | hgt
      · exact .inl (Int.le_of_lt (List.pairwise_iff_getElem.1 h.inc j i (by omega) (by omega) hlt))
      · exact .inl (Int.le_refl _)
      · rcases Nat.lt_or_ge (i + 1) j with h3 | h3
        · exact .inr (Int.le_of_lt (List.pairwise_iff_getElem.1 h.inc (i + 1) j (by omega) (by omega) h3))
        · obtain rfl : j = i + 1 := by omega
          exact .inr (Int.le_refl _)
    have a1 := no x.1 ((h.mem _).2 ⟨x, hx, hm, .inl rfl⟩)
    have a2 := no (x.1 + x.2) ((h.mem _).2 ⟨x, hx, hm, .inr rfl⟩)
    constructor
    · rintro ⟨b1, b2⟩; exact ⟨by omega, by omega⟩
    · rintro ⟨b1, b2⟩; exact ⟨by omega, by omega⟩
  rw [Bool.eq_iff_iff, covered_iff, covered_iff]
  exact ⟨fun ⟨x, hx, hm, hp⟩ => ⟨x, hx, hm, (key x hx hm).1 hp⟩, fun ⟨x, hx, hm, hp⟩ => ⟨x, hx, hm, (key x hx hm).2 hp⟩⟩

/-- What holds when the pieces up to the i-th end have been looked at: T says which words are wanted; it does not turn between two ends. -/
structure JoinTo (T : Int → Prop) (e : Int) (zs : List (Int × Int)) : Prop where
  canon : Canon zs (fun p => T p ∧ p < e)
  upto : ∀ x ∈ zs, x.1 + x.2 ≤ e
  
theorem JoinTo.skip {T : Int → Prop} {e e' : Int} {zs : List (Int × Int)} (h : JoinTo T e zs) (he : e < e') (hT : ∀ p, e ≤ p → p < e' → ¬ T p) : JoinTo T e' zs :=
  ⟨h.canon.congr fun p => ⟨fun ⟨a, b⟩ => ⟨a, by omega⟩, fun ⟨a, b⟩ => ⟨a, by rcases Int.lt_or_le p e with c | c; exact c; exact absurd a (hT p c b)⟩⟩, fun x hx => by have := h.upto x hx; omega⟩

theorem JoinTo.put {T : Int → Prop} {e e' : Int} {zs : List (Int × Int)} (h : JoinTo T e zs) (he : e < e') (hT : ∀ p, e ≤ p → p < e' → T p) : JoinTo T e' (putL zs e e') := by
  rcases List.eq_nil_or_concat zs with rfl | ⟨ys, x, rfl⟩
  · rw [putL_nil]
    refine ⟨⟨by simp; omega, by simp, fun p => ?_⟩, by simp; omega⟩
    have hm := h.canon.mem p
    simp only [List.not_mem_nil, false_and, exists_false, false_iff, not_and] at hm
    constructor
    · rintro ⟨y, hy, h1, h2⟩
      simp only [List.mem_singleton] at hy
      subst hy
      simp only at h1 h2
      exact ⟨hT p (by omega) (by omega), by omega⟩
    · rintro ⟨h1, h2⟩
      refine ⟨(e, e' - e), by simp, ?_, ?_⟩
      · have := hm h1; simp only; omega
      · simp only; omega
  · obtain ⟨a, s⟩ := x
    rw [List.concat_eq_append] at *
    have hpos := h.canon.pos (a, s) (by simp)
    have hup := h.upto (a, s) (by simp)
    simp only at hpos hup
    have hap := h.canon.apart
    rw [List.pairwise_append] at hap
    obtain ⟨hap1, -, hap3⟩ := hap
    by_cases hj : a + s = e
    · rw [putL_join ys a s e e' hj]
      refine ⟨⟨?_, ?_, fun p => ?_⟩, ?_⟩
      · intro y hy
        rw [List.mem_append] at hy
        rcases hy with hy | hy
        · exact h.canon.pos y (by simp [hy])
        · simp only [List.mem_singleton] at hy; subst hy; simp only; omega
      · rw [List.pairwise_append]
        refine ⟨hap1, by simp, fun y hy z hz => ?_⟩
        simp only [List.mem_singleton] at hz; subst hz
        exact hap3 y hy (a, s) (by simp)
      · have hm := h.canon.mem p
        constructor
        · rintro ⟨y, hy, h1, h2⟩
          rw [List.mem_append] at hy
          rcases hy with hy | hy
          · have := hm.1 ⟨y, by simp [hy], h1, h2⟩
            exact ⟨this.1, by omega⟩
          · simp only [List.mem_singleton] at hy; subst hy
            simp only at h1 h2
            rcases Int.lt_or_le p e with c | c
            · have := hm.1 ⟨(a, s), by simp, h1, by simp only; omega⟩
              exact ⟨this.1, by omega⟩
            · exact ⟨hT p c (by omega), by omega⟩
        · rintro ⟨h1, h2⟩
          rcases Int.lt_or_le p e with c | c
          · obtain ⟨y, hy, hyp⟩ := hm.2 ⟨h1, c⟩
            rw [List.mem_append] at hy
            rcases hy with hy | hy
            · exact ⟨y, by simp [hy], hyp⟩
            · simp only [List.mem_singleton] at hy; subst hy
              exact ⟨(a, e' - a), by simp, hyp.1, by simp only; omega⟩
          · exact ⟨(a, e' - a), by simp, by simp only; omega, by simp only; omega⟩
      · intro y hy
        rw [List.mem_append] at hy
        rcases hy with hy | hy
        · have := h.upto y (by simp [hy]); omega
        · simp only [List.mem_singleton] at hy; subst hy; simp only; omega
    · rw [putL_new ys a s e e' hj]
      have hlt : a + s < e := by omega
      refine ⟨⟨?_, ?_, fun p => ?_⟩, ?_⟩
      · intro y hy
        rw [List.mem_append] at hy
        rcases hy with hy | hy
        · exact h.canon.pos y hy
        · simp only [List.mem_singleton] at hy; subst hy; simp only; omega
      · rw [List.pairwise_append]
        refine ⟨h.canon.apart, by simp, fun y hy z hz => ?_⟩
        simp only [List.mem_singleton] at hz; subst hz
        simp only
        rw [List.mem_append] at hy
        rcases hy with hy | hy
        · have := hap3 y hy (a, s) (by simp)
          simp only at this
          omega
        · simp only [List.mem_singleton] at hy; subst hy; exact hlt
      · have hm := h.canon.mem p
        constructor
        · rintro ⟨y, hy, h1, h2⟩
          rw [List.mem_append] at hy
          rcases hy with hy | hy
          · have := hm.1 ⟨y, hy, h1, h2⟩
            exact ⟨this.1, by omega⟩
          · simp only [List.mem_singleton] at hy; subst hy
            simp only at h1 h2
            exact ⟨hT p (by omega) (by omega), by omega⟩
        · rintro ⟨h1, h2⟩
          rcases Int.lt_or_le p e with c | c
          · obtain ⟨y, hy, hyp⟩ := hm.2 ⟨h1, c⟩
            exact ⟨y, by rw [List.mem_append]; exact .inl hy, hyp⟩
          · exact ⟨(e, e' - e), by simp, by simp only; omega, by simp only; omega⟩
      · intro y hy
        rw [List.mem_append] at hy
        rcases hy with hy | hy
        · have := h.upto y hy; omega
        · simp only [List.mem_singleton] at hy; subst hy; simp only; omega
end Go.Proofs.Ytllcekmbcmhckaa
