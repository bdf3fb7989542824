/- Joining spans in order, step by step, as plain lists. Of no program. -/
import Derived.Test.YtllcekmbcmhckaaRef03E
set_option linter.unusedSimpArgs false
set_option linter.unusedVariables false
namespace Go.Proofs.Ytllcekmbcmhckaa

/-- One more span: what has been handed on, and what is open. -/
def stepJ (st : List (Int × Int) × (Int × Int)) (x : Int × Int) : List (Int × Int) × (Int × Int) :=
  if mayB x.1 x.2 = true then
    if 0 < st.2.2 ∧ x.1 ≤ st.2.1 + st.2.2 then (st.1, (st.2.1, max (st.2.1 + st.2.2) (x.1 + x.2) - st.2.1))
    else (if 0 < st.2.2 then st.1 ++ [st.2] else st.1, x)
  else st
def foldJ (l : List (Int × Int)) : List (Int × Int) × (Int × Int) := l.foldl stepJ ([], (0, 0))
def flushJ (st : List (Int × Int) × (Int × Int)) : List (Int × Int) := if 0 < st.2.2 then st.1 ++ [st.2] else st.1
/-- The joined spans of spans in order. -/
def joinZ (zs : List (Int × Int)) : List (Int × Int) := flushJ (foldJ zs)
def joinL (xs : List (Int × Int)) : List (Int × Int) := joinZ (sortS xs)

theorem foldJ_snoc (l : List (Int × Int)) (x : Int × Int) : foldJ (l ++ [x]) = stepJ (foldJ l) x := by simp [foldJ]
theorem foldJ_take {zs : List (Int × Int)} {k : Nat} (hk : k < zs.length) : foldJ (zs.take (k + 1)) = stepJ (foldJ (zs.take k)) (zs.getD k (0, 0)) := by
  rw [List.take_succ_eq_append_getElem hk, foldJ_snoc]
  simp [List.getElem?_eq_getElem hk]
theorem stepJ_prefix (st : List (Int × Int) × (Int × Int)) (x : Int × Int) : st.1 <+: (stepJ st x).1 := by
  unfold stepJ
  split
  · split
    · exact List.prefix_refl _
    · simp only
      split
      · exact List.prefix_append _ _
      · exact List.prefix_refl _
  · exact List.prefix_refl _
theorem foldl_prefix (l : List (Int × Int)) : ∀ st, st.1 <+: (l.foldl stepJ st).1 := by
  induction l with
  | nil => exact fun st => List.prefix_refl _
  | cons x l ih => exact fun st => (stepJ_prefix st x).trans (ih _)
theorem flush_prefix (st : List (Int × Int) × (Int × Int)) : st.1 <+: flushJ st := by
  unfold flushJ
  split
  · exact List.prefix_append _ _
  · exact List.prefix_refl _
/-- What has been handed on so far is the beginning of what will be. -/
theorem fold_prefix (zs : List (Int × Int)) (k : Nat) : (foldJ (zs.take k)).1 <+: joinZ zs := by
  have h : foldJ zs = (zs.drop k).foldl stepJ (foldJ (zs.take k)) := by
    conv => lhs; rw [← List.take_append_drop k zs]
    simp only [foldJ, List.foldl_append]
  unfold joinZ
  rw [h]
  exact (foldl_prefix _ _).trans (flush_prefix _)

/-- What holds behind the spans l, in order. -/
structure InvJ (l : List (Int × Int)) (st : List (Int × Int) × (Int × Int)) : Prop where
  may : 0 < st.2.2 → mayB st.2.1 st.2.2 = true
  zero : 0 ≤ st.2.2
  none : ¬ 0 < st.2.2 → st.1 = []
  first : 0 < st.2.2 → ∃ y ∈ l, st.2.1 = y.1
  canon : Canon (flushJ st) (fun p => coveredB l p = true)

theorem canon_append {zs : List (Int × Int)} {S T : Int → Prop} {x : Int × Int} (h : Canon zs S) (hx : 1 ≤ x.2) (ha : ∀ y ∈ zs, y.1 + y.2 < x.1) (hT : ∀ p, T p ↔ S p ∨ InS x p) : Canon (zs ++ [x]) T := by
  refine ⟨?_, ?_, fun p => ?_⟩
  · intro y hy
    rw [List.mem_append, List.mem_singleton] at hy
    rcases hy with hy | rfl
    · exact h.pos y hy
    · exact hx
  · rw [List.pairwise_append]
    refine ⟨h.apart, by simp, fun y hy z hz => ?_⟩
    rw [List.mem_singleton] at hz
    subst hz
    exact ha y hy
  · rw [hT p, ← h.mem p]
    constructor
    · rintro ⟨y, hy, hp⟩
      rw [List.mem_append, List.mem_singleton] at hy
      rcases hy with hy | rfl
      · exact .inl ⟨y, hy, hp⟩
      · exact .inr hp
    · rintro (⟨y, hy, hp⟩ | hp)
      · exact ⟨y, by simp [hy], hp⟩
      · exact ⟨x, by simp, hp⟩

theorem covered_snoc (l : List (Int × Int)) (x : Int × Int) (p : Int) : coveredB (l ++ [x]) p = true ↔ coveredB l p = true ∨ (mayB x.1 x.2 = true ∧ InS x p) := by
  rw [covered_iff, covered_iff]
  constructor
  · rintro ⟨y, hy, hm, hp⟩
    rw [List.mem_append, List.mem_singleton] at hy
    rcases hy with hy | rfl
    · exact .inl ⟨y, hy, hm, hp⟩
    · exact .inr ⟨hm, hp⟩
  · rintro (⟨y, hy, hm, hp⟩ | ⟨hm, hp⟩)
    · exact ⟨y, by simp [hy], hm, hp⟩
    · exact ⟨x, by simp, hm, hp⟩

theorem InvJ.start : InvJ [] ([], (0, 0)) := ⟨by simp, by simp, by simp, by simp, by
  have : flushJ ([], (0, 0)) = [] := by simp [flushJ]
  rw [this]
  exact Canon.nil (by simp [coveredB])⟩

theorem InvJ.step {l : List (Int × Int)} {st : List (Int × Int) × (Int × Int)} {x : Int × Int} (h : InvJ l st) (hx : ∀ y ∈ l, y.1 ≤ x.1) : InvJ (l ++ [x]) (stepJ st x) := by
  obtain ⟨em, a, s⟩ := st
  by_cases hm : mayB x.1 x.2 = true
  rotate_left
  · have e : stepJ (em, a, s) x = (em, a, s) := by simp [stepJ, hm]
    rw [e]
    refine ⟨h.may, h.zero, h.none, fun h0 => ?_, h.canon.congr fun p => ?_⟩
    · obtain ⟨y, hy, e⟩ := h.first h0
      exact ⟨y, by simp [hy], e⟩
    · rw [covered_snoc]; simp [hm]
  have hxb := may_bd hm
  by_cases h0 : 0 < s
  · have hob := may_bd (h.may h0)
    simp only at hob
    have hc := h.canon
    have hf : flushJ (em, a, s) = em ++ [(a, s)] := by simp [flushJ, h0]
    rw [hf] at hc
    have hap := hc.apart
    rw [List.pairwise_append] at hap
    obtain ⟨hap1, -, hap3⟩ := hap
    obtain ⟨y0, hy0, e0⟩ := h.first h0
    simp only at e0
    have hax : a ≤ x.1 := by have := hx y0 hy0; omega
    have hem : Canon em (fun p => coveredB l p = true ∧ p < a) := by
      refine ⟨fun y hy => hc.pos y (by simp [hy]), hap1, fun p => ?_⟩
      have := hc.mem p
      constructor
      · rintro ⟨y, hy, hp⟩
        refine ⟨this.1 ⟨y, by simp [hy], hp⟩, ?_⟩
        have := hap3 y hy (a, s) (by simp)
        have := hp.2
        simp only at *
        omega
      · rintro ⟨hp, hlt⟩
        obtain ⟨y, hy, hyp⟩ := this.2 hp
        rw [List.mem_append, List.mem_singleton] at hy
        rcases hy with hy | rfl
        · exact ⟨y, hy, hyp⟩
        · have := hyp.1; simp only at this; omega
    have hcov : ∀ p, coveredB l p = true ↔ (coveredB l p = true ∧ p < a) ∨ InS (a, s) p := by
      intro p
      constructor
      · intro hp
        obtain ⟨y, hy, hyp⟩ := (hc.mem p).2 hp
        rw [List.mem_append, List.mem_singleton] at hy
        rcases hy with hy | rfl
        · exact .inl ((hem.mem p).1 ⟨y, hy, hyp⟩)
        · exact .inr hyp
      · rintro (hp | hp)
        · exact hp.1
        · exact (hc.mem p).1 ⟨(a, s), by simp, hp⟩
    by_cases hj : x.1 ≤ a + s
    · have e : stepJ (em, a, s) x = (em, (a, max (a + s) (x.1 + x.2) - a)) := by simp [stepJ, hm, h0, hj]
      rw [e]
      have hpos : 0 < max (a + s) (x.1 + x.2) - a := by omega
      refine ⟨fun _ => ?_, by simp only; omega, fun hn => absurd hpos hn, fun _ => ⟨y0, by simp [hy0], e0⟩, ?_⟩
      · simp only [mayB, decide_eq_true_eq]; omega
      · have hf2 : flushJ (em, (a, max (a + s) (x.1 + x.2) - a)) = em ++ [(a, max (a + s) (x.1 + x.2) - a)] := by simp only [flushJ]; rw [if_pos hpos]
        rw [hf2]
        refine canon_append hem (by simp only; omega) (fun y hy => hap3 y hy (a, s) (by simp)) fun p => ?_
        rw [covered_snoc]
        have hcp := hcov p
        constructor
        · intro h3
          rcases (show ((coveredB l p = true ∧ p < a) ∨ InS (a, s) p) ∨ (mayB x.1 x.2 = true ∧ InS x p) from h3.imp hcp.1 id) with (hp | ⟨p1, p2⟩) | ⟨-, p1, p2⟩
          · exact .inl hp
          · exact .inr ⟨p1, by simp only at *; omega⟩
          · exact .inr ⟨by simp only at *; omega, by simp only at *; omega⟩
        · rintro (hp | ⟨p1, p2⟩)
          · exact .inl hp.1
          · simp only at p1 p2
            by_cases hq : p < a + s
            · exact .inl (hcp.2 (.inr ⟨p1, hq⟩))
            · exact .inr ⟨hm, by omega, by omega⟩
    · have e : stepJ (em, a, s) x = (em ++ [(a, s)], x) := by
        simp only [stepJ, hm, if_true]
        rw [if_neg (fun h => hj h.2), if_pos h0]
      rw [e]
      refine ⟨fun _ => hm, by simp only; omega, fun hn => absurd (show 0 < x.2 by omega) hn, fun _ => ⟨x, by simp, rfl⟩, ?_⟩
      have hf2 : flushJ (em ++ [(a, s)], x) = em ++ [(a, s)] ++ [x] := by simp only [flushJ]; rw [if_pos (by omega)]
      rw [hf2]
      refine canon_append hc (by omega) (fun y hy => ?_) fun p => ?_
      · rw [List.mem_append, List.mem_singleton] at hy
        rcases hy with hy | rfl
        · have := hap3 y hy (a, s) (by simp)
          simp only at this
          omega
        · simp only; omega
      · rw [covered_snoc]; simp [hm]
  · have h1 : s = 0 := by have := h.zero; simp only at this; omega
    have h2 : em = [] := h.none h0
    subst h1 h2
    have e : stepJ ([], (a, 0)) x = ([], x) := by simp [stepJ, hm]
    rw [e]
    refine ⟨fun _ => hm, by simp only; omega, fun hn => absurd (show 0 < x.2 by omega) hn, fun _ => ⟨x, by simp, rfl⟩, ?_⟩
    have hf : flushJ ([], (a, 0)) = [] := by simp [flushJ]
    have hf2 : flushJ ([], x) = [] ++ [x] := by simp only [flushJ]; rw [if_pos (by omega)]
    have hc := h.canon
    rw [hf] at hc
    rw [hf2]
    refine canon_append hc (by omega) (by simp) fun p => ?_
    rw [covered_snoc]; simp [hm]

theorem invJ (zs : List (Int × Int)) (hs : zs.Pairwise (fun x y => leS x y = true)) : ∀ k, k ≤ zs.length → InvJ (zs.take k) (foldJ (zs.take k)) := by
  intro k
  induction k with
  | zero => intro _; simpa [foldJ] using InvJ.start
  | succ k ih =>
    intro hk
    have h1 := ih (by omega)
    rw [List.take_succ_eq_append_getElem (by omega), foldJ_snoc]
    refine h1.step fun y hy => ?_
    obtain ⟨i, hi, rfl⟩ := List.getElem_of_mem hy
    have hi' : i < k := by simp at hi; omega
    rw [List.getElem_take]
    have := List.pairwise_iff_getElem.1 hs i k (by omega) (by omega) hi'
    rw [leS_iff] at this
    omega

theorem join_canon (xs : List (Int × Int)) : JoinOf xs (joinL xs) := by
  have h := (invJ (sortS xs) (sortS_sorted xs) _ (Nat.le_refl _)).canon
  rw [List.take_length] at h
  refine Canon.congr h fun p => ?_
  rw [covered_iff, covered_iff]
  exact ⟨fun ⟨x, hx, h⟩ => ⟨x, sortS_mem.1 hx, h⟩, fun ⟨x, hx, h⟩ => ⟨x, sortS_mem.2 hx, h⟩⟩
theorem join_length (zs : List (Int × Int)) : (joinZ zs).length ≤ zs.length := by
  have h : ∀ (l : List (Int × Int)) (st : List (Int × Int) × (Int × Int)), (flushJ (l.foldl stepJ st)).length ≤ (flushJ st).length + l.length := by
    intro l
    induction l with
    | nil => intro st; simp
    | cons x l ih =>
      intro st
      refine Nat.le_trans (ih _) ?_
      have : (flushJ (stepJ st x)).length ≤ (flushJ st).length + 1 := by
        unfold stepJ
        split
        · split
          · rename_i h
            unfold flushJ
            simp only
            rw [if_pos h.1]
            split <;> simp <;> omega
          · unfold flushJ
            simp only
            split <;> split <;> simp
        · omega
      simp only [List.length_cons]
      omega
  have := h zs ([], (0, 0))
  have h0 : flushJ ([], (0, 0)) = [] := by simp [flushJ]
  rw [h0, List.length_nil, Nat.zero_add] at this
  exact this
end Go.Proofs.Ytllcekmbcmhckaa
