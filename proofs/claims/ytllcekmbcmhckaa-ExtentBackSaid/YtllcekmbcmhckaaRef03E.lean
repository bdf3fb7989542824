/- The walk of the reference's Join of layer 3. -/
import Derived.Test.YtllcekmbcmhckaaRef03D
set_option linter.unusedSimpArgs false
set_option linter.unusedVariables false
namespace Go.Proofs.Ytllcekmbcmhckaa
open Go.RowKit

theorem ends_lo {xs : List (Int × Int)} {es : List Int} (h : EndsOf xs es) : ∀ z ∈ es, 0 ≤ z ∧ z ≤ 1099511627776 := by
  intro z hz
  obtain ⟨x, hx, hm, h2⟩ := (h.mem z).1 hz
  have := may_bd hm
  omega
theorem inc_length (c : Int) (es : List Int) (h : es.Pairwise (· < ·)) (hlo : ∀ z ∈ es, c ≤ z) : ∀ i (hi : i < es.length), c + i ≤ es[i] := by
  intro i
  induction i with
  | zero => intro hi; have := hlo es[0] (List.getElem_mem _); omega
  | succ i ih =>
    intro hi
    have h1 := ih (by omega)
    have h2 := List.pairwise_iff_getElem.1 h i (i + 1) (by omega) hi (by omega)
    omega

/-- Spans, joined. -/
def JoinOf (xs zs : List (Int × Int)) : Prop := Canon zs (fun p => coveredB xs p = true)
theorem covered_lt {xs : List (Int × Int)} {es : List Int} (h : EndsOf xs es) {p : Int} (hp : coveredB xs p = true) : ∃ (i : Nat) (hi : i + 1 < es.length), es[i] ≤ p ∧ p < es[i + 1] := by
  obtain ⟨x, hx, hm, h1, h2⟩ := covered_iff.1 hp
  obtain ⟨i, hi, e1⟩ := List.getElem_of_mem ((h.mem x.1).2 ⟨x, hx, hm, .inl rfl⟩)
  obtain ⟨j, hj, e2⟩ := List.getElem_of_mem ((h.mem (x.1 + x.2)).2 ⟨x, hx, hm, .inr rfl⟩)
  -- the last end that is not behind p
  have key : ∀ n, n < es.length → es[i] ≤ p → (∀ m (hm : m < es.length), n ≤ m → p < es[m]) → i < n → ∃ (k : Nat) (hk : k + 1 < es.length), es[k] ≤ p ∧ p < es[k + 1] := by
    intro n
    induction n with
    | zero => intro _ _ _ h; omega
    | succ n ih =>
      intro hn h1 h2 h3
      by_cases hc : p < es[n]
      · have hne : i ≠ n := by intro e; subst e; omega
        exact ih (by omega) h1 (fun m hm hmn => by
          rcases Nat.lt_or_ge n m with h | h
          · exact h2 m hm h
          · have : m = n := by omega
            subst this; exact hc) (by omega)
      · exact ⟨n, hn, by omega, h2 (n + 1) hn (Nat.le_refl _)⟩
  refine key j hj (by omega) (fun m hm hjm => ?_) ?_
  · rcases Nat.lt_or_ge j m with h3 | h3
    · have := List.pairwise_iff_getElem.1 h.inc j m hj hm h3
      omega
    · have : m = j := by omega
      subst this; omega
  · rcases Nat.lt_or_ge i j with h3 | h3
    · exact h3
    · rcases Nat.lt_or_ge j i with h4 | h4
      · have := List.pairwise_iff_getElem.1 h.inc j i hj hi h4
        omega
      · have : i = j := by omega
        subst this; omega
theorem join_start {xs : List (Int × Int)} {es : List Int} (h : EndsOf xs es) (h0 : 0 < es.length) : JoinTo (fun p => coveredB xs p = true) es[0] [] := by
  refine ⟨Canon.nil fun p hp => ?_, by simp⟩
  obtain ⟨i, hi, h1, h2⟩ := covered_lt h hp.1
  rcases Nat.eq_zero_or_pos i with rfl | h3
  · omega
  · have := List.pairwise_iff_getElem.1 h.inc 0 i h0 (by omega) h3
    have := hp.2
    omega
theorem join_end {xs zs : List (Int × Int)} {es : List Int} (h : EndsOf xs es) (h0 : 0 < es.length) (hz : JoinTo (fun p => coveredB xs p = true) (es[es.length - 1]'(by omega)) zs) : JoinOf xs zs := by
  refine hz.canon.congr fun p => ⟨fun a => a.1, fun a => ⟨a, ?_⟩⟩
  obtain ⟨i, hi, h1, h2⟩ := covered_lt h a
  rcases Nat.lt_or_ge (i + 1) (es.length - 1) with h3 | h3
  · have := List.pairwise_iff_getElem.1 h.inc (i + 1) (es.length - 1) hi (by omega) h3
    omega
  · have e : i + 1 = es.length - 1 := by omega
    simp only [← e]
    exact h2
theorem join_none {xs : List (Int × Int)} {es : List Int} (h : EndsOf xs es) (h0 : es.length ≤ 0) : JoinOf xs [] :=
  Canon.nil fun p hp => by obtain ⟨i, hi, _⟩ := covered_lt h hp; omega

def JoinRel (W : World) (xs : List (Int × Int)) (es : List Int) (v i : Value) (wr : World) : Prop :=
  ∃ (k : Nat) (zs : List (Int × Int)), i = .int .i64 k ∧ (es.length = 0 ∧ k = 0 ∨ k + 1 ≤ es.length) ∧ zs.length ≤ k ∧ OwnS wr W.heap.size v zs ∧
    (es.length = 0 ∧ zs = [] ∨ JoinTo (fun p => coveredB xs p = true) (es.getD k 0) zs) ∧ Ext W wr ∧ (∀ x ∈ zs, Lo x.1 ∧ Lo x.2)
theorem putL_len (xs : List (Int × Int)) (p q : Int) : (putL xs p q).length ≤ xs.length + 1 := by
  unfold putL
  split
  · split <;> simp <;> omega
  · simp
theorem putL_lo {xs : List (Int × Int)} {p q : Int} (h : ∀ x ∈ xs, 0 ≤ x.1 ∧ 0 ≤ x.2 ∧ x.1 + x.2 ≤ p) (hp : 0 ≤ p) (hpq : p ≤ q) (hq : q ≤ 1099511627776) : ∀ x ∈ putL xs p q, Lo x.1 ∧ Lo x.2 := by
  intro x hx
  rcases List.eq_nil_or_concat xs with rfl | ⟨ys, y, rfl⟩
  · rw [putL_nil] at hx; simp only [List.mem_singleton] at hx; subst hx; exact ⟨⟨by omega, by omega⟩, by simp only; omega, by simp only; omega⟩
  · obtain ⟨a, s⟩ := y
    rw [List.concat_eq_append] at *
    have h1 := h (a, s) (by simp)
    simp only at h1
    by_cases hj : a + s = p
    · rw [putL_join ys a s p q hj, List.mem_append] at hx
      rcases hx with hx | hx
      · have := h x (by simp [hx]); exact ⟨⟨by omega, by omega⟩, by omega, by omega⟩
      · simp only [List.mem_singleton] at hx; subst hx; simp only; exact ⟨⟨by omega, by omega⟩, by omega, by omega⟩
    · rw [putL_new ys a s p q hj, List.mem_append] at hx
      rcases hx with hx | hx
      · have := h x hx; exact ⟨⟨by omega, by omega⟩, by omega, by omega⟩
      · simp only [List.mem_singleton] at hx; subst hx; simp only; exact ⟨⟨by omega, by omega⟩, by omega, by omega⟩
theorem joinTo_nonneg {xs zs : List (Int × Int)} {e : Int} (h : JoinTo (fun p => coveredB xs p = true) e zs) : ∀ x ∈ zs, 0 ≤ x.1 ∧ 0 ≤ x.2 ∧ x.1 + x.2 ≤ e := by
  intro x hx
  have h1 := h.canon.pos x hx
  have h2 := h.upto x hx
  have h3 := ((h.canon.mem x.1).1 ⟨x, hx, by omega, by omega⟩).1
  obtain ⟨y, hy, hm, h4, h5⟩ := covered_iff.1 h3
  have := may_bd hm
  omega

set_option maxRecDepth 100000 in
set_option maxHeartbeats 4000000 in
theorem refjoin_any (A : Option Addr) (cap : Nat) (xs : List (Int × Int)) (W0 : World) (hlen : xs.length ≤ 400000) (hl : SpansAt W0 A xs) :
    Calls Try.prog 30 #[.slice A xs.length cap] W0 (fun e w' => ∃ zs, JoinOf xs zs ∧ RetS W0 W0.heap.size zs e w') := by
  have HL := Lib.hid hl
  have hl2 := hl
  clear hl
  go_enter Try.func30, Try.ntmps30
  go_wp2_with fail
  refine (refends_any A cap xs W0 hlen HL.out).mono ?_
  rintro e W ⟨es, hes, v, rfl, hown, hb⟩
  have hX : Ext W0 W := hb
  have HES := Lib.hid hes
  have hsz : W0.heap.size ≤ W.heap.size := Ext.size hX
  have HLW := Lib.hid (hl2.ext hX)
  obtain ⟨A2, cap2, rfl, hrow, -, -, -, -⟩ := Own.form hown intCells (by decide)
  have HR := Lib.hid hrow
  have HXX := Lib.hid hX
  have hlen1 : xs.length ≤ 9223372036854775807 := by omega
  clear hl2 hes hb hown hrow hX HL
  have hel : es.length ≤ 1099511627777 := by
    have h := HES.out
    rcases Nat.eq_zero_or_pos es.length with h0 | h0
    · omega
    · have h1 := inc_length 0 es h.inc (fun z hz => (ends_lo h z hz).1) (es.length - 1) (by omega)
      have h2 := (ends_lo h _ (List.getElem_mem (show es.length - 1 < es.length by omega))).2
      omega
  go_wp2_with fail
  go_loopw [4, 5] (fun v i wr => JoinRel W xs es v i wr) (fun _ i _ => es.length - (intOf i).toNat)
  case atStart =>
    refine ⟨0, [], rfl, by omega, by simp, Own.nil _ _ _ _ _, ?_, Ext.refl _, by simp⟩
    rcases Nat.eq_zero_or_pos es.length with h0 | h0
    · exact .inl ⟨h0, rfl⟩
    · refine .inr ?_
      have := join_start HES.out h0
      simpa [List.getD, List.getElem?_eq_getElem h0] using this
  case round =>
    obtain ⟨k, zs, rfl, hk, hzl, hown, hj, hE, hlo⟩ := hrel
    have HO := Lib.hid hown
    have HJ := Lib.hid hj
    have HLO := Lib.hid hlo
    have hszr : W.heap.size ≤ wr.heap.size := Ext.size hE
    clear hown hj hlo
    have ib9 : (es.length : Int) ≤ 1099511627777 := by omega
    by_cases hlt : k + 1 < es.length
    rotate_left
    · have hd : ¬ ((k : Int) + 1 < (es.length : Int)) := by omega
      have hk1 : (k : Int) ≤ 1099511627777 := by omega
      go_wp2_with fail
      go_ret
      refine ⟨zs, ?_, _, rfl, HO.out.mono hsz, HXX.out.trans hE⟩
      rcases HJ.out with ⟨h0, rfl⟩ | hjt
      · exact join_none HES.out (by omega)
      · rcases hk with ⟨h0, _⟩ | hk
        · have hkk : zs = [] := by cases zs with
            | nil => rfl
            | cons => simp at hzl; omega
          rw [hkk]
          exact join_none HES.out (by omega)
        · obtain rfl : k = es.length - 1 := by omega
          refine join_end HES.out (by omega) ?_
          simpa [List.getD, List.getElem?_eq_getElem (show es.length - 1 < es.length by omega)] using hjt
    have hjt : JoinTo (fun p => coveredB xs p = true) (es.getD k 0) zs := by
      rcases HJ.out with ⟨h0, _⟩ | h
      · omega
      · exact h
    obtain ⟨b, off, rfl, hc⟩ := HR.out.get (by omega)
    have E1 := Lib.hid (ints_cell hc (show k < es.length by omega))
    have E2 := Lib.hid (ints_cell hc hlt)
    have c1 : ∀ w', Ext W w' → w'.cell? ⟨b, off + k, none⟩ = some (.int .i64 (es.getD k 0)) := fun w' h => h.cell E1.out
    have c2 : ∀ w', Ext W w' → w'.cell? ⟨b, off + (k + 1), none⟩ = some (.int .i64 (es.getD (k + 1) 0)) := fun w' h => h.cell E2.out
    have g1 : es.getD k 0 = es[k] := by simp [List.getD, List.getElem?_eq_getElem (show k < es.length by omega)]
    have g2 : es.getD (k + 1) 0 = es[k + 1] := by simp [List.getD, List.getElem?_eq_getElem hlt]
    have l1 := ends_lo HES.out es[k] (List.getElem_mem _)
    have l2 := ends_lo HES.out es[k + 1] (List.getElem_mem _)
    have l3 : es[k] < es[k + 1] := List.pairwise_iff_getElem.1 HES.out.inc k (k + 1) (by omega) hlt (by omega)
    have HB := Lib.hid (fun p h1 h2 => covered_between HES.out hlt (p := p) h1 h2)
    have HN := Lib.hid (joinTo_nonneg hjt)
    have HJT := Lib.hid hjt
    clear HJ hjt hc
    rw [← g1, ← g2] at l3
    rw [← g1] at l1
    rw [← g2] at l2
    replace HB : Hid (∀ p, es.getD k 0 ≤ p → p < es.getD (k + 1) 0 → coveredB xs p = coveredB xs (es.getD k 0)) := Lib.hid (by rw [g1, g2]; exact HB.out)
    clear g1 g2
    obtain ⟨l1a, l1b⟩ := l1
    obtain ⟨l2a, l2b⟩ := l2
    generalize es.getD k 0 = p at *
    generalize hq : es.getD (k + 1) 0 = q at *
    have HQ := Lib.hid hq
    clear hq
    have ib0 : (0 : Int) ≤ (k : Int) := by omega
    have ib1 : (k : Int) < (es.length : Int) := by omega
    have ib2 : (k : Int) + 1 < (es.length : Int) := by omega
    cases hcv : coveredB xs p
    · have HS := Lib.hid (HJT.out.skip l3 (fun r h1 h2 h => by rw [HB.out r h1 h2, hcv] at h; cases h))
      clear HB HJT HN
      go_wp2_with fail
      refine (refcovered_any A cap xs p wr hlen1 (HLW.out.ext hE)).mono ?_
      rintro e w1 ⟨rfl, hx1⟩
      replace HO := Lib.hid (HO.out.ext hx1)
      replace hE := hE.trans hx1
      clear hx1 hszr
      go_wp2_with fail
      go_roundw
      case rel => exact ⟨k + 1, zs, by go_num, .inr (by omega), by omega, HO.out, .inr (by rw [HQ.out]; exact HS.out), hE, HLO.out⟩
      case measure => simp [intOf]; omega
    · have HS := Lib.hid (HJT.out.put l3 (fun r h1 h2 => by rw [HB.out r h1 h2, hcv]))
      clear HB HJT
      go_wp2_with fail
      refine (refcovered_any A cap xs p wr hlen1 (HLW.out.ext hE)).mono ?_
      rintro e w1 ⟨rfl, hx1⟩
      replace HO := Lib.hid (HO.out.ext hx1)
      replace hE := hE.trans hx1
      have hszr1 : W.heap.size ≤ w1.heap.size := Ext.size hE
      clear hx1 hszr
      have hw1 : IntKind.i64.wrap ((k : Int) + 1) = (k : Int) + 1 := IntWalk.i64_in _ (by omega)
      have hw2 : 0 ≤ (k : Int) + 1 := by omega
      have hw3 : ((k : Int) + 1).toNat = k + 1 := by omega
      have HPL := Lib.hid (putL_len zs p q)
      have HPO := Lib.hid (putL_lo HN.out l1a (by omega) l2b)
      go_wp2_with fail
      go_region_held3 (fun w1 => Ext W w1) (first | (with_reducible assumption) | (exact Ext.drew (by with_reducible assumption)) | (with_reducible exact Ext.drew (Ext.alloc (by with_reducible assumption) _)) | (with_reducible exact Ext.alloc (by with_reducible assumption) _) | (exact Ext.trans (by with_reducible assumption) (by with_reducible assumption))) (first
        | (go_at_call 65; refine (refput_any W.heap.size _ zs p q _ (by exact hszr1) (by exact HO.out) (by omega) HLO.out ⟨by omega, by omega⟩ ⟨by omega, by omega⟩).mono ?_; rintro e w2 ⟨v2, rfl, hown2, hb2⟩; have HO2 := Lib.hid hown2; have hE2 : Ext W w2 := Below.trans (Ext.drew hE) hb2; clear hown2 hb2))
      clear hw1 hw2 hw3
      go_wp2_with fail
      go_roundw
      case rel => exact ⟨k + 1, putL zs p q, by go_num, .inr (by omega), by have := HPL.out; omega, HO2.out, .inr (by rw [HQ.out]; exact HS.out), hE2, HPO.out⟩
      case measure => simp [intOf]; omega
end Go.Proofs.Ytllcekmbcmhckaa
