/- The walk of the law LayoutParts. -/
import Derived.Test.YtllcekmbcmhckaaLayoutP
import Derived.Test.YtllcekmbcmhckaaLaw03D
set_option linter.unusedSimpArgs false
set_option linter.unusedVariables false
namespace Go.Proofs.Ytllcekmbcmhckaa
open Go.RowKit

/-! ### What a config's parts are. -/
def partsL (fa ta s l : Int) : List (Int × Int) := if l = 0 then [(fa, s), (ta, s)] else [(fa, s), (ta, s), (2 * s, l)]
structure Halves (fa ta s l : Int) : Prop where
  s2 : 2 ≤ s
  s3 : s ≤ 32768
  l1 : 0 ≤ l
  l2 : l ≤ 32768
  h : (fa = 0 ∧ ta = s) ∨ (fa = s ∧ ta = 0)
theorem halves {s l t m : Int} (h : cfgB s l t m = true) (b : Bool) : Halves (halfA s l t m b) (halfA s l t m (!b)) s l := by
  obtain ⟨h1, h2, h3, h4, h5, h6, h7, h8⟩ := cfg_bd h
  exact ⟨h1, h2, h5, h6, by cases b <;> simp [halfA, h]⟩
theorem Halves.apart {fa ta s l : Int} (h : Halves fa ta s l) : apartB (partsL fa ta s l) = true := by
  obtain ⟨h1, h2, h3, h4, h5⟩ := h
  rw [apart_iff]
  have m1 : mayB fa s = true := by simp [mayB]; omega
  have m2 : mayB ta s = true := by simp [mayB]; omega
  unfold partsL
  split
  · refine ⟨fun x hx => ?_, ?_⟩
    · simp only [List.mem_cons, List.not_mem_nil, or_false] at hx
      rcases hx with rfl | rfl
      · exact m1
      · exact m2
    · simp [List.pairwise_cons, meets_alt m1 m2]; omega
  · have m3 : mayB (2 * s) l = true := by simp [mayB]; omega
    refine ⟨fun x hx => ?_, ?_⟩
    · simp only [List.mem_cons, List.not_mem_nil, or_false] at hx
      rcases hx with rfl | rfl | rfl
      · exact m1
      · exact m2
      · exact m3
    · simp [List.pairwise_cons, meets_alt m1 m2, meets_alt m1 m3, meets_alt m2 m3]; omega
theorem Halves.covered {fa ta s l : Int} (h : Halves fa ta s l) (p : Int) : coveredB (partsL fa ta s l) p = decide (0 ≤ p ∧ p < 2 * s + l) := by
  obtain ⟨h1, h2, h3, h4, h5⟩ := h
  have m1 : mayB fa s = true := by simp [mayB]; omega
  have m2 : mayB ta s = true := by simp [mayB]; omega
  unfold partsL coveredB
  rw [Bool.eq_iff_iff]
  split
  · simp [hasB, m1, m2]; omega
  · have m3 : mayB (2 * s) l = true := by simp [mayB]; omega
    simp [hasB, m1, m2, m3]; omega
theorem Halves.join {fa ta s l : Int} (h : Halves fa ta s l) : joinL (partsL fa ta s l) = [(0, 2 * s + l)] := by
  have hc := h.covered
  obtain ⟨h1, h2, h3, h4, h5⟩ := h
  refine Canon.unique (join_canon _) ⟨?_, by simp, fun p => ?_⟩
  · intro x hx
    simp only [List.mem_singleton] at hx
    subst hx
    show 1 ≤ 2 * s + l
    omega
  · rw [hc p]
    simp [InS]
theorem Halves.count {fa ta s l : Int} (h : Halves fa ta s l) (p : Int) : countB p (partsL fa ta s l) = if 0 ≤ p ∧ p < 2 * s + l then 1 else 0 := by
  obtain ⟨h1, h2, h3, h4, h5⟩ := h
  have m1 : mayB fa s = true := by simp [mayB]; omega
  have m2 : mayB ta s = true := by simp [mayB]; omega
  have c1 : ∀ a d, mayB a d = true → hasB a d p = decide (a ≤ p ∧ p < a + d) := fun a d h => by simp [hasB, h]
  unfold partsL countB
  split
  · simp only [List.filter_cons, List.filter_nil, c1 _ _ m1, c1 _ _ m2, decide_eq_true_eq]
    (repeat' split) <;> simp <;> omega
  · have m3 : mayB (2 * s) l = true := by simp [mayB]; omega
    simp only [List.filter_cons, List.filter_nil, c1 _ _ m1, c1 _ _ m2, c1 _ _ m3, decide_eq_true_eq]
    (repeat' split) <;> simp <;> omega
theorem where_pos {s l t m : Int} (h : cfgB s l t m = true) (b : Bool) (p : Int) : decide (0 < whereZ s l t m b p) = decide (0 ≤ p ∧ p < 2 * s + l) := by
  obtain ⟨h1, h2, h3, h4, h5, h6, h7, h8⟩ := cfg_bd h
  rw [where_eq, Bool.eq_iff_iff]
  simp only [h, wordsZ, if_true, Bool.true_eq_false, false_or, decide_eq_true_eq]
  (repeat' split) <;> omega

theorem from_is {s l t m fa d : Int} {b : Bool} (h1 : halfA s l t m b = fa) (h2 : halfS s l t m = d) (w : World) :
    Calls Try.prog 34 #[.agg #[.int .i64 (s), .int .i64 (l), .int .i64 (t), .int .i64 (m)], .bool b] w fun e w' => e = .returned (.agg #[.int .i64 (fa), .int .i64 (d)]) ∧ Ext w w' := by
  subst h1 h2; exact from_any s l t m b w
theorem to_is {s l t m ta d : Int} {b : Bool} (h1 : halfA s l t m (!b) = ta) (h2 : halfS s l t m = d) (w : World) :
    Calls Try.prog 37 #[.agg #[.int .i64 (s), .int .i64 (l), .int .i64 (t), .int .i64 (m)], .bool b] w fun e w' => e = .returned (.agg #[.int .i64 (ta), .int .i64 (d)]) ∧ Ext w w' := by
  subst h1 h2; exact to_any s l t m b w
theorem large_is {s l t m la d : Int} (h1 : largeA s l t m = la) (h2 : largeS s l t m = d) (w : World) :
    Calls Try.prog 38 #[.agg #[.int .i64 (s), .int .i64 (l), .int .i64 (t), .int .i64 (m)]] w fun e w' => e = .returned (.agg #[.int .i64 (la), .int .i64 (d)]) ∧ Ext w w' := by
  subst h1 h2; exact large_any s l t m w
theorem check_is {s l t m : Int} {b : Bool} (h1 : cfgB s l t m = b) (w : World) :
    Calls Try.prog 33 #[.agg #[.int .i64 (s), .int .i64 (l), .int .i64 (t), .int .i64 (m)]] w fun e w' => e = .returned (.bool b) ∧ Ext w w' := by
  subst h1; exact check_any s l t m w
theorem words_is {s l t m n : Int} (h1 : wordsZ s l t m = n) (w : World) :
    Calls Try.prog 35 #[.agg #[.int .i64 (s), .int .i64 (l), .int .i64 (t), .int .i64 (m)]] w fun e w' => e = .returned (.int .i64 n) ∧ Ext w w' := by
  subst h1; exact words_any s l t m w
theorem where_is {s l t m p n : Int} {b : Bool} (h1 : whereZ s l t m b p = n) (w : World) :
    Calls Try.prog 39 #[.agg #[.int .i64 (s), .int .i64 (l), .int .i64 (t), .int .i64 (m)], .bool b, .int .i64 p] w fun e w' => e = .returned (.int .i64 n) ∧ Ext w w' := by
  subst h1; exact where_any s l t m b p w

set_option maxRecDepth 100000 in
set_option maxHeartbeats 8000000 in
theorem layoutParts_no (s l t m : Int) (b : Bool) (p : Int) (w : World) (hb : cfgB s l t m = false) :
    Calls Try.prog 7 #[.agg #[.int .i64 (s), .int .i64 (l), .int .i64 (t), .int .i64 (m)], .bool b, .int .i64 p] w fun e w' => e = .returned (.bool true) ∧ Ext w w' := by
  have e1 : halfA s l t m b = 0 := by simp [halfA, hb]
  have e2 : halfS s l t m = 0 := by simp [halfS, hb]
  have e3 : wordsZ s l t m = 0 := by simp [wordsZ, hb]
  have H1 := Lib.hid e1
  have H2 := Lib.hid e2
  have H3 := Lib.hid e3
  have HB := Lib.hid hb
  clear e1 e2 e3 hb
  go_enter Try.func7, Try.ntmps7
  have k0 := boxed w #[.int .i64 s, .int .i64 l, .int .i64 t, .int .i64 m] 38 0 _ rfl
  have k1 := boxed w #[.int .i64 s, .int .i64 l, .int .i64 t, .int .i64 m] 38 1 _ rfl
  have k2 := boxed w #[.int .i64 s, .int .i64 l, .int .i64 t, .int .i64 m] 38 2 _ rfl
  have k3 := boxed w #[.int .i64 s, .int .i64 l, .int .i64 t, .int .i64 m] 38 3 _ rfl
  have hW : Ext w (w.alloc (.cells #[.int .i64 s, .int .i64 l, .int .i64 t, .int .i64 m] 38)) := (Ext.refl w).alloc _
  have hs0 : Ext (w.alloc (.cells #[.int .i64 s, .int .i64 l, .int .i64 t, .int .i64 m] 38)) (w.alloc (.cells #[.int .i64 s, .int .i64 l, .int .i64 t, .int .i64 m] 38)) := Ext.refl _
  go_wp2_with fail
  generalize w.alloc (.cells #[.int .i64 s, .int .i64 l, .int .i64 t, .int .i64 m] 38) = W at *
  go_wp2_with (first | (go_at_call 33; refine (check_is HB.out _).mono ?_; rintro e w1 ⟨rfl, hx0⟩; have hx := Ext.trans (a := W) (by with_reducible assumption) hx0; clear hx0) | (go_at_call 34; refine (from_is H1.out H2.out _).mono ?_; rintro e w1 ⟨rfl, hx0⟩; have hx := Ext.trans (a := W) (by with_reducible assumption) hx0; clear hx0) | (go_at_call 35; refine (words_is H3.out _).mono ?_; rintro e w1 ⟨rfl, hx0⟩; have hx := Ext.trans (a := W) (by with_reducible assumption) hx0; clear hx0) | (go_at_call 36; refine (awake04_any _).mono ?_; rintro e w1 ⟨rfl, hx0⟩; have hx := Ext.trans (a := W) (by with_reducible assumption) hx0; clear hx0))
  go_ret
  exact ⟨rfl, Ext.trans hW (by assumption)⟩
end Go.Proofs.Ytllcekmbcmhckaa
