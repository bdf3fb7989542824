/- The walk of the law LayoutTells, and of its awake. -/
import Derived.Test.YtbdedcgecmbalaaLayoutB
set_option linter.unusedSimpArgs false
set_option linter.unusedVariables false
namespace Go.Proofs.Ytbdedcgecmbalaa
open Go.RowKit

set_option maxRecDepth 100000 in
set_option maxHeartbeats 1000000 in
theorem awake04_any (w : World) :
    Calls Try.prog 21 #[] w fun e w' => e = .returned (.bool true) ∧ Ext w w' := by
  have e1 : cfgB 4 3 2 3 = true := by decide
  have e2 : wordsZ 4 3 2 3 = 11 := by decide
  have e3 : halfA 4 3 2 3 true = 4 := by decide
  have e4 : halfA 4 3 2 3 false = 0 := by decide
  have e5 : halfS 4 3 2 3 = 4 := by decide
  have e6 : largeA 4 3 2 3 = 8 := by decide
  have e7 : largeS 4 3 2 3 = 3 := by decide
  have e8 : whereZ 4 3 2 3 true 0 = 2 := by decide
  have e9 : whereZ 4 3 2 3 false 10 = 3 := by decide
  have e10 : whereZ 4 3 2 3 false 11 = 0 := by decide
  have e11 : smallB 4 3 2 3 3 = true := by decide
  have e12 : smallB 4 3 2 3 4 = false := by decide
  have e13 : cfgB 0 0 0 0 = false := by decide
  go_enter Try.func21, Try.ntmps21
  go_wp2_with fail
  have k0 := boxed w #[.int .i64 4, .int .i64 3, .int .i64 2, .int .i64 3] 23 0 _ rfl
  have k1 := boxed w #[.int .i64 4, .int .i64 3, .int .i64 2, .int .i64 3] 23 1 _ rfl
  have k2 := boxed w #[.int .i64 4, .int .i64 3, .int .i64 2, .int .i64 3] 23 2 _ rfl
  have k3 := boxed w #[.int .i64 4, .int .i64 3, .int .i64 2, .int .i64 3] 23 3 _ rfl
  have hW : Ext w (w.alloc (.cells #[.int .i64 4, .int .i64 3, .int .i64 2, .int .i64 3] 23)) := (Ext.refl w).alloc _
  generalize w.alloc (.cells #[.int .i64 4, .int .i64 3, .int .i64 2, .int .i64 3] 23) = W at *
  have hs0 : Ext W W := Ext.refl W
  go_wp2_with (first | (go_at_call 7; refine (check_any _ _ _ _ _).mono ?_; rintro e w1 ⟨rfl, hx0⟩; have hx := Ext.trans (a := W) (by with_reducible assumption) hx0; clear hx0) | (go_at_call 9; refine (words_any _ _ _ _ _).mono ?_; rintro e w1 ⟨rfl, hx0⟩; have hx := Ext.trans (a := W) (by with_reducible assumption) hx0; clear hx0) | (go_at_call 11; refine (from_any _ _ _ _ _ _).mono ?_; rintro e w1 ⟨rfl, hx0⟩; have hx := Ext.trans (a := W) (by with_reducible assumption) hx0; clear hx0) | (go_at_call 13; refine (to_any _ _ _ _ _ _).mono ?_; rintro e w1 ⟨rfl, hx0⟩; have hx := Ext.trans (a := W) (by with_reducible assumption) hx0; clear hx0) | (go_at_call 15; refine (large_any _ _ _ _ _).mono ?_; rintro e w1 ⟨rfl, hx0⟩; have hx := Ext.trans (a := W) (by with_reducible assumption) hx0; clear hx0) | (go_at_call 17; refine (where_any _ _ _ _ _ _ _).mono ?_; rintro e w1 ⟨rfl, hx0⟩; have hx := Ext.trans (a := W) (by with_reducible assumption) hx0; clear hx0) | (go_at_call 19; refine (small_any _ _ _ _ _ _).mono ?_; rintro e w1 ⟨rfl, hx0⟩; have hx := Ext.trans (a := W) (by with_reducible assumption) hx0; clear hx0))
  go_ret
  exact ⟨rfl, Ext.trans hW (by assumption)⟩

set_option maxRecDepth 100000 in
set_option maxHeartbeats 2000000 in
theorem layoutTells_any (s l t m : Int) (b : Bool) (p : Int) (w : World) :
    Calls Try.prog 3 #[.agg #[.int .i64 (s), .int .i64 (l), .int .i64 (t), .int .i64 (m)], .bool b, .int .i64 p] w fun e w' => e = .returned (.bool true) ∧ Ext w w' := by
  go_enter Try.func3, Try.ntmps3
  go_wp2_with fail
  have k0 := boxed w #[.int .i64 s, .int .i64 l, .int .i64 t, .int .i64 m] 23 0 _ rfl
  have k1 := boxed w #[.int .i64 s, .int .i64 l, .int .i64 t, .int .i64 m] 23 1 _ rfl
  have k2 := boxed w #[.int .i64 s, .int .i64 l, .int .i64 t, .int .i64 m] 23 2 _ rfl
  have k3 := boxed w #[.int .i64 s, .int .i64 l, .int .i64 t, .int .i64 m] 23 3 _ rfl
  have hW : Ext w (w.alloc (.cells #[.int .i64 s, .int .i64 l, .int .i64 t, .int .i64 m] 23)) := (Ext.refl w).alloc _
  generalize w.alloc (.cells #[.int .i64 s, .int .i64 l, .int .i64 t, .int .i64 m] 23) = W at *
  have hs0 : Ext W W := Ext.refl W
  go_region_held3 (fun w' => Ext W w') (first | (with_reducible assumption) | (exact Ext.drew (Ext.refl _)) | (exact Ext.trans (by assumption) (by assumption))) (first
    | (go_at_call 7; refine (check_any _ _ _ _ _).mono ?_; rintro e w1 ⟨rfl, hx⟩)
    | (go_at_call 8; refine (refcheck_any _ _ _ _ _).mono ?_; rintro e w1 ⟨rfl, hx⟩)
    | (go_at_call 9; refine (words_any _ _ _ _ _).mono ?_; rintro e w1 ⟨rfl, hx⟩)
    | (go_at_call 10; refine (refwords_any _ _ _ _ _).mono ?_; rintro e w1 ⟨rfl, hx⟩)
    | (go_at_call 11; refine (from_any _ _ _ _ _ _).mono ?_; rintro e w1 ⟨rfl, hx⟩)
    | (go_at_call 12; refine (reffrom_any _ _ _ _ _ _).mono ?_; rintro e w1 ⟨rfl, hx⟩)
    | (go_at_call 13; refine (to_any _ _ _ _ _ _).mono ?_; rintro e w1 ⟨rfl, hx⟩)
    | (go_at_call 14; refine (refto_any _ _ _ _ _ _).mono ?_; rintro e w1 ⟨rfl, hx⟩))
  go_wp2_with fail
  go_region_held3 (fun w' => Ext W w') (first | (with_reducible assumption) | (exact Ext.drew (by assumption)) | (exact Ext.trans (by assumption) (by assumption))) (first
    | (go_at_call 15; refine (large_any _ _ _ _ _).mono ?_; rintro e w1 ⟨rfl, hx⟩)
    | (go_at_call 16; refine (reflarge_any _ _ _ _ _).mono ?_; rintro e w1 ⟨rfl, hx⟩)
    | (go_at_call 17; refine (where_any _ _ _ _ _ _ _).mono ?_; rintro e w1 ⟨rfl, hx⟩)
    | (go_at_call 18; refine (refwhere_any _ _ _ _ _ _ _).mono ?_; rintro e w1 ⟨rfl, hx⟩)
    | (go_at_call 19; refine (small_any _ _ _ _ _ _).mono ?_; rintro e w1 ⟨rfl, hx⟩)
    | (go_at_call 20; refine (refsmall_any _ _ _ _ _ _).mono ?_; rintro e w1 ⟨rfl, hx⟩)
    | (go_at_call 21; refine (awake04_any _).mono ?_; rintro e w1 ⟨rfl, hx⟩))
  go_wp2
  go_ret
  exact ⟨rfl, Ext.trans hW (by assumption)⟩
section
open Go.Joins Go.ChangeShapes Go.WideShapes
variable {H : Type} {enc : TypeId × Value → H} {w : World} {base b0 : Nat} {spare : Nat → Bool} {held : Bool} {v : Value} {d : DataW H} {p : List MemPlace} {r : Reach}
theorem open_cfg (hv : Value.okWide Try.prog w r b0 23 v) (h : DataW.Trod enc Try.prog w base spare held 23 v d p) :
    ∃ s l t m : Int, v = .agg #[.int .i64 (s), .int .i64 (l), .int .i64 (t), .int .i64 (m)] := by
  obtain ⟨c0, c1, c2, c3, y0, y1, y2, y3, n, rfl, rfl, rfl, hy0, hy1, hy2, hy3⟩ := open_agg4 Try.underlying23 (by kernel_rfl) (by kernel_rfl) hv h
  obtain ⟨a0, e0, _, _⟩ := DataW.trod_int Try.underlying3 hy0
  obtain ⟨a1, e1, _, _⟩ := DataW.trod_int Try.underlying3 hy1
  obtain ⟨a2, e2, _, _⟩ := DataW.trod_int Try.underlying3 hy2
  obtain ⟨a3, e3, _, _⟩ := DataW.trod_int Try.underlying3 hy3
  simp only [List.cons.injEq, and_true] at e0 e1 e2 e3
  subst e0 e1 e2 e3
  exact ⟨_, _, _, _, rfl⟩
end
theorem layoutTells_fin {v : Value} {b : Bool} {p : Int} (hv : ∃ s l t m : Int, v = .agg #[.int .i64 (s), .int .i64 (l), .int .i64 (t), .int .i64 (m)]) (hp : (Lit.int .i64 p).wf = true) (w : World) :
    Calls Try.prog 3 #[v, .bool b, .int .i64 p] w fun e w' => e = .returned (.bool true) ∧ Ext w w' := by
  obtain ⟨s, l, t, m, rfl⟩ := hv
  exact layoutTells_any s l t m b p w
end Go.Proofs.Ytbdedcgecmbalaa
