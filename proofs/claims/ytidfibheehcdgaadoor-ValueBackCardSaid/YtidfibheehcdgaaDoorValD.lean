/- awake of the laws of values; the laws ValueWords, ValueTexts, ValueBack. -/
import Derived.Test.YtidfibheehcdgaaDoorValC
set_option linter.unusedSimpArgs false
set_option linter.unusedVariables false
namespace Go.Proofs.YtidfibheehcdgaaDoor
open Go.RowKit

theorem dec_is (v t x er : Int) (h0 : 0 ≤ v) (h1 : v < 18446744073709551616) (ht : decT v = t) (hx : decX v = x) (he : decE v = er) (w : World) :
    Calls Tryd.prog 22 #[.int .u64 v] w fun e w' => e = .returned (.tuple #[.agg #[.int .i64 t, .int .i64 x], .int .i64 er]) ∧ Ext w w' := by
  subst ht hx he; exact dec_any v w h0 h1
theorem vref_is (v x : Int) (b : Bool) (h0 : 0 ≤ v) (h1 : v < 18446744073709551616) (hx : refX v = x) (hb : refB v = b) (w : World) :
    Calls Tryd.prog 24 #[.int .u64 v] w fun e w' => e = .returned (.tuple #[.int .i64 x, .bool b]) ∧ Ext w w' := by
  subst hx hb; exact vref_any v w h0 h1
theorem vtext_is (k x : Int) (l : List UInt8) (h : textL k x = l) (h0 : -9223372036854775808 ≤ x) (h1 : x ≤ 9223372036854775807) (w : World) (ht : TabP w) :
    Calls Tryd.prog 27 #[.agg #[.int .i64 k, .int .i64 x]] w fun e w' => e = .returned (.string ⟨l.toArray⟩) ∧ Ext w w' := by
  subst h; exact vtext_any k x h0 h1 w ht
theorem refvtext_is (k x : Int) (l : List UInt8) (h : textL k x = l) (h0 : -9223372036854775808 ≤ x) (h1 : x ≤ 9223372036854775807) (w : World) :
    Calls Tryd.prog 28 #[.agg #[.int .i64 k, .int .i64 x]] w fun e w' => e = .returned (.string ⟨l.toArray⟩) ∧ Ext w w' := by
  subst h; exact refvtext_any k x h0 h1 w
theorem itoa_5 : Lib.itoa 5 = [53] := by
  rw [show (5 : Int) = ((5 : Nat) : Int) from rfl, Lib.itoa_nonneg, Lib.decDigits_one (by omega)]; rfl
theorem text_25 : textL 2 5 = [64, 53] := by
  have h : vmayB 2 5 = true := by decide
  simp [textL, h, itoa_5]
theorem text_01 : textL 0 1 = [63] := by
  have h : vmayB 0 1 = false := by decide
  simp [textL, h]
theorem text_00 : textL 0 0 = [110, 105, 108] := by
  have h : vmayB 0 0 = true := by decide
  simp [textL, h]

set_option maxRecDepth 100000 in
set_option maxHeartbeats 4000000 in
theorem awake06_any (w : World) (ht : TabP w) : Calls Tryd.prog 26 #[] w fun e w' => e = .returned (.bool true) ∧ Ext w w' := by
  have HT := Lib.hid ht
  clear ht
  go_enter Tryd.func26, Tryd.ntmps26
  go_wp2_with fail
  refine (enc_is 1 (-1) 18446744073709551613 0 (by decide) (by decide) _).mono ?_
  rintro e W1 ⟨rfl, hX⟩
  go_wp2_with fail
  refine (enc_is 2 5 22 0 (by decide) (by decide) _).mono ?_
  rintro e W2 ⟨rfl, hx⟩
  replace hX := hX.trans hx
  clear hx
  go_wp2_with fail
  refine (dec_is 3 0 0 3 (by omega) (by omega) (by decide) (by decide) (by decide) _).mono ?_
  rintro e W3 ⟨rfl, hx⟩
  replace hX := (hX.trans hx).alloc (.cells #[.int .i64 0, .int .i64 0] 39)
  clear hx
  go_wp2_with fail
  generalize W3.alloc (.cells #[.int .i64 0, .int .i64 0] 39) = W4 at *
  refine (vref_is 22 5 true (by omega) (by omega) (by decide) (by decide) _).mono ?_
  rintro e W5 ⟨rfl, hx⟩
  replace hX := hX.trans hx
  clear hx
  go_wp2_with fail
  refine (vref_is 5 0 false (by omega) (by omega) (by decide) (by decide) _).mono ?_
  rintro e W6 ⟨rfl, hx⟩
  replace hX := hX.trans hx
  clear hx
  go_wp2_with fail
  refine (vtext_is 2 5 [64, 53] text_25 (by omega) (by omega) _ (HT.out.ext hX)).mono ?_
  rintro e W7 ⟨rfl, hx⟩
  replace hX := hX.trans hx
  clear hx
  go_wp2_with fail
  refine (vtext_is 0 1 [63] text_01 (by omega) (by omega) _ (HT.out.ext hX)).mono ?_
  rintro e W8 ⟨rfl, hx⟩
  replace hX := hX.trans hx
  clear hx
  go_wp2_with fail
  refine (vtext_is 0 0 [110, 105, 108] text_00 (by omega) (by omega) _ (HT.out.ext hX)).mono ?_
  rintro e W9 ⟨rfl, hx⟩
  replace hX := hX.trans hx
  clear hx
  go_wp2_with fail
  go_ret
  exact ⟨rfl, hX⟩

set_option maxRecDepth 100000 in
set_option maxHeartbeats 4000000 in
theorem valueTexts_any (k x : Int) (h0 : -9223372036854775808 ≤ x) (h1 : x ≤ 9223372036854775807) (w : World) (ht : TabP w) :
    Calls Tryd.prog 6 #[.agg #[.int .i64 k, .int .i64 x]] w fun e w' => e = .returned (.bool true) ∧ Ext w w' := by
  have k0 := boxed w #[.int .i64 k, .int .i64 x] 39 0 (.int .i64 k) rfl
  have k1 := boxed w #[.int .i64 k, .int .i64 x] 39 1 (.int .i64 x) rfl
  have hW : Ext w (w.alloc (.cells #[.int .i64 k, .int .i64 x] 39)) := (Ext.refl w).alloc _
  have HT := Lib.hid (ht.ext hW)
  obtain ⟨l, hl⟩ : ∃ l, textL k x = l := ⟨_, rfl⟩
  have HL := Lib.hid hl
  clear hl ht
  go_enter Tryd.func6, Tryd.ntmps6
  go_wp2_with fail
  generalize w.alloc (.cells #[.int .i64 k, .int .i64 x] 39) = W at *
  have hs0 : Ext W W := Ext.refl W
  have l0 := fun u : ExtOf W => k0 u.1 u.2
  have l1 := fun u : ExtOf W => k1 u.1 u.2
  have HT2 : Hid (∀ u : ExtOf W, TabP u.1) := Lib.hid fun u => HT.out.ext u.2
  (refine wp_region_ext (W := W) (by kernel_rfl) (by kernel_rfl) (by with_reducible assumption) ?_; (repeat (go_big_quiet_step (first | (go_at_call 27; with_reducible exact Calls.ext_of (vtext_is k x l HL.out h0 h1 _ (HT2.out _))) | (go_at_call 28; with_reducible exact Calls.ext_of (refvtext_is k x l HL.out h0 h1 _)) | (go_at_call 26; with_reducible exact Calls.ext_of (awake06_any _ (HT2.out _)))))); refine wpQuiet_nil ?_; intro w1 hx)
  go_wp2_with fail
  go_ret
  exact ⟨rfl, hW.trans hx⟩

theorem refenc_is (k x u er : Int) (h1 : encW k x = u) (h2 : encE k x = er) (w : World) :
    Calls Tryd.prog 21 #[.agg #[.int .i64 k, .int .i64 x]] w fun e w' => e = .returned (.tuple #[.int .u64 u, .int .i64 er]) ∧ Ext w w' := by
  subst h1 h2; exact refenc_any k x w
theorem refdec_is (v t x er : Int) (h0 : 0 ≤ v) (h1 : v < 18446744073709551616) (ht : decT v = t) (hx : decX v = x) (he : decE v = er) (w : World) :
    Calls Tryd.prog 23 #[.int .u64 v] w fun e w' => e = .returned (.tuple #[.agg #[.int .i64 t, .int .i64 x], .int .i64 er]) ∧ Ext w w' := by
  subst ht hx he; exact refdec_any v w h0 h1
theorem refvref_is (v x : Int) (b : Bool) (h0 : 0 ≤ v) (h1 : v < 18446744073709551616) (hx : refX v = x) (hb : refB v = b) (w : World) :
    Calls Tryd.prog 25 #[.int .u64 v] w fun e w' => e = .returned (.tuple #[.int .i64 x, .bool b]) ∧ Ext w w' := by
  subst hx hb; exact refvref_any v w h0 h1

set_option maxRecDepth 100000 in
set_option maxHeartbeats 4000000 in
theorem valueWords_any (k x v : Int) (hv0 : 0 ≤ v) (hv1 : v < 18446744073709551616) (w : World) (ht : TabP w) :
    Calls Tryd.prog 5 #[.agg #[.int .i64 k, .int .i64 x], .int .u64 v] w fun e w' => e = .returned (.bool true) ∧ Ext w w' := by
  have k0 := boxed w #[.int .i64 k, .int .i64 x] 39 0 (.int .i64 k) rfl
  have k1 := boxed w #[.int .i64 k, .int .i64 x] 39 1 (.int .i64 x) rfl
  have hW : Ext w (w.alloc (.cells #[.int .i64 k, .int .i64 x] 39)) := (Ext.refl w).alloc _
  have HT := Lib.hid ht
  obtain ⟨ew, h1⟩ : ∃ z, encW k x = z := ⟨_, rfl⟩
  obtain ⟨ee, h2⟩ : ∃ z, encE k x = z := ⟨_, rfl⟩
  obtain ⟨dt, h3⟩ : ∃ z, decT v = z := ⟨_, rfl⟩
  obtain ⟨dx, h4⟩ : ∃ z, decX v = z := ⟨_, rfl⟩
  obtain ⟨de, h5⟩ : ∃ z, decE v = z := ⟨_, rfl⟩
  obtain ⟨rx, h6⟩ : ∃ z, refX v = z := ⟨_, rfl⟩
  obtain ⟨rb, h7⟩ : ∃ z, refB v = z := ⟨_, rfl⟩
  have H1 := Lib.hid h1
  have H2 := Lib.hid h2
  have H3 := Lib.hid h3
  have H4 := Lib.hid h4
  have H5 := Lib.hid h5
  have H6 := Lib.hid h6
  have H7 := Lib.hid h7
  clear ht h1 h2 h3 h4 h5 h6 h7
  go_enter Tryd.func5, Tryd.ntmps5
  go_wp2_with fail
  generalize w.alloc (.cells #[.int .i64 k, .int .i64 x] 39) = W at *
  refine (enc_is k x ew ee H1.out H2.out _).mono ?_
  rintro e W1 ⟨rfl, hx⟩
  have c0 := k0 W1 hx
  have c1 := k1 W1 hx
  replace hW := hW.trans hx
  clear hx k0 k1
  go_wp2_with fail
  refine (refenc_is k x ew ee H1.out H2.out _).mono ?_
  rintro e W2 ⟨rfl, hx⟩
  replace hW := hW.trans hx
  clear hx c0 c1
  go_wp2_with fail
  refine (dec_is v dt dx de hv0 hv1 H3.out H4.out H5.out _).mono ?_
  rintro e W3 ⟨rfl, hx⟩
  replace hW := hW.trans hx
  clear hx
  have q0 := boxed W3 #[.int .i64 dt, .int .i64 dx] 39 0 (.int .i64 dt) rfl
  have q1 := boxed W3 #[.int .i64 dt, .int .i64 dx] 39 1 (.int .i64 dx) rfl
  replace hW := hW.alloc (.cells #[.int .i64 dt, .int .i64 dx] 39)
  go_wp2_with fail
  generalize W3.alloc (.cells #[.int .i64 dt, .int .i64 dx] 39) = W4 at *
  generalize W3.heap.size = B1 at *
  refine (refdec_is v dt dx de hv0 hv1 H3.out H4.out H5.out _).mono ?_
  rintro e W5 ⟨rfl, hx⟩
  replace hW := (hW.trans hx).alloc (.cells #[.int .i64 dt, .int .i64 dx] 39)
  have p0 := boxed W5 #[.int .i64 dt, .int .i64 dx] 39 0 (.int .i64 dt) rfl
  have p1 := boxed W5 #[.int .i64 dt, .int .i64 dx] 39 1 (.int .i64 dx) rfl
  have hq := hx.alloc (.cells #[.int .i64 dt, .int .i64 dx] 39)
  clear hx
  go_wp2_with fail
  generalize W5.alloc (.cells #[.int .i64 dt, .int .i64 dx] 39) = W6 at *
  generalize W5.heap.size = B2 at *
  refine (vref_is v rx rb hv0 hv1 H6.out H7.out _).mono ?_
  rintro e W7 ⟨rfl, hx⟩
  replace hW := hW.trans hx
  go_wp2_with fail
  refine (refvref_is v rx rb hv0 hv1 H6.out H7.out _).mono ?_
  rintro e W8 ⟨rfl, hx8⟩
  replace hW := hW.trans hx8
  have a0 := q0 W8 (hq.trans (hx.trans hx8))
  have a1 := q1 W8 (hq.trans (hx.trans hx8))
  have b0 := p0 W8 (hx.trans hx8)
  have b1 := p1 W8 (hx.trans hx8)
  clear p0 p1 q0 q1 hq hx hx8
  go_wp2_with fail
  refine (awake06_any _ (HT.out.ext hW)).mono ?_
  rintro e W9 ⟨rfl, hx⟩
  replace hW := hW.trans hx
  go_wp2_with fail
  go_ret
  exact ⟨rfl, hW⟩

/-! ### The plain laws of ValueBack -/
theorem enc_bd (k x : Int) : 0 ≤ encW k x ∧ encW k x < 18446744073709551616 := by
  unfold encW
  split
  · split <;> omega
  · omega
theorem enc_ok {k x : Int} (h : encE k x = 0) : (k = 0 ∧ x = 0) ∨ (k = 1 ∧ -2305843009213693952 ≤ x ∧ x ≤ 2305843009213693951) ∨ (k = 2 ∧ 0 ≤ x ∧ x ≤ 1099511627776) := by
  cases hb : vmayB k x
  · have := (enc_no hb).2
    omega
  · exact of_decide_eq_true hb
theorem back_enc {k x : Int} (h : encE k x = 0) : decT (encW k x) = k ∧ decX (encW k x) = x ∧ decE (encW k x) = 0 := by
  rcases enc_ok h with ⟨rfl, rfl⟩ | ⟨rfl, h1, h2⟩ | ⟨rfl, h1, h2⟩
  · decide
  · rw [(enc_1 h1 h2).1]
    simp only [decT, decX, decE]
    refine ⟨?_, ?_, ?_⟩ <;> (repeat' split) <;> omega
  · rw [(enc_2 h1 h2).1]
    simp only [decT, decX, decE]
    refine ⟨?_, ?_, ?_⟩ <;> (repeat' split) <;> omega
theorem back_dec {w : Int} (h0 : 0 ≤ w) (h1 : w < 18446744073709551616) (h : decE w = 0) : encE (decT w) (decX w) = 0 ∧ encW (decT w) (decX w) = w := by
  have hc : w % 4 = 1 ∨ (w % 4 = 2 ∧ w / 4 ≤ 1099511627776) ∨ w = 0 := by
    simp only [decE] at h
    by_cases hh : w % 4 = 1 ∨ (w % 4 = 2 ∧ w / 4 ≤ 1099511627776) ∨ w = 0
    · exact hh
    · rw [if_neg hh] at h; omega
  rcases hc with hc | ⟨hc, hd⟩ | rfl
  · have e1 : decT w = 1 := by simp [decT, hc]
    have e2 : decX w = if w < 9223372036854775808 then w / 4 else w / 4 - 4611686018427387904 := by simp [decX, hc]
    rw [e1, e2]
    split
    · have := enc_1 (x := w / 4) (by omega) (by omega)
      rw [this.1, this.2]; omega
    · have := enc_1 (x := w / 4 - 4611686018427387904) (by omega) (by omega)
      rw [this.1, this.2]; omega
  · have e1 : decT w = 2 := by simp [decT, hc, hd]
    have e2 : decX w = w / 4 := by simp [decX, hc, hd]
    rw [e1, e2]
    have := enc_2 (x := w / 4) (by omega) (by omega)
    rw [this.1, this.2]; omega
  · decide
theorem dec_no {w : Int} (h : decE w ≠ 0) : decT w = 0 ∧ decX w = 0 := by
  have hc : ¬ (w % 4 = 1 ∨ (w % 4 = 2 ∧ w / 4 ≤ 1099511627776) ∨ w = 0) := by
    intro hh
    simp only [decE, if_pos hh] at h
    exact h rfl
  simp only [decT, decX]
  refine ⟨?_, ?_⟩ <;> (repeat' split) <;> omega
end Go.Proofs.YtidfibheehcdgaaDoor
