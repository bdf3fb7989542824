/- The law ValueBack. -/
import Derived.Test.YtidfibheehcdgaaDoorValD
set_option linter.unusedSimpArgs false
set_option linter.unusedVariables false
namespace Go.Proofs.YtidfibheehcdgaaDoor
open Go.RowKit

theorem encE_cases (k x : Int) : encE k x = 0 ∨ encE k x = 1 := by unfold encE; split <;> simp
theorem enc_inj {a b c d : Int} (h1 : encE a b = 0) (h2 : encE c d = 0) (h : encW a b = encW c d) : a = c ∧ b = d := by
  obtain ⟨p1, p2, _⟩ := back_enc h1
  obtain ⟨q1, q2, _⟩ := back_enc h2
  rw [h] at p1 p2
  omega

set_option maxRecDepth 100000 in
set_option maxHeartbeats 8000000 in
theorem valueBack_any (k x c d v : Int) (hv0 : 0 ≤ v) (hv1 : v < 18446744073709551616) (w : World) (ht : TabP w) :
    Calls Tryd.prog 7 #[.agg #[.int .i64 k, .int .i64 x], .agg #[.int .i64 c, .int .i64 d], .int .u64 v] w fun e w' => e = .returned (.bool true) ∧ Ext w w' := by
  have k0 := boxed w #[.int .i64 k, .int .i64 x] 39 0 (.int .i64 k) rfl
  have k1 := boxed w #[.int .i64 k, .int .i64 x] 39 1 (.int .i64 x) rfl
  have hW0 : Ext w (w.alloc (.cells #[.int .i64 k, .int .i64 x] 39)) := (Ext.refl w).alloc _
  have hW1 : Ext (w.alloc (.cells #[.int .i64 k, .int .i64 x] 39)) ((w.alloc (.cells #[.int .i64 k, .int .i64 x] 39)).alloc (.cells #[.int .i64 c, .int .i64 d] 39)) := (Ext.refl _).alloc _
  have j0 := boxed (w.alloc (.cells #[.int .i64 k, .int .i64 x] 39)) #[.int .i64 c, .int .i64 d] 39 0 (.int .i64 c) rfl
  have j1 := boxed (w.alloc (.cells #[.int .i64 k, .int .i64 x] 39)) #[.int .i64 c, .int .i64 d] 39 1 (.int .i64 d) rfl
  replace k0 := fun w' h => k0 w' (hW1.trans h)
  replace k1 := fun w' h => k1 w' (hW1.trans h)
  have hW := hW0.trans hW1
  have hsz : (w.alloc (.cells #[.int .i64 k, .int .i64 x] 39)).heap.size = w.heap.size + 1 := by simp
  rw [hsz] at j0 j1
  clear hW0 hW1 hsz
  have HT := Lib.hid ht
  obtain ⟨u1, h1⟩ : ∃ z, encW k x = z := ⟨_, rfl⟩
  obtain ⟨e1, h2⟩ : ∃ z, encE k x = z := ⟨_, rfl⟩
  obtain ⟨u2, h6⟩ : ∃ z, encW c d = z := ⟨_, rfl⟩
  obtain ⟨e2, h7⟩ : ∃ z, encE c d = z := ⟨_, rfl⟩
  obtain ⟨dt, h3⟩ : ∃ z, decT v = z := ⟨_, rfl⟩
  obtain ⟨dx, h4⟩ : ∃ z, decX v = z := ⟨_, rfl⟩
  obtain ⟨de, h5⟩ : ∃ z, decE v = z := ⟨_, rfl⟩
  have hu := enc_bd k x
  rw [h1] at hu
  obtain ⟨hu0, hu1⟩ := hu
  have H1 := Lib.hid h1
  have H2 := Lib.hid h2
  have H3 := Lib.hid h3
  have H4 := Lib.hid h4
  have H5 := Lib.hid h5
  have H6 := Lib.hid h6
  have H7 := Lib.hid h7
  have hc1 : e1 = 0 ∨ e1 = 1 := h2 ▸ encE_cases k x
  have hc2 : e2 = 0 ∨ e2 = 1 := h7 ▸ encE_cases c d
  clear ht h1 h2 h3 h4 h5 h6 h7
  go_enter Tryd.func7, Tryd.ntmps7
  have c0 := k0 _ (Ext.refl _)
  have c1 := k1 _ (Ext.refl _)
  go_wp2_with fail
  generalize (w.alloc (.cells #[.int .i64 k, .int .i64 x] 39)).alloc (.cells #[.int .i64 c, .int .i64 d] 39) = W at *
  refine (enc_is k x u1 e1 H1.out H2.out _).mono ?_
  rintro e W1 ⟨rfl, hx⟩
  clear c0 c1
  have c0 := j0 W1 hx
  have c1 := j1 W1 hx
  replace k0 := fun w' h => k0 w' (hx.trans h)
  replace k1 := fun w' h => k1 w' (hx.trans h)
  replace j0 := fun w' h => j0 w' (hx.trans h)
  replace j1 := fun w' h => j1 w' (hx.trans h)
  replace hW := hW.trans hx
  clear hx
  go_wp2_with fail
  refine (enc_is c d u2 e2 H6.out H7.out _).mono ?_
  rintro e W2 ⟨rfl, hx⟩
  clear c0 c1
  replace k0 := fun w' h => k0 w' (hx.trans h)
  replace k1 := fun w' h => k1 w' (hx.trans h)
  replace j0 := fun w' h => j0 w' (hx.trans h)
  replace j1 := fun w' h => j1 w' (hx.trans h)
  replace hW := hW.trans hx
  clear hx
  rcases hc1 with rfl | rfl
  · obtain ⟨g1, g2, g3⟩ := back_enc H2.out
    rw [H1.out] at g1 g2 g3
    have G1 := Lib.hid g1
    have G2 := Lib.hid g2
    have G3 := Lib.hid g3
    clear g1 g2 g3
    go_wp2_with fail
    refine (dec_is u1 k x 0 hu0 hu1 G1.out G2.out G3.out _).mono ?_
    rintro e W3 ⟨rfl, hx⟩
    have q0 := boxed W3 #[.int .i64 k, .int .i64 x] 39 0 (.int .i64 k) rfl
    have q1 := boxed W3 #[.int .i64 k, .int .i64 x] 39 1 (.int .i64 x) rfl
    replace hx := hx.alloc (.cells #[.int .i64 k, .int .i64 x] 39)
    have a0 := k0 _ hx
    have a1 := k1 _ hx
    have b0 := j0 _ hx
    have b1 := j1 _ hx
    replace q0 := q0 _ (Ext.refl _)
    replace q1 := q1 _ (Ext.refl _)
    replace hW := hW.trans hx
    clear hx k0 k1 j0 j1
    have A0 := Lib.hid a0
    have A1 := Lib.hid a1
    have B0 := Lib.hid b0
    have B1 := Lib.hid b1
    rcases hc2 with rfl | rfl
    · by_cases hs : k = c ∧ x = d
      · obtain ⟨rfl, rfl⟩ := hs
        obtain rfl : u1 = u2 := H1.out.symm.trans H6.out
        go_wp2_with fail
        generalize W3.alloc (.cells #[.int .i64 k, .int .i64 x] 39) = W4 at *
        clear q0 q1 a0 a1 b0 b1
        refine (dec_is v dt dx de hv0 hv1 H3.out H4.out H5.out _).mono ?_
        rintro e W7 ⟨rfl, hx⟩
        replace hW := hW.trans hx
        clear hx
        have q0 := boxed W7 #[.int .i64 dt, .int .i64 dx] 39 0 (.int .i64 dt) rfl
        have q1 := boxed W7 #[.int .i64 dt, .int .i64 dx] 39 1 (.int .i64 dx) rfl
        replace hW := hW.alloc (.cells #[.int .i64 dt, .int .i64 dx] 39)
        replace q0 := q0 _ (Ext.refl _)
        replace q1 := q1 _ (Ext.refl _)
        have HQ0 := Lib.hid q0
        have HQ1 := Lib.hid q1
        clear q0 q1
        by_cases hde : de = 0
        · obtain ⟨g1, g2⟩ := back_dec hv0 hv1 (H5.out.trans hde)
          rw [H3.out, H4.out] at g1 g2
          have G1 := Lib.hid g1
          have G2 := Lib.hid g2
          subst hde
          clear g1 g2
          have q0 := HQ0.out
          have q1 := HQ1.out
          go_wp2_with fail
          clear q0 q1
          generalize W7.alloc (.cells #[.int .i64 dt, .int .i64 dx] 39) = W8 at *
          refine (enc_is dt dx v 0 G2.out G1.out _).mono ?_
          rintro e W9 ⟨rfl, hx⟩
          replace hW := hW.trans hx
          go_wp2_with fail
          refine (awake06_any _ (HT.out.ext hW)).mono ?_
          rintro e W10 ⟨rfl, hx⟩
          replace hW := hW.trans hx
          go_wp2_with fail
          go_ret
          exact ⟨rfl, hW⟩
        · obtain ⟨g1, g2⟩ := dec_no (w := v) (by rw [H5.out]; exact hde)
          rw [H3.out] at g1
          rw [H4.out] at g2
          subst g1 g2
          have hde1 : (de == 0) = false := by simpa using hde
          clear hde
          have q0 := HQ0.out
          have q1 := HQ1.out
          go_wp2_with fail
          clear q0 q1
          generalize W7.alloc (.cells #[.int .i64 0, .int .i64 0] 39) = W8 at *
          refine (awake06_any _ (HT.out.ext hW)).mono ?_
          rintro e W10 ⟨rfl, hx⟩
          replace hW := hW.trans hx
          go_wp2_with fail
          go_ret
          exact ⟨rfl, hW⟩
      · have hu12 : u1 ≠ u2 := fun h => hs (enc_inj H2.out H7.out (by rw [H1.out, H6.out]; exact h))
        have hb1 : (u1 == u2) = false := by simpa using hu12
        have hs' : (k == c && x == d) = false := by
          rw [Bool.and_eq_false_iff, beq_eq_false_iff_ne, beq_eq_false_iff_ne]
          by_cases h : k = c
          · exact .inr fun h2 => hs ⟨h, h2⟩
          · exact .inl h
        have hs2 : (k == c) = false ∨ ((k == c) = true ∧ (x == d) = false) := by
          cases h : k == c
          · exact .inl rfl
          · rw [h, Bool.true_and] at hs'
            exact .inr ⟨rfl, hs'⟩
        clear hu12 hs hs'
        rcases hs2 with hs2 | ⟨hs2, hs3⟩
        all_goals
          go_wp2_with fail
          generalize W3.alloc (.cells #[.int .i64 k, .int .i64 x] 39) = W4 at *
          clear q0 q1 a0 a1 b0 b1
          refine (dec_is v dt dx de hv0 hv1 H3.out H4.out H5.out _).mono ?_
          rintro e W7 ⟨rfl, hx⟩
          replace hW := hW.trans hx
          clear hx
          have q0 := boxed W7 #[.int .i64 dt, .int .i64 dx] 39 0 (.int .i64 dt) rfl
          have q1 := boxed W7 #[.int .i64 dt, .int .i64 dx] 39 1 (.int .i64 dx) rfl
          replace hW := hW.alloc (.cells #[.int .i64 dt, .int .i64 dx] 39)
          replace q0 := q0 _ (Ext.refl _)
          replace q1 := q1 _ (Ext.refl _)
          have HQ0 := Lib.hid q0
          have HQ1 := Lib.hid q1
          clear q0 q1
          by_cases hde : de = 0
          · obtain ⟨g1, g2⟩ := back_dec hv0 hv1 (H5.out.trans hde)
            rw [H3.out, H4.out] at g1 g2
            have G1 := Lib.hid g1
            have G2 := Lib.hid g2
            subst hde
            clear g1 g2
            have q0 := HQ0.out
            have q1 := HQ1.out
            go_wp2_with fail
            clear q0 q1
            generalize W7.alloc (.cells #[.int .i64 dt, .int .i64 dx] 39) = W8 at *
            refine (enc_is dt dx v 0 G2.out G1.out _).mono ?_
            rintro e W9 ⟨rfl, hx⟩
            replace hW := hW.trans hx
            go_wp2_with fail
            refine (awake06_any _ (HT.out.ext hW)).mono ?_
            rintro e W10 ⟨rfl, hx⟩
            replace hW := hW.trans hx
            go_wp2_with fail
            go_ret
            exact ⟨rfl, hW⟩
          · obtain ⟨g1, g2⟩ := dec_no (w := v) (by rw [H5.out]; exact hde)
            rw [H3.out] at g1
            rw [H4.out] at g2
            subst g1 g2
            have hde1 : (de == 0) = false := by simpa using hde
            clear hde
            have q0 := HQ0.out
            have q1 := HQ1.out
            go_wp2_with fail
            clear q0 q1
            generalize W7.alloc (.cells #[.int .i64 0, .int .i64 0] 39) = W8 at *
            refine (awake06_any _ (HT.out.ext hW)).mono ?_
            rintro e W10 ⟨rfl, hx⟩
            replace hW := hW.trans hx
            go_wp2_with fail
            go_ret
            exact ⟨rfl, hW⟩
    · go_wp2_with fail
      generalize W3.alloc (.cells #[.int .i64 k, .int .i64 x] 39) = W4 at *
      clear q0 q1 a0 a1 b0 b1
      refine (dec_is v dt dx de hv0 hv1 H3.out H4.out H5.out _).mono ?_
      rintro e W7 ⟨rfl, hx⟩
      replace hW := hW.trans hx
      clear hx
      have q0 := boxed W7 #[.int .i64 dt, .int .i64 dx] 39 0 (.int .i64 dt) rfl
      have q1 := boxed W7 #[.int .i64 dt, .int .i64 dx] 39 1 (.int .i64 dx) rfl
      replace hW := hW.alloc (.cells #[.int .i64 dt, .int .i64 dx] 39)
      replace q0 := q0 _ (Ext.refl _)
      replace q1 := q1 _ (Ext.refl _)
      have HQ0 := Lib.hid q0
      have HQ1 := Lib.hid q1
      clear q0 q1
      by_cases hde : de = 0
      · obtain ⟨g1, g2⟩ := back_dec hv0 hv1 (H5.out.trans hde)
        rw [H3.out, H4.out] at g1 g2
        have G1 := Lib.hid g1
        have G2 := Lib.hid g2
        subst hde
        clear g1 g2
        have q0 := HQ0.out
        have q1 := HQ1.out
        go_wp2_with fail
        clear q0 q1
        generalize W7.alloc (.cells #[.int .i64 dt, .int .i64 dx] 39) = W8 at *
        refine (enc_is dt dx v 0 G2.out G1.out _).mono ?_
        rintro e W9 ⟨rfl, hx⟩
        replace hW := hW.trans hx
        go_wp2_with fail
        refine (awake06_any _ (HT.out.ext hW)).mono ?_
        rintro e W10 ⟨rfl, hx⟩
        replace hW := hW.trans hx
        go_wp2_with fail
        go_ret
        exact ⟨rfl, hW⟩
      · obtain ⟨g1, g2⟩ := dec_no (w := v) (by rw [H5.out]; exact hde)
        rw [H3.out] at g1
        rw [H4.out] at g2
        subst g1 g2
        have hde1 : (de == 0) = false := by simpa using hde
        clear hde
        have q0 := HQ0.out
        have q1 := HQ1.out
        go_wp2_with fail
        clear q0 q1
        generalize W7.alloc (.cells #[.int .i64 0, .int .i64 0] 39) = W8 at *
        refine (awake06_any _ (HT.out.ext hW)).mono ?_
        rintro e W10 ⟨rfl, hx⟩
        replace hW := hW.trans hx
        go_wp2_with fail
        go_ret
        exact ⟨rfl, hW⟩
  · go_wp2_with fail
    refine (dec_is v dt dx de hv0 hv1 H3.out H4.out H5.out _).mono ?_
    rintro e W7 ⟨rfl, hx⟩
    replace hW := hW.trans hx
    clear hx
    have q0 := boxed W7 #[.int .i64 dt, .int .i64 dx] 39 0 (.int .i64 dt) rfl
    have q1 := boxed W7 #[.int .i64 dt, .int .i64 dx] 39 1 (.int .i64 dx) rfl
    replace hW := hW.alloc (.cells #[.int .i64 dt, .int .i64 dx] 39)
    replace q0 := q0 _ (Ext.refl _)
    replace q1 := q1 _ (Ext.refl _)
    have HQ0 := Lib.hid q0
    have HQ1 := Lib.hid q1
    clear q0 q1
    by_cases hde : de = 0
    · obtain ⟨g1, g2⟩ := back_dec hv0 hv1 (H5.out.trans hde)
      rw [H3.out, H4.out] at g1 g2
      have G1 := Lib.hid g1
      have G2 := Lib.hid g2
      subst hde
      clear g1 g2
      have q0 := HQ0.out
      have q1 := HQ1.out
      go_wp2_with fail
      clear q0 q1
      generalize W7.alloc (.cells #[.int .i64 dt, .int .i64 dx] 39) = W8 at *
      refine (enc_is dt dx v 0 G2.out G1.out _).mono ?_
      rintro e W9 ⟨rfl, hx⟩
      replace hW := hW.trans hx
      go_wp2_with fail
      refine (awake06_any _ (HT.out.ext hW)).mono ?_
      rintro e W10 ⟨rfl, hx⟩
      replace hW := hW.trans hx
      go_wp2_with fail
      go_ret
      exact ⟨rfl, hW⟩
    · obtain ⟨g1, g2⟩ := dec_no (w := v) (by rw [H5.out]; exact hde)
      rw [H3.out] at g1
      rw [H4.out] at g2
      subst g1 g2
      have hde1 : (de == 0) = false := by simpa using hde
      clear hde
      have q0 := HQ0.out
      have q1 := HQ1.out
      go_wp2_with fail
      clear q0 q1
      generalize W7.alloc (.cells #[.int .i64 0, .int .i64 0] 39) = W8 at *
      refine (awake06_any _ (HT.out.ext hW)).mono ?_
      rintro e W10 ⟨rfl, hx⟩
      replace hW := hW.trans hx
      go_wp2_with fail
      go_ret
      exact ⟨rfl, hW⟩
theorem u64_bd {a : Int} (h : (Lit.int .u64 a).wf = true) : 0 ≤ a ∧ a < 18446744073709551616 := by
  have : 0 ≤ a ∧ a ≤ 18446744073709551615 := by simpa [Lit.wf, IntKind.min, IntKind.max, IntKind.signed, IntKind.bits] using h
  omega
abbrev IsPair (v : Value) : Prop := ∃ a s : Int, v = .agg #[.int .i64 (a), .int .i64 (s)] ∧ (-9223372036854775808 ≤ a ∧ a ≤ 9223372036854775807) ∧ (-9223372036854775808 ≤ s ∧ s ≤ 9223372036854775807)
theorem valueWords_fin {v0 : Value} {v : Int} {w : World} (h0 : IsPair v0) (h1 : (Lit.int .u64 v).wf = true) (ht : TabP w) :
    Calls Tryd.prog 5 #[v0, .int .u64 v] w fun e w' => e = .returned (.bool true) ∧ Ext w w' := by
  obtain ⟨k, x, rfl, _, _⟩ := h0
  exact valueWords_any k x v (u64_bd h1).1 (u64_bd h1).2 w ht
theorem valueTexts_fin {v0 : Value} {w : World} (h0 : IsPair v0) (ht : TabP w) :
    Calls Tryd.prog 6 #[v0] w fun e w' => e = .returned (.bool true) ∧ Ext w w' := by
  obtain ⟨k, x, rfl, _, hx⟩ := h0
  exact valueTexts_any k x hx.1 hx.2 w ht
theorem valueBack_fin {v0 v1 : Value} {v : Int} {w : World} (h0 : IsPair v0) (h1 : IsPair v1) (h2 : (Lit.int .u64 v).wf = true) (ht : TabP w) :
    Calls Tryd.prog 7 #[v0, v1, .int .u64 v] w fun e w' => e = .returned (.bool true) ∧ Ext w w' := by
  obtain ⟨k, x, rfl, _, _⟩ := h0
  obtain ⟨c, d, rfl, _, _⟩ := h1
  exact valueBack_any k x c d v (u64_bd h2).1 (u64_bd h2).2 w ht
end Go.Proofs.YtidfibheehcdgaaDoor
