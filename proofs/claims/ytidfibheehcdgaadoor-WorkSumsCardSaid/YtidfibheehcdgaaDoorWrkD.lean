/- awake of the laws of works; the law WorkSums. -/
import Derived.Test.YtidfibheehcdgaaDoorWrkC
import Derived.Test.YtidfibheehcdgaaDoorOpenI
set_option linter.unusedSimpArgs false
set_option linter.unusedVariables false
namespace Go.Proofs.YtidfibheehcdgaaDoor
open Go.RowKit

theorem plusZ_comm (a b : Int) : plusZ a b = plusZ b a := by unfold plusZ; rw [Int.add_comm]
theorem plusZ_zero {a : Int} (h : I64 a) : plusZ a 0 = a := by unfold plusZ; obtain ⟨h1, h2⟩ := h; rw [if_neg (by omega), if_neg (by omega)]; omega
theorem wadd_is (a b c d e a' b' c' d' e' p q r s t : Int) (ha : I64 a ∧ I64 b ∧ I64 c ∧ I64 d ∧ I64 e) (hb : I64 a' ∧ I64 b' ∧ I64 c' ∧ I64 d' ∧ I64 e')
    (h : plusZ a a' = p ∧ plusZ b b' = q ∧ plusZ c c' = r ∧ plusZ d d' = s ∧ plusZ e e' = t) (w : World) :
    Calls Tryd.prog 31 #[.agg #[.int .i64 a, .int .i64 b, .int .i64 c, .int .i64 d, .int .i64 e], .agg #[.int .i64 a', .int .i64 b', .int .i64 c', .int .i64 d', .int .i64 e']] w fun x w' =>
      x = .returned (.agg #[.int .i64 p, .int .i64 q, .int .i64 r, .int .i64 s, .int .i64 t]) ∧ Ext w w' := by
  obtain ⟨rfl, rfl, rfl, rfl, rfl⟩ := h
  exact wadd_any a b c d e a' b' c' d' e' ha hb w
theorem wwithin_is (a b c d e n1 n2 n3 n4 : Int) (z : Bool) (h : withB a c e [n1, n2, n3, n4] = z) (w : World) :
    Calls Tryd.prog 30 #[.agg #[.int .i64 a, .int .i64 b, .int .i64 c, .int .i64 d, .int .i64 e], .int .i64 n1, .int .i64 n2, .int .i64 n3, .int .i64 n4] w fun r w' => r = .returned (.bool z) ∧ Ext w w' := by
  subst h; exact wwithin_any a b c d e n1 n2 n3 n4 w
theorem exact_is (a b c d e o n f l : Int) (z : Bool) (h : (b == o && a == n && c == f && d == l) = z) (w : World) :
    Calls Tryd.prog 40 #[.agg #[.int .i64 a, .int .i64 b, .int .i64 c, .int .i64 d, .int .i64 e], .int .i64 o, .int .i64 n, .int .i64 f, .int .i64 l] w fun r w' => r = .returned (.bool z) ∧ Ext w w' := by
  subst h; exact exact_any a b c d e o n f l w
theorem itoa_dig (n : Nat) (h : n < 10) : Lib.itoa (n : Int) = [UInt8.ofNat (48 + n)] := by rw [Lib.itoa_nonneg, Lib.decDigits_one h]
def awTextL : List UInt8 := [119, 111, 114, 100, 115, 32, 51, 44, 32, 111, 98, 106, 101, 99, 116, 115, 32, 50, 44, 32, 102, 105, 101, 108, 100, 115, 32, 49, 44, 32, 109, 97, 114, 107, 101, 100, 32, 48, 44, 32, 115, 116, 101, 112, 115, 32, 52]
theorem aw21_text : Lib.join (pieceL 3 2 1 0 4) [44, 32] = awTextL := by
  have h3 := itoa_dig 3 (by omega)
  have h2 := itoa_dig 2 (by omega)
  have h1 := itoa_dig 1 (by omega)
  have h0 := itoa_dig 0 (by omega)
  have h4 := itoa_dig 4 (by omega)
  have e : pieceL 3 2 1 0 4 = [[119, 111, 114, 100, 115] ++ [32] ++ Lib.itoa ((3 : Nat) : Int), [111, 98, 106, 101, 99, 116, 115] ++ [32] ++ Lib.itoa ((2 : Nat) : Int), [102, 105, 101, 108, 100, 115] ++ [32] ++ Lib.itoa ((1 : Nat) : Int), [109, 97, 114, 107, 101, 100] ++ [32] ++ Lib.itoa ((0 : Nat) : Int), [115, 116, 101, 112, 115] ++ [32] ++ Lib.itoa ((4 : Nat) : Int)] := rfl
  rw [e, h3, h2, h1, h0, h4]
  rfl

set_option maxRecDepth 100000 in
set_option maxHeartbeats 4000000 in
theorem awake21_any (w : World) (ht : TabP w) : Calls Tryd.prog 29 #[] w fun e w' => e = .returned (.bool true) ∧ Ext w w' := by
  have HT := Lib.hid ht
  clear ht
  have hx0 : Ext w (w.alloc (.cells #[.int .i64 3, .int .i64 2, .int .i64 1, .int .i64 0, .int .i64 4] 51)) := (Ext.refl w).alloc _
  have k0 := boxed w #[.int .i64 3, .int .i64 2, .int .i64 1, .int .i64 0, .int .i64 4] 51 0 (.int .i64 3) rfl
  have k1 := boxed w #[.int .i64 3, .int .i64 2, .int .i64 1, .int .i64 0, .int .i64 4] 51 1 (.int .i64 2) rfl
  have k2 := boxed w #[.int .i64 3, .int .i64 2, .int .i64 1, .int .i64 0, .int .i64 4] 51 2 (.int .i64 1) rfl
  have k3 := boxed w #[.int .i64 3, .int .i64 2, .int .i64 1, .int .i64 0, .int .i64 4] 51 3 (.int .i64 0) rfl
  have k4 := boxed w #[.int .i64 3, .int .i64 2, .int .i64 1, .int .i64 0, .int .i64 4] 51 4 (.int .i64 4) rfl
  go_enter Tryd.func29, Tryd.ntmps29
  go_wp2_with fail
  generalize w.alloc (.cells #[.int .i64 3, .int .i64 2, .int .i64 1, .int .i64 0, .int .i64 4] 51) = W at *
  refine (wadd_is 3 2 1 0 4 3 2 1 0 4 6 4 2 0 8 (by decide) (by decide) (by decide) W).mono ?_
  rintro e W1 ⟨rfl, hx1⟩
  have q0 := boxed W1 #[.int .i64 6, .int .i64 4, .int .i64 2, .int .i64 0, .int .i64 8] 51 0 (.int .i64 6) rfl
  have q4 := boxed W1 #[.int .i64 6, .int .i64 4, .int .i64 2, .int .i64 0, .int .i64 8] 51 4 (.int .i64 8) rfl
  have hx2 := hx1.alloc (.cells #[.int .i64 6, .int .i64 4, .int .i64 2, .int .i64 0, .int .i64 8] 51)
  have c0 := k0 _ hx2
  have c1 := k1 _ hx2
  have c2 := k2 _ hx2
  have c3 := k3 _ hx2
  have c4 := k4 _ hx2
  go_wp2_with fail
  generalize W1.alloc (.cells #[.int .i64 6, .int .i64 4, .int .i64 2, .int .i64 0, .int .i64 8] 51) = W2 at *
  generalize W1.heap.size = H1 at *
  refine (wtext_any 3 2 1 0 4 (by decide) awTextL aw21_text (by decide) W2 (HT.out.ext (hx0.trans hx2))).mono ?_
  rintro e W3 ⟨rfl, hx3⟩
  clear c0 c1 c2 c3 c4 hx1
  replace k0 := fun w' (h : Ext W3 w') => k0 w' ((hx2.trans hx3).trans h)
  replace k1 := fun w' (h : Ext W3 w') => k1 w' ((hx2.trans hx3).trans h)
  replace k2 := fun w' (h : Ext W3 w') => k2 w' ((hx2.trans hx3).trans h)
  replace k3 := fun w' (h : Ext W3 w') => k3 w' ((hx2.trans hx3).trans h)
  replace k4 := fun w' (h : Ext W3 w') => k4 w' ((hx2.trans hx3).trans h)
  have r0 := q0 W3 hx3
  have r4 := q4 W3 hx3
  have HX := Lib.hid ((hx0.trans hx2).trans hx3)
  clear q0 q4 hx2 hx3 hx0
  have c0 := k0 W3 (Ext.refl _)
  have c1 := k1 W3 (Ext.refl _)
  have c2 := k2 W3 (Ext.refl _)
  have c3 := k3 W3 (Ext.refl _)
  have c4 := k4 W3 (Ext.refl _)
  unfold awTextL
  go_wp2_with fail
  clear r0 r4
  refine (exact_is 3 2 1 0 4 2 3 1 0 true (by decide) _).mono ?_
  rintro e W4 ⟨rfl, hx⟩
  clear c0 c1 c2 c3 c4
  replace k0 := fun w' (h : Ext W4 w') => k0 w' (hx.trans h)
  replace k1 := fun w' (h : Ext W4 w') => k1 w' (hx.trans h)
  replace k2 := fun w' (h : Ext W4 w') => k2 w' (hx.trans h)
  replace k3 := fun w' (h : Ext W4 w') => k3 w' (hx.trans h)
  replace k4 := fun w' (h : Ext W4 w') => k4 w' (hx.trans h)
  replace HX := Lib.hid (HX.out.trans hx)
  have c0 := k0 W4 (Ext.refl _)
  have c1 := k1 W4 (Ext.refl _)
  have c2 := k2 W4 (Ext.refl _)
  have c3 := k3 W4 (Ext.refl _)
  have c4 := k4 W4 (Ext.refl _)
  clear hx
  go_wp2_with fail
  refine (exact_is 3 2 1 0 4 2 3 1 1 false (by decide) _).mono ?_
  rintro e W4 ⟨rfl, hx⟩
  clear c0 c1 c2 c3 c4
  replace k0 := fun w' (h : Ext W4 w') => k0 w' (hx.trans h)
  replace k1 := fun w' (h : Ext W4 w') => k1 w' (hx.trans h)
  replace k2 := fun w' (h : Ext W4 w') => k2 w' (hx.trans h)
  replace k3 := fun w' (h : Ext W4 w') => k3 w' (hx.trans h)
  replace k4 := fun w' (h : Ext W4 w') => k4 w' (hx.trans h)
  replace HX := Lib.hid (HX.out.trans hx)
  have c0 := k0 W4 (Ext.refl _)
  have c1 := k1 W4 (Ext.refl _)
  have c2 := k2 W4 (Ext.refl _)
  have c3 := k3 W4 (Ext.refl _)
  have c4 := k4 W4 (Ext.refl _)
  clear hx
  go_wp2_with fail
  refine (wwithin_is 3 2 1 0 4 3 1 0 0 true (by decide) _).mono ?_
  rintro e W4 ⟨rfl, hx⟩
  clear c0 c1 c2 c3 c4
  replace k0 := fun w' (h : Ext W4 w') => k0 w' (hx.trans h)
  replace k1 := fun w' (h : Ext W4 w') => k1 w' (hx.trans h)
  replace k2 := fun w' (h : Ext W4 w') => k2 w' (hx.trans h)
  replace k3 := fun w' (h : Ext W4 w') => k3 w' (hx.trans h)
  replace k4 := fun w' (h : Ext W4 w') => k4 w' (hx.trans h)
  replace HX := Lib.hid (HX.out.trans hx)
  have c0 := k0 W4 (Ext.refl _)
  have c1 := k1 W4 (Ext.refl _)
  have c2 := k2 W4 (Ext.refl _)
  have c3 := k3 W4 (Ext.refl _)
  have c4 := k4 W4 (Ext.refl _)
  clear hx
  go_wp2_with fail
  refine (wwithin_is 3 2 1 0 4 2 1 0 0 false (by decide) _).mono ?_
  rintro e W4 ⟨rfl, hx⟩
  clear c0 c1 c2 c3 c4
  replace k0 := fun w' (h : Ext W4 w') => k0 w' (hx.trans h)
  replace k1 := fun w' (h : Ext W4 w') => k1 w' (hx.trans h)
  replace k2 := fun w' (h : Ext W4 w') => k2 w' (hx.trans h)
  replace k3 := fun w' (h : Ext W4 w') => k3 w' (hx.trans h)
  replace k4 := fun w' (h : Ext W4 w') => k4 w' (hx.trans h)
  replace HX := Lib.hid (HX.out.trans hx)
  have c0 := k0 W4 (Ext.refl _)
  have c1 := k1 W4 (Ext.refl _)
  have c2 := k2 W4 (Ext.refl _)
  have c3 := k3 W4 (Ext.refl _)
  have c4 := k4 W4 (Ext.refl _)
  clear hx
  go_wp2_with fail
  refine (wwithin_is 0 0 0 0 9 0 0 0 0 false (by decide) _).mono ?_
  rintro e W4 ⟨rfl, hx⟩
  clear c0 c1 c2 c3 c4
  replace k0 := fun w' (h : Ext W4 w') => k0 w' (hx.trans h)
  replace k1 := fun w' (h : Ext W4 w') => k1 w' (hx.trans h)
  replace k2 := fun w' (h : Ext W4 w') => k2 w' (hx.trans h)
  replace k3 := fun w' (h : Ext W4 w') => k3 w' (hx.trans h)
  replace k4 := fun w' (h : Ext W4 w') => k4 w' (hx.trans h)
  replace HX := Lib.hid (HX.out.trans hx)
  have c0 := k0 W4 (Ext.refl _)
  have c1 := k1 W4 (Ext.refl _)
  have c2 := k2 W4 (Ext.refl _)
  have c3 := k3 W4 (Ext.refl _)
  have c4 := k4 W4 (Ext.refl _)
  clear hx
  go_wp2_with fail
  refine (wwithin_is 0 0 0 0 8 0 0 0 0 true (by decide) _).mono ?_
  rintro e W4 ⟨rfl, hx⟩
  clear c0 c1 c2 c3 c4
  replace k0 := fun w' (h : Ext W4 w') => k0 w' (hx.trans h)
  replace k1 := fun w' (h : Ext W4 w') => k1 w' (hx.trans h)
  replace k2 := fun w' (h : Ext W4 w') => k2 w' (hx.trans h)
  replace k3 := fun w' (h : Ext W4 w') => k3 w' (hx.trans h)
  replace k4 := fun w' (h : Ext W4 w') => k4 w' (hx.trans h)
  replace HX := Lib.hid (HX.out.trans hx)
  have c0 := k0 W4 (Ext.refl _)
  have c1 := k1 W4 (Ext.refl _)
  have c2 := k2 W4 (Ext.refl _)
  have c3 := k3 W4 (Ext.refl _)
  have c4 := k4 W4 (Ext.refl _)
  clear hx
  go_wp2_with fail
  go_ret
  exact ⟨rfl, HX.out⟩

theorem within_more {a c e n1 n2 n3 n4 m : Int} (h : withB a c e [n1, n2, n3, n4] = true) (hm : 0 ≤ m ∧ m ≤ 1073741824) (h1 : n1 ≤ 1073741824) (h2 : n2 ≤ 1073741824) (h3 : n3 ≤ 1073741824) (h4 : n4 ≤ 1073741824) :
    (0 ≤ n1 ∧ 0 ≤ n2 ∧ 0 ≤ n3 ∧ 0 ≤ n4) ∧ withB a c e [n1 + m, n2, n3, n4] = true ∧ withB a c e [n1, n2, n3 + m, n4 + m] = true := by
  simp [withB, inR] at h ⊢
  omega

set_option maxRecDepth 100000 in
set_option maxHeartbeats 8000000 in
theorem workSums_any (a b c d e a' b' c' d' e' n1 n2 n3 n4 m : Int) (ha : I64 a ∧ I64 b ∧ I64 c ∧ I64 d ∧ I64 e) (hb : I64 a' ∧ I64 b' ∧ I64 c' ∧ I64 d' ∧ I64 e') (w : World) (ht : TabP w) :
    Calls Tryd.prog 8 #[.agg #[.int .i64 a, .int .i64 b, .int .i64 c, .int .i64 d, .int .i64 e], .agg #[.int .i64 a', .int .i64 b', .int .i64 c', .int .i64 d', .int .i64 e'], .int .i64 n1, .int .i64 n2, .int .i64 n3, .int .i64 n4, .int .i64 m] w fun r w' => r = .returned (.bool true) ∧ Ext w w' := by
  have HT := Lib.hid ht
  have HA := Lib.hid ha
  have HB := Lib.hid hb
  clear ht ha hb
  obtain ⟨g0, g1, gs⟩ := heap_alloc2 w (.cells (wc a b c d e) 51) (.cells (wc a' b' c' d' e') 51)
  have hW : Ext w ((w.alloc (.cells (wc a b c d e) 51)).alloc (.cells (wc a' b' c' d' e') 51)) := ((Ext.refl w).alloc _).alloc _
  have HG0 := Lib.hid g0
  have HG1 := Lib.hid g1
  clear g0 g1 gs
  by_cases hout : m < 0 ∨ 1073741824 < m ∨ 1073741824 < n1 ∨ 1073741824 < n2 ∨ 1073741824 < n3 ∨ 1073741824 < n4
  · have h0 : (decide (m < 0) = true) ∨ (decide (m < 0) = false ∧ decide (1073741824 < m) = true) ∨ (decide (m < 0) = false ∧ decide (1073741824 < m) = false ∧ decide (1073741824 < n1) = true) ∨
        (decide (m < 0) = false ∧ decide (1073741824 < m) = false ∧ decide (1073741824 < n1) = false ∧ decide (1073741824 < n2) = true) ∨
        (decide (m < 0) = false ∧ decide (1073741824 < m) = false ∧ decide (1073741824 < n1) = false ∧ decide (1073741824 < n2) = false ∧ decide (1073741824 < n3) = true) ∨
        (decide (m < 0) = false ∧ decide (1073741824 < m) = false ∧ decide (1073741824 < n1) = false ∧ decide (1073741824 < n2) = false ∧ decide (1073741824 < n3) = false ∧ decide (1073741824 < n4) = true) := by
      simp only [decide_eq_true_eq, decide_eq_false_iff_not]
      omega
    clear hout
    rcases h0 with h1 | ⟨h1, h2⟩ | ⟨h1, h2, h3⟩ | ⟨h1, h2, h3, h4⟩ | ⟨h1, h2, h3, h4, h5⟩ | ⟨h1, h2, h3, h4, h5, h6⟩
    all_goals
      go_enter Tryd.func8, Tryd.ntmps8
      go_wp2_with fail
      refine (awake21_any _ (HT.out.ext hW)).mono ?_
      rintro e w1 ⟨rfl, hx⟩
      go_wp2_with fail
      go_ret
      exact ⟨rfl, hW.trans hx⟩
  · have h1 : decide (m < 0) = false := by simp; omega
    have h2 : decide (1073741824 < m) = false := by simp; omega
    have h3 : decide (1073741824 < n1) = false := by simp; omega
    have h4 : decide (1073741824 < n2) = false := by simp; omega
    have h5 : decide (1073741824 < n3) = false := by simp; omega
    have h6 : decide (1073741824 < n4) = false := by simp; omega
    obtain ⟨x, hx⟩ : ∃ x, withB a c e [n1, n2, n3, n4] = x := ⟨_, rfl⟩
    obtain ⟨p, hp⟩ : ∃ z, plusZ a a' = z := ⟨_, rfl⟩
    obtain ⟨q, hq⟩ : ∃ z, plusZ b b' = z := ⟨_, rfl⟩
    obtain ⟨r, hr⟩ : ∃ z, plusZ c c' = z := ⟨_, rfl⟩
    obtain ⟨s, hs⟩ : ∃ z, plusZ d d' = z := ⟨_, rfl⟩
    obtain ⟨t, hu⟩ : ∃ z, plusZ e e' = z := ⟨_, rfl⟩
    have HS1 := Lib.hid (show plusZ a a' = p ∧ plusZ b b' = q ∧ plusZ c c' = r ∧ plusZ d d' = s ∧ plusZ e e' = t from ⟨hp, hq, hr, hs, hu⟩)
    have HS2 := Lib.hid (show plusZ a' a = p ∧ plusZ b' b = q ∧ plusZ c' c = r ∧ plusZ d' d = s ∧ plusZ e' e = t from ⟨(plusZ_comm _ _).trans hp, (plusZ_comm _ _).trans hq, (plusZ_comm _ _).trans hr, (plusZ_comm _ _).trans hs, (plusZ_comm _ _).trans hu⟩)
    have HS3 := Lib.hid (show plusZ a 0 = a ∧ plusZ b 0 = b ∧ plusZ c 0 = c ∧ plusZ d 0 = d ∧ plusZ e 0 = e from ⟨plusZ_zero HA.out.1, plusZ_zero HA.out.2.1, plusZ_zero HA.out.2.2.1, plusZ_zero HA.out.2.2.2.1, plusZ_zero HA.out.2.2.2.2⟩)
    have HXX := Lib.hid hx
    clear hp hq hr hs hu hx
    have hmore := fun h : x = true => within_more (h ▸ HXX.out) (m := m) ⟨by omega, by omega⟩ (by omega) (by omega) (by omega) (by omega)
    have HM := Lib.hid hmore
    clear hmore
    have hwr : x = true → IntKind.i64.wrap (n1 + m) = n1 + m ∧ IntKind.i64.wrap (n3 + m) = n3 + m ∧ IntKind.i64.wrap (n4 + m) = n4 + m := fun h => by
      have := (HM.out h).1
      exact ⟨IntWalk.i64_in _ (by omega), IntWalk.i64_in _ (by omega), IntWalk.i64_in _ (by omega)⟩
    have HWR := Lib.hid hwr
    clear hwr hout
    go_enter Tryd.func8, Tryd.ntmps8
    have z0 := cell_of (i := 0) HG0.out rfl
    have z1 := cell_of (i := 1) HG0.out rfl
    have z2 := cell_of (i := 2) HG0.out rfl
    have z3 := cell_of (i := 3) HG0.out rfl
    have z4 := cell_of (i := 4) HG0.out rfl
    have y0 := cell_of (i := 0) HG1.out rfl
    have y1 := cell_of (i := 1) HG1.out rfl
    have y2 := cell_of (i := 2) HG1.out rfl
    have y3 := cell_of (i := 3) HG1.out rfl
    have y4 := cell_of (i := 4) HG1.out rfl
    go_wp2_with fail
    generalize (w.alloc (.cells (wc a b c d e) 51)).alloc (.cells (wc a' b' c' d' e') 51) = W at *
    refine (wwithin_is a b c d e n1 n2 n3 n4 x HXX.out W).mono ?_
    rintro e1 W1 ⟨rfl, hx⟩
    have l0 := fun u : ExtOf W1 => (hx.trans u.2).cell z0
    have l1 := fun u : ExtOf W1 => (hx.trans u.2).cell z1
    have l2 := fun u : ExtOf W1 => (hx.trans u.2).cell z2
    have l3 := fun u : ExtOf W1 => (hx.trans u.2).cell z3
    have l4 := fun u : ExtOf W1 => (hx.trans u.2).cell z4
    have j0 := fun u : ExtOf W1 => (hx.trans u.2).cell y0
    have j1 := fun u : ExtOf W1 => (hx.trans u.2).cell y1
    have j2 := fun u : ExtOf W1 => (hx.trans u.2).cell y2
    have j3 := fun u : ExtOf W1 => (hx.trans u.2).cell y3
    have j4 := fun u : ExtOf W1 => (hx.trans u.2).cell y4
    have hs0 : Ext W1 W1 := Ext.refl W1
    have HTU : Hid (∀ u : ExtOf W1, TabP u.1) := Lib.hid fun u => HT.out.ext (hW.trans (hx.trans u.2))
    have HX := Lib.hid (hW.trans hx)
    have HZ0 := Lib.hid (show I64 0 ∧ I64 0 ∧ I64 0 ∧ I64 0 ∧ I64 0 by decide)
    clear z0 z1 z2 z3 z4 y0 y1 y2 y3 y4 hx hW
    cases x
    · go_wp2_with fail
      (refine wp_region_ext (W := W1) (by kernel_rfl) (by kernel_rfl) (by with_reducible assumption) ?_; (repeat (go_big_quiet_step (first | (go_at_call 31; with_reducible exact Calls.ext_of (wadd_is a b c d e a' b' c' d' e' p q r s t HA.out HB.out HS1.out _)) | (go_at_call 31; with_reducible exact Calls.ext_of (wadd_is a' b' c' d' e' a b c d e p q r s t HB.out HA.out HS2.out _)) | (go_at_call 31; with_reducible exact Calls.ext_of (wadd_is a b c d e 0 0 0 0 0 a b c d e HA.out HZ0.out HS3.out _)) | (go_at_call 29; with_reducible exact Calls.ext_of (awake21_any _ (HTU.out _)))))); refine wpQuiet_nil ?_; intro w1 hx)
      go_wp2_with fail
      go_ret
      exact ⟨rfl, HX.out.trans (by assumption)⟩
    · obtain ⟨w1, w2, w3⟩ := HWR.out rfl
      have HM1 := Lib.hid (HM.out rfl).2.1
      have HM2 := Lib.hid (HM.out rfl).2.2
      go_wp2_with fail
      (refine wp_region_ext (W := W1) (by kernel_rfl) (by kernel_rfl) (by with_reducible assumption) ?_; (repeat (go_big_quiet_step (first | (go_at_call 31; with_reducible exact Calls.ext_of (wadd_is a b c d e a' b' c' d' e' p q r s t HA.out HB.out HS1.out _)) | (go_at_call 31; with_reducible exact Calls.ext_of (wadd_is a' b' c' d' e' a b c d e p q r s t HB.out HA.out HS2.out _)) | (go_at_call 31; with_reducible exact Calls.ext_of (wadd_is a b c d e 0 0 0 0 0 a b c d e HA.out HZ0.out HS3.out _)) | (go_at_call 30; with_reducible exact Calls.ext_of (wwithin_is a b c d e (n1 + m) n2 n3 n4 true HM1.out _)) | (go_at_call 30; with_reducible exact Calls.ext_of (wwithin_is a b c d e n1 n2 (n3 + m) (n4 + m) true HM2.out _)) | (go_at_call 29; with_reducible exact Calls.ext_of (awake21_any _ (HTU.out _)))))); refine wpQuiet_nil ?_; intro w1 hx)
      go_wp2_with fail
      go_ret
      exact ⟨rfl, HX.out.trans (by assumption)⟩
abbrev IsWork (v : Value) : Prop := ∃ a b c d e : Int, v = .agg #[.int .i64 a, .int .i64 b, .int .i64 c, .int .i64 d, .int .i64 e] ∧ (-9223372036854775808 ≤ a ∧ a ≤ 9223372036854775807) ∧ (-9223372036854775808 ≤ b ∧ b ≤ 9223372036854775807) ∧ (-9223372036854775808 ≤ c ∧ c ≤ 9223372036854775807) ∧ (-9223372036854775808 ≤ d ∧ d ≤ 9223372036854775807) ∧ (-9223372036854775808 ≤ e ∧ e ≤ 9223372036854775807)
theorem workSums_fin {v0 v1 : Value} {n1 n2 n3 n4 m : Int} {w : World} (h0 : IsWork v0) (h1 : IsWork v1) (_ : (Lit.int .i64 n1).wf = true) (_ : (Lit.int .i64 n2).wf = true) (_ : (Lit.int .i64 n3).wf = true) (_ : (Lit.int .i64 n4).wf = true) (_ : (Lit.int .i64 m).wf = true) (ht : TabP w) :
    Calls Tryd.prog 8 #[v0, v1, .int .i64 n1, .int .i64 n2, .int .i64 n3, .int .i64 n4, .int .i64 m] w fun r w' => r = .returned (.bool true) ∧ Ext w w' := by
  obtain ⟨a, b, c, d, e, rfl, p1, p2, p3, p4, p5⟩ := h0
  obtain ⟨a', b', c', d', e', rfl, q1, q2, q3, q4, q5⟩ := h1
  exact workSums_any a b c d e a' b' c' d' e' n1 n2 n3 n4 m ⟨p1, p2, p3, p4, p5⟩ ⟨q1, q2, q3, q4, q5⟩ w ht
end Go.Proofs.YtidfibheehcdgaaDoor
