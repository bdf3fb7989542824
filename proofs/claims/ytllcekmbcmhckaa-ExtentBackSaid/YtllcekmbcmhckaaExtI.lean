/- The walk of the law ExtentBack. -/
import Derived.Test.YtllcekmbcmhckaaExtH
import Derived.Test.YtllcekmbcmhckaaLaw03D
set_option linter.unusedSimpArgs false
set_option linter.unusedVariables false
namespace Go.Proofs.Ytllcekmbcmhckaa
open Go.RowKit Go.Shelf

set_option maxRecDepth 100000 in
set_option maxHeartbeats 8000000 in
theorem extentBack_any (a s : Int) (A : Option Addr) (cap : Nat) (xs : List (Int × Int)) (n q : Int) (w : World) (hlen : xs.length ≤ 9223372036854775807) (hl : SpansAt w A xs) :
    Calls Try.prog 9 #[.agg #[.int .i64 (a), .int .i64 (s)], .slice A xs.length cap, .int .i64 n, .int .i64 q] w fun e w' => e = .returned (.bool true) ∧ Ext w w' := by
  have hW : Ext w (w.alloc (.cells #[.int .i64 a, .int .i64 s] 23)) := (Ext.refl w).alloc _
  have HL := Lib.hid (hl.ext hW)
  have b0 := boxed w #[.int .i64 a, .int .i64 s] 23 0 (.int .i64 a) rfl
  have b1 := boxed w #[.int .i64 a, .int .i64 s] 23 1 (.int .i64 s) rfl
  clear hl
  by_cases hbig : 100 < xs.length
  · have h1 : decide ((100 : Int) < (xs.length : Int)) = true := by simp; omega
    go_enter Try.func9, Try.ntmps9
    go_wp2_with fail
    refine (awake10_any _).mono ?_
    rintro e w1 ⟨rfl, hx⟩
    go_wp2_with fail
    go_ret
    exact ⟨rfl, hW.trans hx⟩
  have h1 : decide ((100 : Int) < (xs.length : Int)) = false := by simp; omega
  have hlen' : xs.length ≤ 100 := by omega
  obtain ⟨r, hr⟩ : ∃ r, rightB a s xs = r := ⟨_, rfl⟩
  have HR := Lib.hid hr
  clear hr hlen hbig
  have hs0 : Ext (w.alloc (.cells #[.int .i64 a, .int .i64 s] 23)) (w.alloc (.cells #[.int .i64 a, .int .i64 s] 23)) := Ext.refl _
  go_enter Try.func9, Try.ntmps9
  go_wp2_with fail
  generalize w.alloc (.cells #[.int .i64 a, .int .i64 s] 23) = W at *
  refine (right_c a s A cap xs _ _ _ rfl HR.out (by omega) HL.out).mono ?_
  rintro e W1 ⟨rfl, hx⟩
  clear hs0
  cases r
  · go_wp2_with fail
    refine (awake10_any _).mono ?_
    rintro e w1 ⟨rfl, hx1⟩
    go_wp2_with fail
    go_ret
    exact ⟨rfl, hW.trans (hx.trans hx1)⟩
  go_wp2_with fail
  refine (take_any A cap xs n W1 (by omega) (HL.out.ext hx)).mono ?_
  rintro e W2 ⟨ys, p, er, m, A2, cap2, hres, rfl, rfl, hy, hx2⟩
  have HX2 := Lib.hid (hW.trans (hx.trans hx2))
  have HL2 := Lib.hid (HL.out.ext (hx.trans hx2))
  have HY := Lib.hid hy
  have HRES := Lib.hid hres
  replace b0 := fun w' (h : Ext W2 w') => b0 w' ((hx.trans hx2).trans h)
  replace b1 := fun w' (h : Ext W2 w') => b1 w' ((hx.trans hx2).trans h)
  clear hx hx2 hW HL hy hres
  by_cases hno : n < 1 ∨ largestL xs < n
  · obtain ⟨rfl, her⟩ := take_not HRES.out hno
    have hb : (er != 0) = true := by simpa using her
    have HNO := Lib.hid hno
    clear her hno
    by_cases hn1 : n < 1
    · go_wp2_with fail
      refine (refsame_is A2 A cap2 cap ys ys _ _ true W2 rfl rfl (by simp) (by omega) (by omega) HY.out HL2.out).mono ?_
      rintro e W3 ⟨rfl, hx3⟩
      go_wp2_with fail
      refine (awake10_any _).mono ?_
      rintro e w1 ⟨rfl, hx4⟩
      go_wp2_with fail
      go_ret
      exact ⟨rfl, HX2.out.trans (hx3.trans hx4)⟩
    · have hgt : largestL ys < n := by have := HNO.out; omega
      go_wp2_with fail
      refine (largest_c A cap ys _ _ W2 rfl rfl (by omega) HL2.out).mono ?_
      rintro e W3 ⟨rfl, hx3⟩
      have HX3 := Lib.hid (HX2.out.trans hx3)
      have HL3 := Lib.hid (HL2.out.ext hx3)
      have HY3 := Lib.hid (HY.out.ext hx3)
      clear hx3
      generalize largestL ys = g at *
      go_wp2_with fail
      refine (refsame_is A2 A cap2 cap ys ys _ _ true W3 rfl rfl (by simp) (by omega) (by omega) HY3.out HL3.out).mono ?_
      rintro e W4 ⟨rfl, hx4⟩
      go_wp2_with fail
      refine (awake10_any _).mono ?_
      rintro e w1 ⟨rfl, hx5⟩
      go_wp2_with fail
      go_ret
      exact ⟨rfl, HX3.out.trans (hx4.trans hx5)⟩
  have hn1 : 1 ≤ n := by omega
  have hn2 : n ≤ largestL xs := by omega
  obtain ⟨a0, s0, pre, post, ht⟩ := take_yes HRES.out hn1 hn2
  obtain rfl := ht.hp
  obtain rfl := ht.he
  have HT := Lib.hid ht
  have hml : ys.length ≤ 100 := by have h1 := ht.len; omega
  clear hno HRES ht
  go_wp2_with fail
  refine (largest_c A cap xs _ _ W2 rfl rfl (by omega) HL2.out).mono ?_
  rintro e W3 ⟨rfl, hx3⟩
  generalize largestL xs = g at *
  have HX4 := Lib.hid (HX2.out.trans (hx3.alloc (.cells #[.int .i64 p, .int .i64 n] 23)))
  have HL4 := Lib.hid (HL2.out.ext (hx3.alloc (.cells #[.int .i64 p, .int .i64 n] 23)))
  have HY4 := Lib.hid (HY.out.ext (hx3.alloc (.cells #[.int .i64 p, .int .i64 n] 23)))
  have d0 := boxed W3 #[.int .i64 p, .int .i64 n] 23 0 (.int .i64 p) rfl
  have d1 := boxed W3 #[.int .i64 p, .int .i64 n] 23 1 (.int .i64 n) rfl
  replace b0 := fun w' (h : Ext (W3.alloc (.cells #[.int .i64 p, .int .i64 n] 23)) w') => b0 w' ((hx3.alloc _).trans h)
  replace b1 := fun w' (h : Ext (W3.alloc (.cells #[.int .i64 p, .int .i64 n] 23)) w') => b1 w' ((hx3.alloc _).trans h)
  clear HX2 HL2 HY hx3
  go_wp2_with fail
  generalize W3.alloc (.cells #[.int .i64 p, .int .i64 n] 23) = W4 at *
  go_loopw [13, 15] (fun c i wr => ∃ (k : Nat) (b : Bool), k ≤ xs.length ∧ i = .int .i64 k ∧ c = .bool b ∧ Ext W4 wr ∧ Hid (b = coveredB (xs.take k) q)) (fun _ i _ => xs.length - (intOf i).toNat)
  case atStart => exact ⟨0, false, by omega, rfl, rfl, Ext.refl _, Lib.hid rfl⟩
  case round =>
  obtain ⟨k, b, hk, rfl, rfl, hxr, hq⟩ := hrel
  by_cases hlt : k < xs.length
  · obtain ⟨lb, off, rfl, hc⟩ := HL4.out.get (by omega)
    obtain ⟨e1, e2⟩ := spans_cell hc hlt
    have c1 := hxr.cell e1
    have c2 := hxr.cell e2
    have HC := Lib.hid (covered_snoc_k (p := q) hlt)
    rw [← hq.out] at HC
    clear e1 e2 hc hq HL4 HY4
    generalize xs.getD k (0, 0) = x at *
    obtain ⟨x1, x2⟩ := x
    simp only at c1 c2
    have ib1 : (k : Int) < (xs.length : Int) := by omega
    cases b
    · go_wp2_with fail
      cases hb : hasB x1 x2 q
      all_goals
        refine (has_is x1 x2 q _ hb _).mono ?_
        rintro e w1 ⟨rfl, hx1⟩
        replace hxr := hxr.trans hx1
        go_wp2_with fail
        go_roundw
        case rel => exact ⟨k + 1, _, by omega, by go_num, rfl, hxr, Lib.hid (by rw [HC.out]; simp only [hb]; rfl)⟩
        case measure => simp [intOf]; omega
    · go_wp2_with fail
      go_roundw
      case rel => exact ⟨k + 1, true, by omega, by go_num, rfl, hxr, Lib.hid (by rw [HC.out, Bool.true_or])⟩
      case measure => simp [intOf]; omega
  obtain ⟨bw, hbw⟩ : ∃ bw, coveredB xs q = bw := ⟨_, rfl⟩
  obtain rfl : b = bw := by have := hq.out; rwa [List.take_of_length_le (by omega), hbw] at this
  have HBW := Lib.hid hbw
  clear hq hbw hk
  go_wp2_with fail
  go_loopw [14, 16] (fun c i wr2 => ∃ (j : Nat) (b2 : Bool), j ≤ ys.length ∧ i = .int .i64 j ∧ c = .bool b2 ∧ Ext W4 wr2 ∧ Hid (b2 = coveredB (ys.take j) q)) (fun _ i _ => ys.length - (intOf i).toNat)
  case atStart => exact ⟨0, false, by omega, rfl, rfl, hxr, Lib.hid rfl⟩
  case round =>
  obtain ⟨j, b2, hj, rfl, rfl, hxr2, hq⟩ := hrel
  by_cases hlt : j < ys.length
  · obtain ⟨lb, off, rfl, hc⟩ := HY4.out.get (by omega)
    obtain ⟨e1, e2⟩ := spans_cell hc hlt
    have c1 := hxr2.cell e1
    have c2 := hxr2.cell e2
    have HC := Lib.hid (covered_snoc_k (p := q) hlt)
    rw [← hq.out] at HC
    clear e1 e2 hc hq HL4 HY4
    generalize ys.getD j (0, 0) = x at *
    obtain ⟨x1, x2⟩ := x
    simp only at c1 c2
    have ib1 : (j : Int) < (ys.length : Int) := by omega
    cases b2
    · go_wp2_with fail
      cases hb : hasB x1 x2 q
      all_goals
        refine (has_is x1 x2 q _ hb _).mono ?_
        rintro e w1 ⟨rfl, hx1⟩
        replace hxr2 := hxr2.trans hx1
        go_wp2_with fail
        go_roundw
        case rel => exact ⟨j + 1, _, by omega, by go_num, rfl, hxr2, Lib.hid (by rw [HC.out]; simp only [hb]; rfl)⟩
        case measure => simp [intOf]; omega
    · go_wp2_with fail
      go_roundw
      case rel => exact ⟨j + 1, true, by omega, by go_num, rfl, hxr2, Lib.hid (by rw [HC.out, Bool.true_or])⟩
      case measure => simp [intOf]; omega
  obtain ⟨bh, hbh⟩ : ∃ bh, hasB p n q = bh := ⟨_, rfl⟩
  have hb2 : b2 = (b && !bh) := by have := hq.out; rwa [List.take_of_length_le (by omega), HT.out.covered HR.out, HBW.out, hbh] at this
  have HBH := Lib.hid hbh
  have HX5 := Lib.hid (HX4.out.trans hxr2)
  have HL5 := Lib.hid (HL4.out.ext hxr2)
  have HY5 := Lib.hid (HY4.out.ext hxr2)
  replace b0 := fun w' (h : Ext wr w') => b0 w' (hxr2.trans h)
  replace b1 := fun w' (h : Ext wr w') => b1 w' (hxr2.trans h)
  replace d0 := fun w' (h : Ext wr w') => d0 w' (hxr2.trans h)
  replace d1 := fun w' (h : Ext wr w') => d1 w' (hxr2.trans h)
  have hs0 : Ext wr wr := Ext.refl _
  clear hq hbh hxr hxr2 hj HX4 HL4 HY4 HBW
  subst hb2
  go_wp2_with fail
  refine (give_c A2 cap2 ys xs p n 0 _ _ wr rfl (HT.out.give HR.out) rfl (by omega) HY5.out).mono ?_
  rintro e W6 ⟨A6, cap6, rfl, h6, hx6⟩
  have H6 := Lib.hid h6
  clear hs0 h6
  cases b
  · go_wp2_with fail
    refine (right_c a s A2 cap2 ys _ true _ rfl (HT.out.right HR.out) (by omega) (HY5.out.ext hx6)).mono ?_
    rintro e W7 ⟨rfl, hx7⟩
    have H7 := Lib.hid (H6.out.ext hx7)
    replace hx7 := hx6.trans hx7
    clear hx6
    go_wp2_with fail
    refine (refsame_is A6 A cap6 cap xs xs _ _ true _ rfl rfl (by simp) (by omega) (by omega) H7.out (HL5.out.ext hx7)).mono ?_
    rintro e W9 ⟨rfl, hx9⟩
    replace hx7 := hx7.trans hx9
    clear hx9
    go_wp2_with fail
    refine (awake10_any _).mono ?_
    rintro e w1 ⟨rfl, hx5⟩
    go_wp2_with fail
    go_ret
    exact ⟨rfl, HX5.out.trans (hx7.trans hx5)⟩
  · cases bh
    all_goals
      go_wp2_with fail
      refine (right_c a s A2 cap2 ys _ true _ rfl (HT.out.right HR.out) (by omega) (HY5.out.ext hx6)).mono ?_
      rintro e W7 ⟨rfl, hx7⟩
      have H7 := Lib.hid (H6.out.ext hx7)
      replace hx7 := hx6.trans hx7
      clear hx6
      go_wp2_with fail
      refine (has_is p n q _ HBH.out _).mono ?_
      rintro e W8 ⟨rfl, hx8⟩
      replace H7 := Lib.hid (H7.out.ext hx8)
      replace hx7 := hx7.trans hx8
      clear hx8
      go_wp2_with fail
      refine (refsame_is A6 A cap6 cap xs xs _ _ true _ rfl rfl (by simp) (by omega) (by omega) H7.out (HL5.out.ext hx7)).mono ?_
      rintro e W9 ⟨rfl, hx9⟩
      replace hx7 := hx7.trans hx9
      clear hx9
      go_wp2_with fail
      refine (awake10_any _).mono ?_
      rintro e w1 ⟨rfl, hx5⟩
      go_wp2_with fail
      go_ret
      exact ⟨rfl, HX5.out.trans (hx7.trans hx5)⟩

theorem extentBack_fin {v0 v1 : Value} {n q : Int} {w : World} (h0 : IsSpan v0) (h1 : IsSpans w v1) (h2 : (Lit.int .i64 n).wf = true) (h3 : (Lit.int .i64 q).wf = true) :
    Calls Try.prog 9 #[v0, v1, .int .i64 n, .int .i64 q] w fun e w' => e = .returned (.bool true) ∧ Ext w w' := by
  obtain ⟨a, s, rfl, _, _⟩ := h0
  obtain ⟨A, cap, xs, rfl, h1, h2, h3, h4⟩ := h1
  exact extentBack_any a s A cap xs n q w h1 h4
end Go.Proofs.Ytllcekmbcmhckaa
