/- The walk of the law SpanParts. -/
import Derived.Test.YtllcekmbcmhckaaLaw03D
set_option linter.unusedSimpArgs false
set_option linter.unusedVariables false
namespace Go.Proofs.Ytllcekmbcmhckaa
open Go.RowKit

set_option maxRecDepth 100000 in
set_option maxHeartbeats 8000000 in
theorem spanParts_any (a s : Int) (A : Option Addr) (cap : Nat) (xs : List (Int × Int)) (p : Int) (w : World) (hlen : xs.length ≤ 9223372036854775807) (hl : SpansAt w A xs) :
    Calls Try.prog 6 #[.agg #[.int .i64 (a), .int .i64 (s)], .slice A xs.length cap, .int .i64 p] w fun e w' => e = .returned (.bool true) ∧ Ext w w' := by
  by_cases hbig : 100 < xs.length
  · have h1 : decide ((100 : Int) < (xs.length : Int)) = true := by simp; omega
    go_enter Try.func6, Try.ntmps6
    go_wp2_with fail
    refine (awake03_any _).mono ?_
    rintro e w1 ⟨rfl, hx⟩
    have hx2 := ((Ext.refl w).alloc (.cells #[.int .i64 a, .int .i64 s] 23)).trans hx
    clear hx
    go_wp2_with fail
    go_ret
    exact ⟨rfl, hx2⟩
  have h1 : decide ((100 : Int) < (xs.length : Int)) = false := by simp; omega
  have HL := Lib.hid hl
  clear hl
  obtain ⟨bA, hbA⟩ : ∃ b, hasB a s p = b := ⟨_, rfl⟩
  obtain ⟨bC, hbC⟩ : ∃ b, coveredB xs p = b := ⟨_, rfl⟩
  have HA := Lib.hid hbA
  have HC := Lib.hid hbC
  clear hbA hbC
  go_enter Try.func6, Try.ntmps6
  have k0 := boxed w #[.int .i64 a, .int .i64 s] 23 0 (.int .i64 a) rfl
  have k1 := boxed w #[.int .i64 a, .int .i64 s] 23 1 (.int .i64 s) rfl
  have hW : Ext w (w.alloc (.cells #[.int .i64 a, .int .i64 s] 23)) := (Ext.refl w).alloc _
  go_wp2_with fail
  refine (gaps_any a s A cap xs _ (by omega) (HL.out.ext hW)).mono ?_
  rintro e W ⟨zs, hg, hret⟩
  obtain ⟨A2, cap2, rfl, hz, hx⟩ := hret.open
  have hzl := gaps_len hg
  have HG := Lib.hid hg
  have HZ := Lib.hid hz
  have HLW := Lib.hid (HL.out.ext (hW.trans hx))
  have hWW := hW.trans hx
  replace k0 := fun w' (h : Ext W w') => k0 w' (hx.trans h)
  replace k1 := fun w' (h : Ext W w') => k1 w' (hx.trans h)
  clear hg hret hz hx hW HL
  go_wp2_with fail
  go_loopw [8, 10] (fun c i wr => ∃ k n : Nat, k ≤ zs.length ∧ n ≤ k ∧ i = .int .i64 k ∧ c = .int .i64 n ∧ Ext W wr ∧ Hid (countB p (zs.take k) = n)) (fun _ i _ => zs.length - (intOf i).toNat)
  case atStart => exact ⟨0, 0, by omega, by omega, rfl, rfl, Ext.refl _, Lib.hid rfl⟩
  case round =>
    obtain ⟨k, n, hk, hn, rfl, rfl, hxr, hq⟩ := hrel
    by_cases hlt : k < zs.length
    · obtain ⟨lb, off, rfl, hc⟩ := HZ.out.get (by omega)
      obtain ⟨e1, e2⟩ := spans_cell hc hlt
      have c1 := hxr.cell e1
      have c2 := hxr.cell e2
      have HT := Lib.hid (count_snoc (p := p) hlt)
      rw [hq.out] at HT
      clear e1 e2 hc HZ HG hq HLW
      generalize zs.getD k (0, 0) = x at *
      obtain ⟨x1, x2⟩ := x
      simp only at c1 c2
      have ib1 : (k : Int) < (zs.length : Int) := by omega
      go_wp2_with fail
      cases hb : hasB x1 x2 p
      · refine (has_is x1 x2 p _ hb _).mono ?_
        rintro e w1 ⟨rfl, hx1⟩
        replace hxr := hxr.trans hx1
        go_wp2_with fail
        go_roundw
        case rel => exact ⟨k + 1, n, by omega, by omega, by go_num, rfl, hxr, by rw [HT.out]; simp only [hb]; exact Lib.hid rfl⟩
        case measure => simp [intOf]; omega
      · refine (has_is x1 x2 p _ hb _).mono ?_
        rintro e w1 ⟨rfl, hx1⟩
        replace hxr := hxr.trans hx1
        go_wp2_with fail
        go_roundw
        case rel => exact ⟨k + 1, n + 1, by omega, by omega, by go_num, by go_num, hxr, by rw [HT.out]; simp only [hb]; exact Lib.hid rfl⟩
        case measure => simp [intOf]; omega
    have HN : Hid (countB p zs = n) := Lib.hid (by have := hq.out; rwa [List.take_of_length_le (by omega)] at this)
    clear hq
    go_wp2_with fail
    go_loopw [9, 11] (fun c i wr2 => ∃ (k : Nat) (o : Int), k ≤ xs.length ∧ 0 ≤ o ∧ o ≤ 1 ∧ i = .int .i64 k ∧ c = .int .i64 o ∧ Ext W wr2 ∧ Hid (o = if coveredB (xs.take k) p then 1 else 0)) (fun _ i _ => xs.length - (intOf i).toNat)
    case atStart => exact ⟨0, 0, by omega, by omega, by omega, rfl, rfl, hxr, Lib.hid rfl⟩
    case round =>
      obtain ⟨j, o, hj, ho1, ho2, rfl, rfl, hxr2, hq⟩ := hrel
      by_cases hlt2 : j < xs.length
      · obtain ⟨lb, off, rfl, hc⟩ := HLW.out.get (by omega)
        obtain ⟨e1, e2⟩ := spans_cell hc hlt2
        have c1 := hxr2.cell e1
        have c2 := hxr2.cell e2
        have HT := Lib.hid (covered_snoc_k (p := p) hlt2)
        clear e1 e2 hc HZ HG HLW
        generalize xs.getD j (0, 0) = x at *
        obtain ⟨x1, x2⟩ := x
        simp only at c1 c2
        have ib1 : (j : Int) < (xs.length : Int) := by omega
        go_wp2_with fail
        cases hb : hasB x1 x2 p
        · refine (has_is x1 x2 p _ hb _).mono ?_
          rintro e w1 ⟨rfl, hx1⟩
          replace hxr2 := hxr2.trans hx1
          go_wp2_with fail
          go_roundw
          case rel => exact ⟨j + 1, o, by omega, ho1, ho2, by go_num, rfl, hxr2, by rw [HT.out]; simp only [hb, Bool.or_false]; exact hq⟩
          case measure => simp [intOf]; omega
        · refine (has_is x1 x2 p _ hb _).mono ?_
          rintro e w1 ⟨rfl, hx1⟩
          replace hxr2 := hxr2.trans hx1
          go_wp2_with fail
          go_roundw
          case rel => exact ⟨j + 1, 1, by omega, by omega, by omega, by go_num, rfl, hxr2, by rw [HT.out]; simp only [hb, Bool.or_true]; exact Lib.hid rfl⟩
          case measure => simp [intOf]; omega
      have hO := hq.out
      rw [List.take_of_length_le (by omega), HC.out] at hO
      have hcnt := gap_count (p := p) HG.out
      rw [HN.out, HA.out, HC.out] at hcnt
      clear hq HN
      have hcase : (bA = true ∧ bC = false ∧ n = 1 ∧ o = 0) ∨ (bA = false ∧ n = 0) ∨ (bA = true ∧ bC = true ∧ n = 0 ∧ o = 1) := by
        cases bA <;> cases bC <;> simp at hcnt hO <;> simp [hcnt, hO]
      clear hcnt hO
      have HAP := Lib.hid (gap_apart HG.out)
      have HJ := Lib.hid (gap_join HG.out)
      have hzl2 : zs.length ≤ 1000000 := by omega
      rcases hcase with ⟨rfl, rfl, rfl, rfl⟩ | ⟨rfl, rfl⟩ | ⟨rfl, rfl, rfl, rfl⟩
      all_goals
        go_wp2_with fail
        refine (has_is a s p _ HA.out _).mono ?_
        rintro e w1 ⟨rfl, hx1⟩
        replace hxr2 := hxr2.trans hx1
        clear hx1
        go_wp2_with fail
        refine (apart_c A2 cap2 zs _ true w1 rfl HAP.out (by omega) (HZ.out.ext hxr2)).mono ?_
        rintro e w2 ⟨rfl, hx2⟩
        replace hxr2 := hxr2.trans hx2
        clear hx2
        go_wp2_with fail
        refine (join_c A2 cap2 zs zs _ zs.length w2 rfl HJ.out rfl (by omega) (HZ.out.ext hxr2)).mono ?_
        rintro e w3 ⟨A3, cap3, rfl, hz3, hx3⟩
        replace hxr2 := hxr2.trans hx3
        have HZ3 := Lib.hid hz3
        clear hx3 hz3
        go_wp2_with fail
        refine (refsame_is A3 A2 cap3 cap2 zs zs _ _ true w3 rfl rfl (by simp) (by omega) (by omega) HZ3.out (HZ.out.ext hxr2)).mono ?_
        rintro e w4 ⟨rfl, hx4⟩
        replace hxr2 := hxr2.trans hx4
        clear hx4
        go_wp2_with fail
        refine (awake03_any _).mono ?_
        rintro e w5 ⟨rfl, hx5⟩
        replace hxr2 := hxr2.trans hx5
        clear hx5
        go_wp2_with fail
        go_ret
        exact ⟨rfl, hWW.trans hxr2⟩

theorem spanLists_fin {v0 : Value} {w : World} (h0 : IsSpans w v0) :
    Calls Try.prog 4 #[v0] w fun e w' => e = .returned (.bool true) ∧ Ext w w' := by
  obtain ⟨A, cap, xs, rfl, h1, h2, h3, h4⟩ := h0
  exact spanLists_any A cap xs w h2 h1 h4
theorem spanParts_fin {v0 v1 : Value} {p : Int} {w : World} (h0 : IsSpan v0) (h1 : IsSpans w v1) (h2 : (Lit.int .i64 p).wf = true) :
    Calls Try.prog 6 #[v0, v1, .int .i64 p] w fun e w' => e = .returned (.bool true) ∧ Ext w w' := by
  obtain ⟨a, s, rfl, _, _⟩ := h0
  obtain ⟨A, cap, xs, rfl, h1, h2, h3, h4⟩ := h1
  exact spanParts_any a s A cap xs p w h1 h4
end Go.Proofs.Ytllcekmbcmhckaa
