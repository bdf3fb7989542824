/- Merged by program (merge.py) out of: LwN. -/
import Derived.Test.YtkcpfimhbogdcaaMw11
/- The law WalkNobody. -/
set_option linter.unusedSimpArgs false
set_option linter.unusedVariables false
namespace Go.Proofs.Ytkcpfimhbogdcaa
open Go.RowKit Go.Shelf

/-- What the openers give. -/
abbrev IsSpan (v : Value) : Prop := ∃ a s : Int, v = .agg #[.int .i64 (a), .int .i64 (s)] ∧ (-9223372036854775808 ≤ a ∧ a ≤ 9223372036854775807) ∧ (-9223372036854775808 ≤ s ∧ s ≤ 9223372036854775807)
/-- Nobody's arena: where a walk ends, and why. -/
theorem nobody_bad {a s top : Int} (h : wkB a s top = false) : listA none a s top = [] ∧ stopE none a s top = 1 ∧ stopA none a s top = 0 := by
  have h1 : stopE none a s top = 1 := by rw [stopE, h]; rfl
  exact ⟨by rw [listA, h1]; rfl, h1, by rw [stopA, h]; rfl⟩
theorem nobody_at {a s : Int} (h : wkB a s a = true) : listA none a s a = [] ∧ stopE none a s a = 0 ∧ stopA none a s a = a := by
  have he := steps_end (l := none) (top := a) (i := a) (by omega)
  have h1 : lastS none a a = ⟨a, hd0, 0, true⟩ := by rw [lastS, he]; rfl
  have h2 : stopE none a s a = 0 := by rw [stopE, h, h1]; rfl
  exact ⟨by rw [listA, h2, he]; rfl, h2, by rw [stopA, h, h1]; rfl⟩
theorem nobody_on {a s top : Int} (h : wkB a s top = true) (hlt : a < top) : listA none a s top = [] ∧ stopE none a s top = 10 ∧ stopA none a s top = a := by
  have hw : wkE none top a = 10 := by
    have h1 : headE none a = 10 := by rw [headE]; rfl
    rw [wkE, h1]; rfl
  have he := steps_err (l := none) hlt (by rw [hw]; decide)
  have h1 : lastS none top a = ⟨a, hd0, 10, true⟩ := by rw [lastS, he, hw]; rfl
  have h2 : stopE none a s top = 10 := by rw [stopE, h, h1]; rfl
  exact ⟨by rw [listA, h2]; rfl, h2, by rw [stopA, h, h1]; rfl⟩
set_option maxRecDepth 100000
set_option maxHeartbeats 1000000
theorem walkNobody_any (a s top : Int) (V : World) (ha : -9223372036854775808 ≤ a ∧ a ≤ 9223372036854775807) (hs : -9223372036854775808 ≤ s ∧ s ≤ 9223372036854775807) :
    Calls Try.prog 3 #[.agg #[.int .i64 (a), .int .i64 (s)], .int .i64 top] V fun e w' => e = .returned (.bool true) ∧ Ext V w' := by
  obtain ⟨b, hb⟩ : ∃ b, mayB a s = b := ⟨_, rfl⟩
  have HB := Lib.hid hb
  obtain ⟨x, er, HL, HE, HA, HK⟩ : ∃ x er, Hid (listA none a s top = []) ∧ Hid (stopE none a s top = er) ∧ Hid (stopA none a s top = x) ∧ Hid ((wkB a s top = false ∧ x = 0 ∧ er = 1) ∨ (wkB a s top = true ∧ x = a ∧ ((top = a ∧ er = 0) ∨ (a < top ∧ er = 10)))) := by
    cases hk : wkB a s top
    · obtain ⟨h1, h2, h3⟩ := nobody_bad hk
      exact ⟨0, 1, Lib.hid h1, Lib.hid h2, Lib.hid h3, Lib.hid (.inl ⟨rfl, rfl, rfl⟩)⟩
    · have hk2 := hk
      simp only [wkB, Bool.and_eq_true, decide_eq_true_eq] at hk2
      by_cases ht : top = a
      · subst ht
        obtain ⟨h1, h2, h3⟩ := nobody_at hk
        exact ⟨top, 0, Lib.hid h1, Lib.hid h2, Lib.hid h3, Lib.hid (.inr ⟨rfl, rfl, .inl ⟨rfl, rfl⟩⟩)⟩
      · obtain ⟨h1, h2, h3⟩ := nobody_on hk (by omega)
        exact ⟨a, 10, Lib.hid h1, Lib.hid h2, Lib.hid h3, Lib.hid (.inr ⟨rfl, rfl, .inr ⟨by omega, rfl⟩⟩)⟩
  clear hb
  have hb5 := blk_new V #[.int .i64 a, .int .i64 s] 23 _ rfl
  have HX := Lib.hid ((Ext.refl V).alloc (.cells #[.int .i64 a, .int .i64 s] 23))
  have HB5 := Lib.hid hb5
  clear hb5
  go_enter Try.func3, Try.ntmps3
  go_wp2_with fail
  generalize V.alloc (.cells #[.int .i64 a, .int .i64 s] 23) = w4 at *
  generalize V.heap.size = S at *
  refine (list_is none none a s top er [] HL.out HE.out w4 (ArP.nil w4)).mono ?_
  rintro e w5 ⟨LA, lc, rfl, hl, hx⟩
  have HX5 := Lib.hid (HX.out.trans hx)
  have HB6 := Lib.hid ((hx.block (lt_of_heap HB5.out)).trans HB5.out)
  clear hl hx HX HB5
  have g0 : w5.cell? ⟨S, 0, none⟩ = some (.int .i64 a) := by simp [World.cell?, HB6.out]
  have g1 : w5.cell? ⟨S, 1, none⟩ = some (.int .i64 s) := by simp [World.cell?, HB6.out]
  go_wp2_with fail
  refine (stop_is none none a s top x er HA.out HE.out w5 (ArP.nil w5)).mono ?_
  rintro e w6 ⟨rfl, hx⟩
  have HX6 := Lib.hid (HX5.out.trans hx)
  have HB7 := Lib.hid ((hx.block (lt_of_heap HB6.out)).trans HB6.out)
  clear hx HX5 HB6 g0 g1
  have g0 : w6.cell? ⟨S, 0, none⟩ = some (.int .i64 a) := by simp [World.cell?, HB7.out]
  have g1 : w6.cell? ⟨S, 1, none⟩ = some (.int .i64 s) := by simp [World.cell?, HB7.out]
  go_wp2_with fail
  refine (mayS_is a s b HB.out w6).mono ?_
  rintro e w7 ⟨rfl, hx⟩
  have HX7 := Lib.hid (HX6.out.trans hx)
  have HB8 := Lib.hid ((hx.block (lt_of_heap HB7.out)).trans HB7.out)
  clear hx HX6 HB7 g0 g1
  have g0 : w7.cell? ⟨S, 0, none⟩ = some (.int .i64 a) := by simp [World.cell?, HB8.out]
  have g1 : w7.cell? ⟨S, 1, none⟩ = some (.int .i64 s) := by simp [World.cell?, HB8.out]
  rcases HK.out with ⟨hk, rfl, rfl⟩ | ⟨hk, rfl, hc⟩
  · -- no walk may be asked
    cases b
    · clear hk HK
      go_wp2_with fail
      refine (awake09_any w7).mono ?_
      rintro e w8 ⟨rfl, hx⟩
      have HX8 := Lib.hid (HX7.out.trans hx)
      clear hx
      go_wp2_with fail
      go_ret
      exact ⟨rfl, HX8.out⟩
    · obtain ⟨m1, m2, m3, m4⟩ := may_bd HB.out
      have hw : wrap64 (a + s) = a + s := IntWalk.wrap64_in _ ⟨by omega, by omega⟩
      by_cases h1 : top < a
      · have d1 : decide (top < a) = true := by simpa using h1
        clear hk HK
        go_wp2_with fail
        refine (awake09_any w7).mono ?_
        rintro e w8 ⟨rfl, hx⟩
        have HX8 := Lib.hid (HX7.out.trans hx)
        clear hx
        go_wp2_with fail
        go_ret
        exact ⟨rfl, HX8.out⟩
      · have d1 : decide (top < a) = false := by simpa using h1
        have d2 : decide (a + s < top) = true := by
          have := HB.out
          simp only [wkB, this, Bool.true_and, decide_eq_false_iff_not] at hk
          simp only [decide_eq_true_eq]
          omega
        clear hk HK
        go_wp2_with fail
        refine (awake09_any w7).mono ?_
        rintro e w8 ⟨rfl, hx⟩
        have HX8 := Lib.hid (HX7.out.trans hx)
        clear hx
        go_wp2_with fail
        go_ret
        exact ⟨rfl, HX8.out⟩
  · obtain rfl : b = true := by
      have := HB.out
      unfold wkB at hk
      rw [this] at hk
      cases b
      · simp at hk
      · rfl
    obtain ⟨m1, m2, m3, m4⟩ := may_bd HB.out
    have hw : wrap64 (x + s) = x + s := IntWalk.wrap64_in _ ⟨by omega, by omega⟩
    obtain ⟨t1, t2⟩ : x ≤ top ∧ top ≤ x + s := by simpa [wkB, HB.out] using hk
    have d1 : decide (top < x) = false := by simp; omega
    have d2 : decide (x + s < top) = false := by simp; omega
    clear hk HK
    rcases hc with ⟨hc, rfl⟩ | ⟨hc, rfl⟩
    · have d3 : (top == x) = true := by simpa using hc
      clear hc
      go_wp2_with fail
      refine (awake09_any w7).mono ?_
      rintro e w8 ⟨rfl, hx⟩
      have HX8 := Lib.hid (HX7.out.trans hx)
      clear hx
      go_wp2_with fail
      go_ret
      exact ⟨rfl, HX8.out⟩
    · have d3 : (top == x) = false := by simp; omega
      clear hc
      go_wp2_with fail
      refine (awake09_any w7).mono ?_
      rintro e w8 ⟨rfl, hx⟩
      have HX8 := Lib.hid (HX7.out.trans hx)
      clear hx
      go_wp2_with fail
      go_ret
      exact ⟨rfl, HX8.out⟩
theorem walkNobody_fin {v0 : Value} {p : Int} {w : World} (h0 : IsSpan v0) (h2 : (Lit.int .i64 p).wf = true) :
    Calls Try.prog 3 #[v0, .int .i64 p] w fun e w' => e = .returned (.bool true) ∧ Ext w w' := by
  obtain ⟨a, s, rfl, h1, h3⟩ := h0
  exact walkNobody_any a s p w h1 h3
end Go.Proofs.Ytkcpfimhbogdcaa

