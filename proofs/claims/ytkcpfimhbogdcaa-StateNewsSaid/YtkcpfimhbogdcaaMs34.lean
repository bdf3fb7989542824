/- Merged by program (merge.py) out of: LsN. -/
import Derived.Test.YtkcpfimhbogdcaaMs32
import Derived.Test.YtkcpfimhbogdcaaMs33
/- The law StateNews. -/
set_option linter.unusedSimpArgs false
set_option linter.unusedVariables false
namespace Go.Proofs.Ytkcpfimhbogdcaa
open Go.RowKit Go.Shelf

theorem stnew_is {c0 c1 c2 c3 er : Int} {n : StD} (hn : newS c0 c1 c2 c3 = n) (he : newE c0 c1 c2 c3 = er) (V : World) : Calls Try.prog 26 #[.agg #[.int .i64 (c0), .int .i64 (c1), .int .i64 (c2), .int .i64 (c3)]] V (RetNew V n er) := by
  rw [← hn, ← he]; exact stnew_any c0 c1 c2 c3 V
theorem refnew_is {c0 c1 c2 c3 er : Int} {n : StD} (hn : newS c0 c1 c2 c3 = n) (he : newE c0 c1 c2 c3 = er) (V : World) : Calls Try.prog 27 #[.agg #[.int .i64 (c0), .int .i64 (c1), .int .i64 (c2), .int .i64 (c3)]] V (RetNew V n er) := by
  rw [← hn, ← he]; exact refnew_any c0 c1 c2 c3 V
theorem refssame_is {a b : StD} {r : Bool} (hr : eqvS a b = r) (V : World) (ha : StAt V a) (hb : StAt V b) (la : StLe a) (lb : StLe b) : Calls Try.prog 28 #[.agg #[.int .i64 a.c0, .int .i64 a.c1, .int .i64 a.c2, .int .i64 a.c3, .bool a.snd, .slice a.wA a.ws.length a.wc, .int .i64 a.top, .slice a.tA a.tb.length a.tc, .slice a.fA a.fr.length a.fc, .slice a.sA a.sl.length a.sc], .agg #[.int .i64 b.c0, .int .i64 b.c1, .int .i64 b.c2, .int .i64 b.c3, .bool b.snd, .slice b.wA b.ws.length b.wc, .int .i64 b.top, .slice b.tA b.tb.length b.tc, .slice b.fA b.fr.length b.fc, .slice b.sA b.sl.length b.sc]] V fun e w' => e = .returned (.bool r) ∧ Ext V w' := by
  rw [← hr]; exact refssame_any a b V ha hb la lb
theorem eqvS_both {a b n : StD} (h : eqvS a n = true) (h2 : eqvS b n = true) : eqvS a b = true := by
  rw [eqvS_iff] at h h2 ⊢
  simp [h, h2]
theorem StLe.of_eqv {a n : StD} (h : eqvS a n = true) (hn : StLe n) : StLe a := by
  obtain ⟨-, -, -, h1, h2, h3, h4⟩ := eqvS_iff.1 h
  exact ⟨by rw [h1]; exact hn.w, by rw [h2]; exact hn.t, by rw [h3]; exact hn.f, by rw [h4]; exact hn.s⟩
theorem StB.of_eqv {a n : StD} (h : eqvS a n = true) (hn : StB n) : StB a := by
  obtain ⟨-, -, -, h1, h2, h3, h4⟩ := eqvS_iff.1 h
  exact ⟨by rw [h1]; exact hn.wb, by rw [h2]; exact hn.tbb, by rw [h4]; exact hn.sb⟩
theorem check_eqv {a n : StD} (h : eqvS a n = true) : checkZ a.c0 a.c1 a.c2 a.c3 a.snd a.ws a.top a.tb a.fr a.sl = checkZ n.c0 n.c1 n.c2 n.c3 n.snd n.ws n.top n.tb n.fr n.sl := by
  obtain ⟨⟨h1, h2, h3, h4⟩, h5, h6, h7, h8, h9, h10⟩ := eqvS_iff.1 h
  rw [h1, h2, h3, h4, h5, h6, h7, h8, h9, h10]
theorem newS_ok (c0 c1 c2 c3 : Int) : StLe (newS c0 c1 c2 c3) ∧ StB (newS c0 c1 c2 c3) := by
  by_cases hb : cfgB c0 c1 c2 c3 = true
  · obtain ⟨h1, h2, h3, h4, h5, h6, h7, h8⟩ := cfg_bd hb
    have hw : wordsZ c0 c1 c2 c3 = 2 * c0 + c1 := by simp [wordsZ, hb]
    have e : newS c0 c1 c2 c3 = ⟨c0, c1, c2, c3, false, none, List.replicate (wordsZ c0 c1 c2 c3).toNat 0, 0, 0, none, [], 0, none, newFr c0 c1 c2 c3, 0, none, List.replicate c2.toNat (false, 0, 0), 0⟩ := by rw [newS, if_pos hb]
    rw [e]
    refine ⟨⟨?_, ?_, ?_, ?_⟩, ⟨fun z hz => ?_, ?_, fun x hx => ?_⟩⟩
    · show (List.replicate _ _).length ≤ _; rw [List.length_replicate, hw]; omega
    · simp
    · show (newFr c0 c1 c2 c3).length ≤ _
      unfold newFr; split <;> simp
    · show (List.replicate _ _).length ≤ _; rw [List.length_replicate]; omega
    · have hz : z ∈ List.replicate (wordsZ c0 c1 c2 c3).toNat (0 : Int) := hz
      rw [(List.mem_replicate.1 hz).2]; omega
    · simp
    · have hx : x ∈ List.replicate c2.toNat ((false, 0, 0) : Bool × Int × Int) := hx
      rw [(List.mem_replicate.1 hx).2]; simp
  · rw [newS, if_neg hb]
    exact ⟨⟨by simp, by simp, by simp, by simp⟩, ⟨by simp, by simp, by simp⟩⟩
theorem newS_check {c0 c1 c2 c3 : Int} (hb : cfgB c0 c1 c2 c3 = true) : checkZ (newS c0 c1 c2 c3).c0 (newS c0 c1 c2 c3).c1 (newS c0 c1 c2 c3).c2 (newS c0 c1 c2 c3).c3 (newS c0 c1 c2 c3).snd (newS c0 c1 c2 c3).ws (newS c0 c1 c2 c3).top (newS c0 c1 c2 c3).tb (newS c0 c1 c2 c3).fr (newS c0 c1 c2 c3).sl = 0 := by
  rw [newS, if_pos hb]
  exact check_new hb
set_option maxRecDepth 100000
set_option maxHeartbeats 1000000
theorem stateNews_any (c0 c1 c2 c3 : Int) (V : World) : Calls Try.prog 6 #[.agg #[.int .i64 (c0), .int .i64 (c1), .int .i64 (c2), .int .i64 (c3)]] V fun e w' => e = .returned (.bool true) ∧ Ext V w' := by
  obtain ⟨n, hn⟩ : ∃ x, newS c0 c1 c2 c3 = x := ⟨_, rfl⟩
  obtain ⟨er, he⟩ : ∃ x, newE c0 c1 c2 c3 = x := ⟨_, rfl⟩
  have hcase : er = 1 ∨ (er = 0 ∧ checkZ n.c0 n.c1 n.c2 n.c3 n.snd n.ws n.top n.tb n.fr n.sl = 0) := by
    by_cases hb : cfgB c0 c1 c2 c3 = true
    · exact .inr ⟨by rw [← he, newE, if_pos hb], by rw [← hn]; exact newS_check hb⟩
    · exact .inl (by rw [← he, newE, if_neg hb])
  have hok := newS_ok c0 c1 c2 c3
  rw [hn] at hok
  have HN := Lib.hid hn
  have HE := Lib.hid he
  have HC := Lib.hid hcase
  have HL := Lib.hid hok.1
  have HB := Lib.hid hok.2
  clear hn he hcase hok
  have hS := pers_new V #[.int .i64 c0, .int .i64 c1, .int .i64 c2, .int .i64 c3] 53 _ rfl
  have HX := Lib.hid ((Ext.refl V).alloc (.cells #[.int .i64 c0, .int .i64 c1, .int .i64 c2, .int .i64 c3] 53))
  go_enter Try.func6, Try.ntmps6
  go_wp2_with fail
  generalize V.alloc (.cells #[.int .i64 c0, .int .i64 c1, .int .i64 c2, .int .i64 c3] 53) = W at *
  generalize V.heap.size = S at *
  have gS := hS.cells
  ((first | refine at_baseC (W := W) ?_ | refine at_base (W := W) ?_); intro uq; (try go_wp2_with fail))
  (refine (stnew_is HN.out HE.out _).mono ?_; rintro e w1 ⟨t, rfl, ho, hv, hx⟩; replace hx := Ext.trans (a := W) (by repeat (first | (with_reducible exact Ext.refl _) | (with_reducible exact ExtOf.ext _) | (with_reducible assumption) | (with_reducible refine Ext.drew ?_) | (with_reducible refine Ext.alloc ?_ _))) hx; replace hS := hS.re hx; replace HX := Lib.hid (HX.out.trans hx))
  clear gS hx
  have k1 := (cells_of hS.here).1
  have q := lt_of_heap hS.here
  go_wp2_with fail
  have hy := (Ext.refl w1).alloc (.cells #[.int .i64 t.c0, .int .i64 t.c1, .int .i64 t.c2, .int .i64 t.c3, .bool t.snd, .slice t.wA t.ws.length t.wc, .int .i64 t.top, .slice t.tA t.tb.length t.tc, .slice t.fA t.fr.length t.fc, .slice t.sA t.sl.length t.sc] 56)
  have hB1 := pers_new w1 #[.int .i64 t.c0, .int .i64 t.c1, .int .i64 t.c2, .int .i64 t.c3, .bool t.snd, .slice t.wA t.ws.length t.wc, .int .i64 t.top, .slice t.tA t.tb.length t.tc, .slice t.fA t.fr.length t.fc, .slice t.sA t.sl.length t.sc] 56 _ rfl
  have H1 := (ho.at.ext hy).pers
  have HV1 := Lib.hid hv
  (replace hS := hS.re hy; replace HX := Lib.hid (HX.out.trans hy))
  clear hy k1 q ho hv
  generalize w1.alloc (.cells #[.int .i64 t.c0, .int .i64 t.c1, .int .i64 t.c2, .int .i64 t.c3, .bool t.snd, .slice t.wA t.ws.length t.wc, .int .i64 t.top, .slice t.tA t.tb.length t.tc, .slice t.fA t.fr.length t.fc, .slice t.sA t.sl.length t.sc] 56) = W1 at *
  generalize w1.heap.size = B1 at *
  refine (refnew_is HN.out HE.out _).mono ?_
  rintro e w2 ⟨t2, rfl, ho, hv, hx⟩
  (replace hS := hS.re hx; replace hB1 := hB1.re hx; replace H1 := H1.re hx; replace HX := Lib.hid (HX.out.trans hx))
  clear hx
  have k1 := (cells_of hB1.here).1
  have q := lt_of_heap hB1.here
  go_wp2_with fail
  have hy := (Ext.refl w2).alloc (.cells #[.int .i64 t2.c0, .int .i64 t2.c1, .int .i64 t2.c2, .int .i64 t2.c3, .bool t2.snd, .slice t2.wA t2.ws.length t2.wc, .int .i64 t2.top, .slice t2.tA t2.tb.length t2.tc, .slice t2.fA t2.fr.length t2.fc, .slice t2.sA t2.sl.length t2.sc] 56)
  have hB2 := pers_new w2 #[.int .i64 t2.c0, .int .i64 t2.c1, .int .i64 t2.c2, .int .i64 t2.c3, .bool t2.snd, .slice t2.wA t2.ws.length t2.wc, .int .i64 t2.top, .slice t2.tA t2.tb.length t2.tc, .slice t2.fA t2.fr.length t2.fc, .slice t2.sA t2.sl.length t2.sc] 56 _ rfl
  have H2 := (ho.at.ext hy).pers
  have HV2 := Lib.hid hv
  (replace hS := hS.re hy; replace hB1 := hB1.re hy; replace H1 := H1.re hy; replace HX := Lib.hid (HX.out.trans hy))
  clear hy ho hv k1 q
  generalize w2.alloc (.cells #[.int .i64 t2.c0, .int .i64 t2.c1, .int .i64 t2.c2, .int .i64 t2.c3, .bool t2.snd, .slice t2.wA t2.ws.length t2.wc, .int .i64 t2.top, .slice t2.tA t2.tb.length t2.tc, .slice t2.fA t2.fr.length t2.fc, .slice t2.sA t2.sl.length t2.sc] 56) = W2 at *
  generalize w2.heap.size = B2 at *
  have gS := hS.cells
  have g1 := hB1.cells
  have ha := StLe.of_eqv HV1.out HL.out
  have hb := StLe.of_eqv HV2.out HL.out
  have hr := eqvS_both HV1.out HV2.out
  have HA := Lib.hid ha
  have HA2 := Lib.hid hb
  have HR := Lib.hid hr
  clear ha hb hr
  rcases HC.out with rfl | ⟨rfl, hc⟩
  · ((first | refine at_baseC (W := W2) ?_ | refine at_base (W := W2) ?_); intro uq; (try go_wp2_with fail))
    (refine (refssame_is HR.out _ (H1.at (by repeat (first | (with_reducible exact Ext.refl _) | (with_reducible exact ExtOf.ext _) | (with_reducible assumption) | (with_reducible refine Ext.drew ?_) | (with_reducible refine Ext.alloc ?_ _)))) (H2.at (by repeat (first | (with_reducible exact Ext.refl _) | (with_reducible exact ExtOf.ext _) | (with_reducible assumption) | (with_reducible refine Ext.drew ?_) | (with_reducible refine Ext.alloc ?_ _)))) HA.out HA2.out).mono ?_; rintro e wq ⟨rfl, hx⟩; replace hx := Ext.trans (a := W2) (by repeat (first | (with_reducible exact Ext.refl _) | (with_reducible exact ExtOf.ext _) | (with_reducible assumption) | (with_reducible refine Ext.drew ?_) | (with_reducible refine Ext.alloc ?_ _))) hx; obtain ⟨uq, rfl⟩ : ∃ u : ExtOf W2, wq = u.1 := ⟨⟨wq, hx⟩, rfl⟩; clear hx; go_wp2_with fail)
    (refine (awake15_any _).mono ?_; rintro e wq ⟨rfl, hx⟩; replace hx := Ext.trans (a := W2) (by repeat (first | (with_reducible exact Ext.refl _) | (with_reducible exact ExtOf.ext _) | (with_reducible assumption) | (with_reducible refine Ext.drew ?_) | (with_reducible refine Ext.alloc ?_ _))) hx; obtain ⟨uq, rfl⟩ : ∃ u : ExtOf W2, wq = u.1 := ⟨⟨wq, hx⟩, rfl⟩; clear hx; go_wp2_with fail)
    go_ret
    exact ⟨rfl, HX.out.trans (ExtOf.ext _)⟩
  have HZ := Lib.hid ((check_eqv HV1.out).trans hc)
  have HSB := Lib.hid (StB.of_eqv HV1.out HB.out)
  clear hc
  by_cases h1 : 200 < c0
  · have d1 : decide ((200 : Int) < c0) = true := by simpa using h1
    clear h1
    ((first | refine at_baseC (W := W2) ?_ | refine at_base (W := W2) ?_); intro uq; (try go_wp2_with fail))
    (refine (refssame_is HR.out _ (H1.at (by repeat (first | (with_reducible exact Ext.refl _) | (with_reducible exact ExtOf.ext _) | (with_reducible assumption) | (with_reducible refine Ext.drew ?_) | (with_reducible refine Ext.alloc ?_ _)))) (H2.at (by repeat (first | (with_reducible exact Ext.refl _) | (with_reducible exact ExtOf.ext _) | (with_reducible assumption) | (with_reducible refine Ext.drew ?_) | (with_reducible refine Ext.alloc ?_ _)))) HA.out HA2.out).mono ?_; rintro e wq ⟨rfl, hx⟩; replace hx := Ext.trans (a := W2) (by repeat (first | (with_reducible exact Ext.refl _) | (with_reducible exact ExtOf.ext _) | (with_reducible assumption) | (with_reducible refine Ext.drew ?_) | (with_reducible refine Ext.alloc ?_ _))) hx; obtain ⟨uq, rfl⟩ : ∃ u : ExtOf W2, wq = u.1 := ⟨⟨wq, hx⟩, rfl⟩; clear hx; go_wp2_with fail)
    (refine (awake15_any _).mono ?_; rintro e wq ⟨rfl, hx⟩; replace hx := Ext.trans (a := W2) (by repeat (first | (with_reducible exact Ext.refl _) | (with_reducible exact ExtOf.ext _) | (with_reducible assumption) | (with_reducible refine Ext.drew ?_) | (with_reducible refine Ext.alloc ?_ _))) hx; obtain ⟨uq, rfl⟩ : ∃ u : ExtOf W2, wq = u.1 := ⟨⟨wq, hx⟩, rfl⟩; clear hx; go_wp2_with fail)
    go_ret
    exact ⟨rfl, HX.out.trans (ExtOf.ext _)⟩
  have d1 : decide ((200 : Int) < c0) = false := by simpa using h1
  clear h1
  by_cases h2 : 200 < c1
  · have d2 : decide ((200 : Int) < c1) = true := by simpa using h2
    clear h2
    ((first | refine at_baseC (W := W2) ?_ | refine at_base (W := W2) ?_); intro uq; (try go_wp2_with fail))
    (refine (refssame_is HR.out _ (H1.at (by repeat (first | (with_reducible exact Ext.refl _) | (with_reducible exact ExtOf.ext _) | (with_reducible assumption) | (with_reducible refine Ext.drew ?_) | (with_reducible refine Ext.alloc ?_ _)))) (H2.at (by repeat (first | (with_reducible exact Ext.refl _) | (with_reducible exact ExtOf.ext _) | (with_reducible assumption) | (with_reducible refine Ext.drew ?_) | (with_reducible refine Ext.alloc ?_ _)))) HA.out HA2.out).mono ?_; rintro e wq ⟨rfl, hx⟩; replace hx := Ext.trans (a := W2) (by repeat (first | (with_reducible exact Ext.refl _) | (with_reducible exact ExtOf.ext _) | (with_reducible assumption) | (with_reducible refine Ext.drew ?_) | (with_reducible refine Ext.alloc ?_ _))) hx; obtain ⟨uq, rfl⟩ : ∃ u : ExtOf W2, wq = u.1 := ⟨⟨wq, hx⟩, rfl⟩; clear hx; go_wp2_with fail)
    (refine (awake15_any _).mono ?_; rintro e wq ⟨rfl, hx⟩; replace hx := Ext.trans (a := W2) (by repeat (first | (with_reducible exact Ext.refl _) | (with_reducible exact ExtOf.ext _) | (with_reducible assumption) | (with_reducible refine Ext.drew ?_) | (with_reducible refine Ext.alloc ?_ _))) hx; obtain ⟨uq, rfl⟩ : ∃ u : ExtOf W2, wq = u.1 := ⟨⟨wq, hx⟩, rfl⟩; clear hx; go_wp2_with fail)
    go_ret
    exact ⟨rfl, HX.out.trans (ExtOf.ext _)⟩
  have d2 : decide ((200 : Int) < c1) = false := by simpa using h2
  clear h2
  ((first | refine at_baseC (W := W2) ?_ | refine at_base (W := W2) ?_); intro uq; (try go_wp2_with fail))
  (refine (refssame_is HR.out _ (H1.at (by repeat (first | (with_reducible exact Ext.refl _) | (with_reducible exact ExtOf.ext _) | (with_reducible assumption) | (with_reducible refine Ext.drew ?_) | (with_reducible refine Ext.alloc ?_ _)))) (H2.at (by repeat (first | (with_reducible exact Ext.refl _) | (with_reducible exact ExtOf.ext _) | (with_reducible assumption) | (with_reducible refine Ext.drew ?_) | (with_reducible refine Ext.alloc ?_ _)))) HA.out HA2.out).mono ?_; rintro e wq ⟨rfl, hx⟩; replace hx := Ext.trans (a := W2) (by repeat (first | (with_reducible exact Ext.refl _) | (with_reducible exact ExtOf.ext _) | (with_reducible assumption) | (with_reducible refine Ext.drew ?_) | (with_reducible refine Ext.alloc ?_ _))) hx; obtain ⟨uq, rfl⟩ : ∃ u : ExtOf W2, wq = u.1 := ⟨⟨wq, hx⟩, rfl⟩; clear hx; go_wp2_with fail)
  (refine (stcheck_s t 0 HZ.out _ (H1.at (by repeat (first | (with_reducible exact Ext.refl _) | (with_reducible exact ExtOf.ext _) | (with_reducible assumption) | (with_reducible refine Ext.drew ?_) | (with_reducible refine Ext.alloc ?_ _)))) HA.out HSB.out).mono ?_; rintro e wq ⟨rfl, hx⟩; replace hx := Ext.trans (a := W2) (by repeat (first | (with_reducible exact Ext.refl _) | (with_reducible exact ExtOf.ext _) | (with_reducible assumption) | (with_reducible refine Ext.drew ?_) | (with_reducible refine Ext.alloc ?_ _))) hx; obtain ⟨uq, rfl⟩ : ∃ u : ExtOf W2, wq = u.1 := ⟨⟨wq, hx⟩, rfl⟩; clear hx; go_wp2_with fail)
  (refine (awake15_any _).mono ?_; rintro e wq ⟨rfl, hx⟩; replace hx := Ext.trans (a := W2) (by repeat (first | (with_reducible exact Ext.refl _) | (with_reducible exact ExtOf.ext _) | (with_reducible assumption) | (with_reducible refine Ext.drew ?_) | (with_reducible refine Ext.alloc ?_ _))) hx; obtain ⟨uq, rfl⟩ : ∃ u : ExtOf W2, wq = u.1 := ⟨⟨wq, hx⟩, rfl⟩; clear hx; go_wp2_with fail)
  go_ret
  exact ⟨rfl, HX.out.trans (ExtOf.ext _)⟩
theorem stateNews_fin {v0 : Value} {w : World} (h0 : ∃ s l t m : Int, v0 = .agg #[.int .i64 (s), .int .i64 (l), .int .i64 (t), .int .i64 (m)]) : Calls Try.prog 6 #[v0] w fun e w' => e = .returned (.bool true) ∧ Ext w w' := by
  obtain ⟨s, l, t, m, rfl⟩ := h0
  exact stateNews_any s l t m w
end Go.Proofs.Ytkcpfimhbogdcaa

