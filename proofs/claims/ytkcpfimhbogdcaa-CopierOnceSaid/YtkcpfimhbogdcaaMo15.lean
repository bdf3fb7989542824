/- Merged by program (merge.py) out of: LwL. -/
import Derived.Test.YtkcpfimhbogdcaaMo11
import Derived.Test.YtkcpfimhbogdcaaMo12
import Derived.Test.YtkcpfimhbogdcaaMo14
/- The law WalkLists. -/
set_option linter.unusedSimpArgs false
set_option linter.unusedVariables false
namespace Go.Proofs.Ytkcpfimhbogdcaa
open Go.RowKit Go.Shelf

theorem refsums_is (A : Option Addr) (cap : Nat) (ws : List Int) (a s top x y z er : Int) (h1 : wsumA (some ws) a s top = (x, y, z)) (h2 : stopE (some ws) a s top = er) (V : World) (hl : WordsAt V A ws) (hlen : ws.length ≤ 98304) (hbd : ∀ z ∈ ws, 0 ≤ z ∧ z < 18446744073709551616) :
    Calls Try.prog 20 #[.slice A ws.length cap, .agg #[.int .i64 (a), .int .i64 (s)], .int .i64 top] V fun e w' => e = .returned (.tuple #[.int .i64 x, .int .i64 y, .int .i64 z, .int .i64 er]) ∧ Ext V w' := by
  have := refsums_any A cap ws a s top V hl hlen hbd
  rwa [h1, h2] at this
theorem refwalk_is (A : Option Addr) (cap : Nat) (ws : List Int) (a s top x er : Int) (zs : List Int) (h0 : listA (some ws) a s top = zs) (h1 : stopA (some ws) a s top = x) (h2 : stopE (some ws) a s top = er) (V : World) (hl : WordsAt V A ws) (hlen : ws.length ≤ 98304) (hbd : ∀ z ∈ ws, 0 ≤ z ∧ z < 18446744073709551616) :
    Calls Try.prog 18 #[.slice A ws.length cap, .agg #[.int .i64 (a), .int .i64 (s)], .int .i64 top] V (RetWk V zs x er) := by
  have := refwalk_any A cap ws a s top V hl hlen hbd
  rwa [h0, h1, h2] at this
theorem ints_is (A A2 : Option Addr) (cap cap2 : Nat) (xs ys : List Int) (n m : Nat) (b : Bool) (hn : xs.length = n) (hm : ys.length = m) (hb : decide (xs = ys) = b) (W : World) (hlen : n ≤ 9223372036854775807) (hlen2 : m ≤ 9223372036854775807) (hl : IntsAt W A xs) (hl2 : IntsAt W A2 ys) :
    Calls Try.prog 21 #[.slice A n cap, .slice A2 m cap2] W fun e w' => e = .returned (.bool b) ∧ Ext W w' := by
  subst hn hm hb; exact ints_any A A2 cap cap2 xs ys W hlen hlen2 hl hl2
theorem starts_is (A : Option Addr) (cap : Nat) (zs : List Int) (v : Int) (b : Bool) (hb : decide (v ∈ zs) = b) (W : World) (hlen : zs.length ≤ 9223372036854775807) (hl : IntsAt W A zs) :
    Calls Try.prog 22 #[.slice A zs.length cap, .int .i64 v] W fun e w' => e = .returned (.bool b) ∧ Ext W w' := by
  rw [← hb]; exact starts_any A cap zs v W hlen hl
theorem refstarts_is (A : Option Addr) (cap : Nat) (zs : List Int) (v : Int) (b : Bool) (hb : decide (v ∈ zs) = b) (W : World) (hlen : zs.length ≤ 9223372036854775807) (hl : IntsAt W A zs) :
    Calls Try.prog 23 #[.slice A zs.length cap, .int .i64 v] W fun e w' => e = .returned (.bool b) ∧ Ext W w' := by
  rw [← hb]; exact refstarts_any A cap zs v W hlen hl
theorem arO_pers {Bo b cap : Nat} {W : World} {A : Option Addr} {ws : List Int} (h : ArO Bo W b A cap ws) : Pers W (fun w => ArP w (some ⟨b, 0, none⟩) (some ws)) := fun _ k => (h.ext k).p
set_option maxRecDepth 100000
set_option maxHeartbeats 2000000
theorem walkLists_any (A : Option Addr) (cap : Nat) (ws : List Int) (a s top : Int) (A2 : Option Addr) (cap2 : Nat) (ps : List Int) (v : Int) (V : World) (hl : WordsAt V A ws) (hbd : ∀ z ∈ ws, 0 ≤ z ∧ z < 18446744073709551616) (hlen : ws.length ≤ 9223372036854775807) (hl2 : IntsAt V A2 ps) (hlen2 : ps.length ≤ 9223372036854775807) :
    Calls Try.prog 4 #[.slice A ws.length cap, .agg #[.int .i64 (a), .int .i64 (s)], .int .i64 top, .slice A2 ps.length cap2, .int .i64 v] V fun e w' => e = .returned (.bool true) ∧ Ext V w' := by
  have HL := pers_row hl
  have HP := pers_row hl2
  have HBD := Lib.hid hbd
  have hS := pers_new V #[.int .i64 a, .int .i64 s] 23 _ rfl
  have HX := Lib.hid ((Ext.refl V).alloc (.cells #[.int .i64 a, .int .i64 s] 23))
  clear hl hl2 hbd
  by_cases h1 : 200 < ws.length
  · have d1 : decide ((200 : Int) < (ws.length : Int)) = true := by simp; omega
    clear h1
    go_enter Try.func4, Try.ntmps4
    go_wp2_with fail
    refine (awake09_any _).mono ?_
    rintro e w8 ⟨rfl, hx⟩
    go_wp2_with fail
    go_ret
    exact ⟨rfl, HX.out.trans hx⟩
  have d1 : decide ((200 : Int) < (ws.length : Int)) = false := by simp; omega
  have hws : ws.length ≤ 98304 := by omega
  clear h1
  by_cases h2 : 200 < ps.length
  · have d2 : decide ((200 : Int) < (ps.length : Int)) = true := by simp; omega
    clear h2
    go_enter Try.func4, Try.ntmps4
    go_wp2_with fail
    refine (awake09_any _).mono ?_
    rintro e w8 ⟨rfl, hx⟩
    go_wp2_with fail
    go_ret
    exact ⟨rfl, HX.out.trans hx⟩
  have d2 : decide ((200 : Int) < (ps.length : Int)) = false := by simp; omega
  clear h2
  obtain ⟨zs, hz⟩ : ∃ x, listA (some ws) a s top = x := ⟨_, rfl⟩
  obtain ⟨x0, hx0⟩ : ∃ x, stopA (some ws) a s top = x := ⟨_, rfl⟩
  obtain ⟨er, her⟩ : ∃ x, stopE (some ws) a s top = x := ⟨_, rfl⟩
  obtain ⟨⟨n1, n2, n3⟩, hsu⟩ : ∃ x, wsumA (some ws) a s top = x := ⟨_, rfl⟩
  obtain ⟨b, hb⟩ : ∃ x, decide (v ∈ ps) = x := ⟨_, rfl⟩
  have hzl := list_len (some ws) a s top
  rw [hz] at hzl
  have HZ := Lib.hid hz
  have HA := Lib.hid hx0
  have HE := Lib.hid her
  have HU := Lib.hid hsu
  have HB := Lib.hid hb
  clear hz hx0 her hsu hb
  go_enter Try.func4, Try.ntmps4
  go_wp2_with fail
  generalize V.alloc (.cells #[.int .i64 a, .int .i64 s] 23) = W at *
  generalize V.heap.size = S at *
  replace HL := HL.re HX.out
  replace HP := HP.re HX.out
  refine (aof_any A cap ws _ HL.here hws HBD.out).mono ?_
  rintro e W1 ⟨⟨c, A1, cap1, rfl, hA⟩, hx⟩
  (replace HL := HL.re hx; replace HP := HP.re hx; replace hS := hS.re hx; replace HX := Lib.hid (HX.out.trans hx))
  have HAR := arO_pers hA
  clear hx hA
  have gS := hS.cells
  ((first | refine at_baseC (W := W1) ?_ | refine at_base (W := W1) ?_); intro uq; (try go_wp2_with fail))
  (refine (list_is (some ⟨c, 0, none⟩) (some ws) a s top er zs HZ.out HE.out _ (HAR.at (by repeat (first | (with_reducible exact Ext.refl _) | (with_reducible exact ExtOf.ext _) | (with_reducible assumption) | (with_reducible refine Ext.drew ?_) | (with_reducible refine Ext.alloc ?_ _))))).mono ?_; rintro e W2 ⟨A2', cap2', rfl, hz2, hx⟩; replace hx := Ext.trans (a := W1) (by repeat (first | (with_reducible exact Ext.refl _) | (with_reducible exact ExtOf.ext _) | (with_reducible assumption) | (with_reducible refine Ext.drew ?_) | (with_reducible refine Ext.alloc ?_ _))) hx; replace HL := HL.re hx; replace HP := HP.re hx; replace hS := hS.re hx; replace HAR := HAR.re hx; replace HX := Lib.hid (HX.out.trans hx))
  have HZ2 := pers_row hz2
  clear hx hz2 gS
  have gS := hS.cells
  ((first | refine at_baseC (W := W2) ?_ | refine at_base (W := W2) ?_); intro uq; (try go_wp2_with fail))
  (refine (stop_is (some ⟨c, 0, none⟩) (some ws) a s top x0 er HA.out HE.out _ (HAR.at (by repeat (first | (with_reducible exact Ext.refl _) | (with_reducible exact ExtOf.ext _) | (with_reducible assumption) | (with_reducible refine Ext.drew ?_) | (with_reducible refine Ext.alloc ?_ _))))).mono ?_; rintro e wq ⟨rfl, hx⟩; replace hx := Ext.trans (a := W2) (by repeat (first | (with_reducible exact Ext.refl _) | (with_reducible exact ExtOf.ext _) | (with_reducible assumption) | (with_reducible refine Ext.drew ?_) | (with_reducible refine Ext.alloc ?_ _))) hx; obtain ⟨uq, rfl⟩ : ∃ u : ExtOf W2, wq = u.1 := ⟨⟨wq, hx⟩, rfl⟩; clear hx; go_wp2_with fail)
  (refine (refwalk_is A cap ws a s top x0 er zs HZ.out HA.out HE.out _ (HL.at (by repeat (first | (with_reducible exact Ext.refl _) | (with_reducible exact ExtOf.ext _) | (with_reducible assumption) | (with_reducible refine Ext.drew ?_) | (with_reducible refine Ext.alloc ?_ _)))) hws HBD.out).mono ?_; rintro e W3 ⟨A3', cap3', rfl, hz3, hx⟩; replace hx := Ext.trans (a := W2) (by repeat (first | (with_reducible exact Ext.refl _) | (with_reducible exact ExtOf.ext _) | (with_reducible assumption) | (with_reducible refine Ext.drew ?_) | (with_reducible refine Ext.alloc ?_ _))) hx; replace HL := HL.re hx; replace HP := HP.re hx; replace hS := hS.re hx; replace HAR := HAR.re hx; replace HZ2 := HZ2.re hx; replace HX := Lib.hid (HX.out.trans hx))
  have HZ3 := pers_row hz3
  clear hx hz3 gS
  have gS := hS.cells
  ((first | refine at_baseC (W := W3) ?_ | refine at_base (W := W3) ?_); intro uq; (try go_wp2_with fail))
  (refine (sums_is (some ⟨c, 0, none⟩) (some ws) a s top n1 n2 n3 er HU.out HE.out _ (HAR.at (by repeat (first | (with_reducible exact Ext.refl _) | (with_reducible exact ExtOf.ext _) | (with_reducible assumption) | (with_reducible refine Ext.drew ?_) | (with_reducible refine Ext.alloc ?_ _))))).mono ?_; rintro e wq ⟨rfl, hx⟩; replace hx := Ext.trans (a := W3) (by repeat (first | (with_reducible exact Ext.refl _) | (with_reducible exact ExtOf.ext _) | (with_reducible assumption) | (with_reducible refine Ext.drew ?_) | (with_reducible refine Ext.alloc ?_ _))) hx; obtain ⟨uq, rfl⟩ : ∃ u : ExtOf W3, wq = u.1 := ⟨⟨wq, hx⟩, rfl⟩; clear hx; go_wp2_with fail)
  (refine (refsums_is A cap ws a s top n1 n2 n3 er HU.out HE.out _ (HL.at (by repeat (first | (with_reducible exact Ext.refl _) | (with_reducible exact ExtOf.ext _) | (with_reducible assumption) | (with_reducible refine Ext.drew ?_) | (with_reducible refine Ext.alloc ?_ _)))) hws HBD.out).mono ?_; rintro e wq ⟨rfl, hx⟩; replace hx := Ext.trans (a := W3) (by repeat (first | (with_reducible exact Ext.refl _) | (with_reducible exact ExtOf.ext _) | (with_reducible assumption) | (with_reducible refine Ext.drew ?_) | (with_reducible refine Ext.alloc ?_ _))) hx; obtain ⟨uq, rfl⟩ : ∃ u : ExtOf W3, wq = u.1 := ⟨⟨wq, hx⟩, rfl⟩; clear hx; go_wp2_with fail)
  (refine (ints_is A2' A3' cap2' cap3' zs zs _ _ true rfl rfl (by simp) _ (by omega) (by omega) (HZ2.at (by repeat (first | (with_reducible exact Ext.refl _) | (with_reducible exact ExtOf.ext _) | (with_reducible assumption) | (with_reducible refine Ext.drew ?_) | (with_reducible refine Ext.alloc ?_ _)))) (HZ3.at (by repeat (first | (with_reducible exact Ext.refl _) | (with_reducible exact ExtOf.ext _) | (with_reducible assumption) | (with_reducible refine Ext.drew ?_) | (with_reducible refine Ext.alloc ?_ _))))).mono ?_; rintro e wq ⟨rfl, hx⟩; replace hx := Ext.trans (a := W3) (by repeat (first | (with_reducible exact Ext.refl _) | (with_reducible exact ExtOf.ext _) | (with_reducible assumption) | (with_reducible refine Ext.drew ?_) | (with_reducible refine Ext.alloc ?_ _))) hx; obtain ⟨uq, rfl⟩ : ∃ u : ExtOf W3, wq = u.1 := ⟨⟨wq, hx⟩, rfl⟩; clear hx; go_wp2_with fail)
  (refine (starts_is A2 cap2 ps v b HB.out _ hlen2 (HP.at (by repeat (first | (with_reducible exact Ext.refl _) | (with_reducible exact ExtOf.ext _) | (with_reducible assumption) | (with_reducible refine Ext.drew ?_) | (with_reducible refine Ext.alloc ?_ _))))).mono ?_; rintro e wq ⟨rfl, hx⟩; replace hx := Ext.trans (a := W3) (by repeat (first | (with_reducible exact Ext.refl _) | (with_reducible exact ExtOf.ext _) | (with_reducible assumption) | (with_reducible refine Ext.drew ?_) | (with_reducible refine Ext.alloc ?_ _))) hx; obtain ⟨uq, rfl⟩ : ∃ u : ExtOf W3, wq = u.1 := ⟨⟨wq, hx⟩, rfl⟩; clear hx; go_wp2_with fail)
  (refine (refstarts_is A2 cap2 ps v b HB.out _ hlen2 (HP.at (by repeat (first | (with_reducible exact Ext.refl _) | (with_reducible exact ExtOf.ext _) | (with_reducible assumption) | (with_reducible refine Ext.drew ?_) | (with_reducible refine Ext.alloc ?_ _))))).mono ?_; rintro e wq ⟨rfl, hx⟩; replace hx := Ext.trans (a := W3) (by repeat (first | (with_reducible exact Ext.refl _) | (with_reducible exact ExtOf.ext _) | (with_reducible assumption) | (with_reducible refine Ext.drew ?_) | (with_reducible refine Ext.alloc ?_ _))) hx; obtain ⟨uq, rfl⟩ : ∃ u : ExtOf W3, wq = u.1 := ⟨⟨wq, hx⟩, rfl⟩; clear hx; go_wp2_with fail)
  (refine (awake09_any _).mono ?_; rintro e wq ⟨rfl, hx⟩; replace hx := Ext.trans (a := W3) (by repeat (first | (with_reducible exact Ext.refl _) | (with_reducible exact ExtOf.ext _) | (with_reducible assumption) | (with_reducible refine Ext.drew ?_) | (with_reducible refine Ext.alloc ?_ _))) hx; obtain ⟨uq, rfl⟩ : ∃ u : ExtOf W3, wq = u.1 := ⟨⟨wq, hx⟩, rfl⟩; clear hx; go_wp2_with fail)
  go_ret
  exact ⟨rfl, HX.out.trans (ExtOf.ext _)⟩
theorem walkLists_fin {v0 v1 v3 : Value} {p q : Int} {w : World} (h0 : IsWords w v0) (h1 : IsSpan v1) (h2 : (Lit.int .i64 p).wf = true) (h3 : IsInts w v3) (h4 : (Lit.int .i64 q).wf = true) :
    Calls Try.prog 4 #[v0, v1, .int .i64 p, v3, .int .i64 q] w fun e w' => e = .returned (.bool true) ∧ Ext w w' := by
  obtain ⟨⟨A, cap, ws⟩, rfl, hl⟩ := h0
  obtain ⟨a, s, rfl, -, -⟩ := h1
  obtain ⟨⟨A2, cap2, ps⟩, rfl, hl2⟩ := h3
  have e1 := hl.wt
  have e2 := hl2.wt
  exact walkLists_any A cap ws a s p A2 cap2 ps q w hl.row hl.each (by simp only at e1; omega) hl2.row (by simp only at e2; omega)
end Go.Proofs.Ytkcpfimhbogdcaa

