/- Merged by program (merge.py) out of: ThA, ThB, ThC, ThD. -/
import Derived.Test.YtkcpfimhbogdcaaMo9
import Derived.Test.YtkcpfimhbogdcaaMo10
import Derived.Test.YtkcpfimhbogdcaaMo15
import Derived.Test.YtkcpfimhbogdcaaMo21
import Derived.Test.YtkcpfimhbogdcaaMo7
import Derived.Test.YtkcpfimhbogdcaaMo4
/- An object's header is exchanged: object.SetHead. -/
set_option linter.unusedSimpArgs false
set_option linter.unusedVariables false
namespace Go.Proofs.Ytkcpfimhbogdcaa
open Go.RowKit Go.Shelf

def osetE (ws : List Int) (i : Int) (h : Hd) : Int := if headE (some ws) i = 0 then (if hmayB h = true ∧ hsize (headH (some ws) i) = hsize h then 0 else 1) else headE (some ws) i
def osetL (ws : List Int) (i : Int) (h : Hd) : List Int := if osetE ws i h = 0 then ws.set i.toNat (hwordN h) else ws
theorem headE_at {l : Option (List Int)} {i : Int} (h : headE l i = 0) : atA l i = 0 := by
  unfold headE at h
  split at h
  · assumption
  · exact h
set_option maxRecDepth 100000
set_option maxHeartbeats 1000000
theorem osethead_any (b : Nat) (A : Option Addr) (cap : Nat) (ws : List Int) (i : Int) (h : Hd) (Bo : Nat) (V : World) (hA : ArO Bo V b A cap ws) (hi : -9223372036854775808 ≤ i ∧ i ≤ 9223372036854775807) :
    Calls Try.prog 106 #[.pointer (some ⟨b, 0, none⟩), .int .i64 i, .agg #[.int .i64 h.k, .int .i64 h.f, .int .i64 h.r, .bool h.m, .int .i64 h.c]] V fun e w' => e = .returned (.int .i64 (osetE ws i h)) ∧ ArO Bo w' b A cap (osetL ws i h) ∧ V.grownBy w' (Value.slice A ws.length cap).ownBlock := by
  have hS := pers_new V #[.int .i64 h.k, .int .i64 h.f, .int .i64 h.r, .bool h.m, .int .i64 h.c] 47 _ rfl
  have hx0 := (Ext.refl V).alloc (.cells #[.int .i64 h.k, .int .i64 h.f, .int .i64 h.r, .bool h.m, .int .i64 h.c] 47)
  have HAR : Pers (V.alloc (.cells #[.int .i64 h.k, .int .i64 h.f, .int .i64 h.r, .bool h.m, .int .i64 h.c] 47)) (fun w => ArO Bo w b A cap ws) := fun w k => hA.ext (hx0.trans k)
  have HX := Lib.hid hx0
  have HI := Lib.hid hi
  obtain ⟨er, her⟩ : ∃ e, headE (some ws) i = e := ⟨_, rfl⟩
  obtain ⟨o, ho⟩ : ∃ e, headH (some ws) i = e := ⟨_, rfl⟩
  obtain ⟨n, hn⟩ : ∃ e, hsize h = e := ⟨_, rfl⟩
  obtain ⟨m, hm⟩ : ∃ e, hsize o = e := ⟨_, rfl⟩
  have HS : Hid (osetE ws i h = if er = 0 then (if hmayB h = true ∧ m = n then 0 else 1) else er) := Lib.hid (by simp only [osetE, her, ho, hn, hm])
  have HE := Lib.hid her
  have HO := Lib.hid ho
  have HN := Lib.hid hn
  have HM := Lib.hid hm
  clear hx0 hi her ho hn hm hA
  go_enter Try.func106, Try.ntmps106
  go_wp2_with fail
  generalize V.alloc (.cells #[.int .i64 h.k, .int .i64 h.f, .int .i64 h.r, .bool h.m, .int .i64 h.c] 47) = W at *
  generalize V.heap.size = S at *
  refine (ohead_is (some ⟨b, 0, none⟩) (some ws) i o er HO.out HE.out W HAR.here.p HI.out).mono ?_
  rintro e w1 ⟨rfl, hx⟩
  (replace hS := hS.re hx; replace HAR := HAR.re hx; replace HX := Lib.hid (HX.out.trans hx))
  clear hx
  by_cases h0 : er = 0
  rotate_left
  · have q0 : (er != 0) = true := by rw [bne_iff_ne]; exact h0
    have HR := Lib.hid (HS.out.trans (if_neg h0))
    clear h0
    go_wp2_with fail
    go_ret
    exact ⟨ret_int HR.out.symm, by rw [osetL, HR.out]; have q1 : er ≠ 0 := by { rw [bne_iff_ne] at q0; exact q0 }; rw [if_neg q1]; exact HAR.at ((Ext.refl _).alloc _), grown_of (HX.out.alloc _)⟩
  subst h0
  replace HS := Lib.hid (HS.out.trans (if_pos rfl))
  have k1 := (cells_of hS.here).1
  have q := lt_of_heap hS.here
  go_wp2_with fail
  have hy := (Ext.refl w1).alloc (.cells #[.int .i64 o.k, .int .i64 o.f, .int .i64 o.r, .bool o.m, .int .i64 o.c] 47)
  have hY := pers_new w1 #[.int .i64 o.k, .int .i64 o.f, .int .i64 o.r, .bool o.m, .int .i64 o.c] 47 _ rfl
  (replace hS := hS.re hy; replace HAR := HAR.re hy; replace HX := Lib.hid (HX.out.trans hy))
  clear hy k1 q
  generalize w1.alloc (.cells #[.int .i64 o.k, .int .i64 o.f, .int .i64 o.r, .bool o.m, .int .i64 o.c] 47) = W2 at *
  generalize w1.heap.size = Y at *
  have gS := hS.cells
  have gY := hY.cells
  cases hmb : hmayB h
  · have HZ : Hid (hwordZ h = 0 ∧ herrZ h = 1) := Lib.hid (by simp [hwordZ, herrZ, hmb])
    have HR : Hid (osetE ws i h = 1) := Lib.hid (by rw [HS.out, hmb]; simp)
    clear hmb
    have Z := henc_any h W2
    rw [HZ.out.1, HZ.out.2] at Z
    refine Z.mono ?_
    clear Z
    rintro e w3 ⟨rfl, hx⟩
    (replace hS := hS.re hx; replace hY := hY.re hx; replace HAR := HAR.re hx; replace HX := Lib.hid (HX.out.trans hx))
    clear hx gS gY
    have gS := hS.cells
    have gY := hY.cells
    ((first | refine at_baseC (W := w3) ?_ | refine at_base (W := w3) ?_); intro uq; (try go_wp2_with fail))
    have hx3 := uq.2
    (refine wp_region_ext (W := w3) (by kernel_rfl) (by kernel_rfl) (by with_reducible assumption) ?_; (repeat (go_big_quiet_step (fail))); refine wpQuiet_nil ?_; intro w1 hx)
    (obtain ⟨uq, rfl⟩ : ∃ u : ExtOf w3, w1 = u.1 := ⟨⟨w1, hx⟩, rfl⟩; clear hx; go_wp2_with fail)
    go_ret
    exact ⟨ret_int HR.out.symm, by rw [osetL, HR.out, if_neg (by decide)]; exact HAR.at uq.2, grown_of (HX.out.trans uq.2)⟩
  have HZ : Hid (hwordZ h = (hwordN h : Int) ∧ herrZ h = 0) := Lib.hid (by simp [hwordZ, herrZ, hmb])
  have HWB := Lib.hid (hword_lt h hmb)
  have HMB := Lib.hid hmb
  clear hmb
  have Z := henc_any h W2
  rw [HZ.out.1, HZ.out.2] at Z
  refine Z.mono ?_
  clear Z
  rintro e w3 ⟨rfl, hx⟩
  (replace hS := hS.re hx; replace hY := hY.re hx; replace HAR := HAR.re hx; replace HX := Lib.hid (HX.out.trans hx))
  clear hx gS gY
  have gS := hS.cells
  have gY := hY.cells
  by_cases h1 : m = n
  rotate_left
  · have q1 : (m != n) = true := by rw [bne_iff_ne]; exact h1
    have HR : Hid (osetE ws i h = 1) := Lib.hid (by rw [HS.out, if_neg (fun hh => h1 hh.2)])
    clear h1
    ((first | refine at_baseC (W := w3) ?_ | refine at_base (W := w3) ?_); intro uq; (try go_wp2_with fail))
    have hx3 := uq.2
    (refine wp_region_ext (W := w3) (by kernel_rfl) (by kernel_rfl) (by with_reducible assumption) ?_; (repeat (go_big_quiet_step (first | (go_at_call 70; with_reducible exact Calls.ext_of (hsize_is o m HM.out _)) | (go_at_call 70; with_reducible exact Calls.ext_of (hsize_is h n HN.out _))))); refine wpQuiet_nil ?_; intro w1 hx)
    (obtain ⟨uq, rfl⟩ : ∃ u : ExtOf w3, w1 = u.1 := ⟨⟨w1, hx⟩, rfl⟩; clear hx; go_wp2_with fail)
    go_ret
    exact ⟨ret_int HR.out.symm, by rw [osetL, HR.out, if_neg (by decide)]; exact HAR.at uq.2, grown_of (HX.out.trans uq.2)⟩
  have q1 : (m != n) = false := by rw [bne_eq_false_iff_eq]; exact h1
  have HR : Hid (osetE ws i h = 0) := Lib.hid (by rw [HS.out, if_pos ⟨HMB.out, h1⟩])
  have HAT := Lib.hid (headE_at HE.out)
  have HL : Hid (osetL ws i h = ws.set i.toNat (hwordN h)) := Lib.hid (by rw [osetL, if_pos HR.out])
  clear h1
  ((first | refine at_baseC (W := w3) ?_ | refine at_base (W := w3) ?_); intro uq; (try go_wp2_with fail))
  have hx3 := uq.2
  (refine wp_region_ext (W := w3) (by kernel_rfl) (by kernel_rfl) (by with_reducible assumption) ?_; (repeat (go_big_quiet_step (first | (go_at_call 70; with_reducible exact Calls.ext_of (hsize_is o m HM.out _)) | (go_at_call 70; with_reducible exact Calls.ext_of (hsize_is h n HN.out _))))); refine wpQuiet_nil ?_; intro w1 hx)
  (obtain ⟨uq, rfl⟩ : ∃ u : ExtOf w3, w1 = u.1 := ⟨⟨w1, hx⟩, rfl⟩; clear hx; go_wp2_with fail)
  have Z := awrite_any b A cap ws i (hwordN h) Bo uq.1 (HAR.at uq.2) ⟨by omega, by have := HWB.out; omega⟩
  rw [HAT.out, wrL, if_pos HAT.out] at Z
  refine Z.mono ?_
  clear Z
  rintro e w4 ⟨rfl, ha4, hg4⟩
  have HA4 := Lib.hid ha4
  have HG4 := Lib.hid ((grown_of (ob := (Value.slice A ws.length cap).ownBlock) (HX.out.trans uq.2)).trans hg4)
  clear ha4 hg4
  go_wp2_with fail
  go_ret
  exact ⟨ret_int HR.out.symm, by rw [HL.out]; exact HA4.out, HG4.out⟩
end Go.Proofs.Ytkcpfimhbogdcaa

/- A list through headers: thread.head. -/
set_option linter.unusedSimpArgs false
set_option linter.unusedVariables false
namespace Go.Proofs.Ytkcpfimhbogdcaa
open Go.RowKit Go.Shelf

set_option maxRecDepth 100000
set_option maxHeartbeats 1000000
/-- At a number that no object has. -/
theorem thead_out (p : Value) (tA : Option Addr) (tb : List (Int × Int)) (tc : Nat) (i : Int) (h : i < 0 ∨ (tb.length : Int) ≤ i) (V : World) :
    Calls Try.prog 147 #[p, .slice tA tb.length tc, .int .i64 i] V fun e w' => e = .returned (.tuple #[.agg #[.int .i64 0, .int .i64 0, .int .i64 0, .bool false, .int .i64 0], .int .i64 2]) ∧ Ext V w' := by
  have hR := pers_new V #[.int .i64 0, .int .i64 0, .int .i64 0, .bool false, .int .i64 0] 47 _ rfl
  have HX := Lib.hid ((Ext.refl V).alloc (.cells #[.int .i64 0, .int .i64 0, .int .i64 0, .bool false, .int .i64 0] 47))
  have HVR : Hid (V.heap.size ≤ V.heap.size) := Lib.hid (Nat.le_refl _)
  by_cases h0 : i < 0
  · have d0 : decide (i < 0) = true := by simpa using h0
    clear h h0
    go_enter Try.func147, Try.ntmps147
    go_wp2_with fail
    ((try simp only [Exit.inBlock, Exit.then]); refine bodyPost_ret (v := .tuple #[.agg #[.int .i64 0, .int .i64 0, .int .i64 0, .bool false, .int .i64 0], .int .i64 2]) (by simp only [results, Try.results147]; go_simp) rfl ?_)
    exact ⟨rfl, by first | exact HX.out | exact ext5x HX.out HVR.out _ _ _ _ _⟩
  · have d0 : decide (i < 0) = false := by simpa using h0
    have d1 : decide ((tb.length : Int) ≤ i) = true := by simp; omega
    clear h h0
    go_enter Try.func147, Try.ntmps147
    go_wp2_with fail
    ((try simp only [Exit.inBlock, Exit.then]); refine bodyPost_ret (v := .tuple #[.agg #[.int .i64 0, .int .i64 0, .int .i64 0, .bool false, .int .i64 0], .int .i64 2]) (by simp only [results, Try.results147]; go_simp) rfl ?_)
    exact ⟨rfl, by first | exact HX.out | exact ext5x HX.out HVR.out _ _ _ _ _⟩
theorem thead_in (p : Option Addr) (l : Option (List Int)) (tA : Option Addr) (tb : List (Int × Int)) (tc : Nat) (k : Nat) (hk : k < tb.length) (hd : Hd) (er : Int) (h1 : headH l (tb.getD k (0, 0)).1 = hd) (h2 : headE l (tb.getD k (0, 0)).1 = er) (V : World) (hp : ArP V p l) (ht : SpansAt V tA tb)
    (hi : -9223372036854775808 ≤ (tb.getD k (0, 0)).1 ∧ (tb.getD k (0, 0)).1 ≤ 9223372036854775807) :
    Calls Try.prog 147 #[.pointer p, .slice tA tb.length tc, .int .i64 k] V fun e w' => e = .returned (.tuple #[.agg #[.int .i64 hd.k, .int .i64 hd.f, .int .i64 hd.r, .bool hd.m, .int .i64 hd.c], .int .i64 er]) ∧ Ext V w' := by
  have hx0 := (Ext.refl V).alloc (.cells #[.int .i64 0, .int .i64 0, .int .i64 0, .bool false, .int .i64 0] 47)
  have hR := pers_new V #[.int .i64 0, .int .i64 0, .int .i64 0, .bool false, .int .i64 0] 47 _ rfl
  have HX := Lib.hid hx0
  obtain ⟨R, hR0⟩ : ∃ R, V.heap.size = R := ⟨_, rfl⟩
  have HVR : Hid (V.heap.size ≤ R) := Lib.hid (by omega)
  rw [hR0] at hR
  have HP := Lib.hid (hp.ext hx0)
  have d0 : decide ((k : Int) < 0) = false := by simp
  have d1 : decide (tb.length ≤ k) = false := by simpa using hk
  obtain ⟨lb, off, rfl, hc⟩ := (ht.ext hx0).get (by omega)
  obtain ⟨j1, -⟩ := spans_cell hc hk
  have ib0 : (0 : Int) ≤ (k : Int) := by omega
  have ib1 : (k : Int) < (tb.length : Int) := by omega
  have HI := Lib.hid hi
  have HH := Lib.hid h1
  have HE := Lib.hid h2
  clear hx0 hp ht hc hi h1 h2 hk
  generalize (tb.getD k (0, 0)).1 = z at *
  go_enter Try.func147, Try.ntmps147
  go_wp2_with fail
  try simp only [hR0]
  generalize V.alloc (.cells #[.int .i64 0, .int .i64 0, .int .i64 0, .bool false, .int .i64 0] 47) = W at *
  refine (ohead_is p l z hd er HH.out HE.out W HP.out HI.out).mono ?_
  rintro e w2 ⟨rfl, hx⟩
  have HX2 := Lib.hid (HX.out.trans hx)
  have hb := (hR.re hx).here
  have k1 := (cells_of hb).1
  have f1 := (cells_of hb).2
  have q := lt_of_heap hb
  clear hx j1 hR
  go_wp2_with fail
  ((try simp only [Exit.inBlock, Exit.then]); refine bodyPost_ret (v := .tuple #[.agg #[.int .i64 hd.k, .int .i64 hd.f, .int .i64 hd.r, .bool hd.m, .int .i64 hd.c], .int .i64 er]) (by simp only [results, Try.results147]; go_simp) rfl ?_)
  exact ⟨rfl, ext5x HX2.out HVR.out _ _ _ _ _⟩
end Go.Proofs.Ytkcpfimhbogdcaa

/- A list through headers: thread.Pop. -/
set_option linter.unusedSimpArgs false
set_option linter.unusedVariables false
namespace Go.Proofs.Ytkcpfimhbogdcaa
open Go.RowKit Go.Shelf

set_option maxRecDepth 100000
set_option maxHeartbeats 1000000
/-- Nothing to take: no such object, or no header. -/
theorem tpop_out (p : Value) (tA : Option Addr) (tb : List (Int × Int)) (tc : Nat) (top : Int) (h : top < 1) (V : World) :
    Calls Try.prog 108 #[p, .slice tA tb.length tc, .int .i64 top] V fun e w' => e = .returned (.tuple #[.int .i64 0, .int .i64 0, .int .i64 2]) ∧ Ext V w' := by
  have d0 : decide (top < 1) = true := by simpa using h
  clear h
  go_enter Try.func108, Try.ntmps108
  go_wp2_with fail
  ((try simp only [Exit.inBlock, Exit.then]); refine bodyPost_ret (v := .tuple #[.int .i64 0, .int .i64 0, .int .i64 2]) (by simp only [results, Try.results108]; go_simp) rfl ?_)
  exact ⟨rfl, Ext.refl _⟩
theorem tpop_in (b : Nat) (A : Option Addr) (cap : Nat) (ws : List Int) (tA : Option Addr) (tb : List (Int × Int)) (tc : Nat) (k : Nat) (hk : k < tb.length) (hd : Hd) (Bo : Nat) (V : World) (h1 : headH (some ws) (tb.getD k (0, 0)).1 = hd) (h2 : headE (some ws) (tb.getD k (0, 0)).1 = 0) (hA : ArO Bo V b A cap ws) (ht : SpansAt V tA tb)
    (hi : -9223372036854775808 ≤ (tb.getD k (0, 0)).1 ∧ (tb.getD k (0, 0)).1 ≤ 9223372036854775807) (hlen : tb.length ≤ 4000000000000) :
    Calls Try.prog 108 #[.pointer (some ⟨b, 0, none⟩), .slice tA tb.length tc, .int .i64 (k + 1)] V fun e w' => e = .returned (.tuple #[.int .i64 hd.c, .int .i64 k, .int .i64 (osetE ws (tb.getD k (0, 0)).1 ⟨hd.k, hd.f, hd.r, hd.m, 0⟩)]) ∧ ArO Bo w' b A cap (osetL ws (tb.getD k (0, 0)).1 ⟨hd.k, hd.f, hd.r, hd.m, 0⟩) ∧ V.grownBy w' (Value.slice A ws.length cap).ownBlock := by
  have HAR : Pers V (fun w => ArO Bo w b A cap ws) := fun w k => hA.ext k
  have HT := pers_row ht
  have HK := Lib.hid hk
  have d0 : decide ((k : Int) + 1 < 1) = false := by simp; omega
  have e1 : wrap64 ((k : Int) + 1 - 1) = (k : Int) := by rw [IntWalk.wrap64_in _ ⟨by omega, by omega⟩]; omega
  have HI := Lib.hid hi
  have HH := Lib.hid h1
  have HE := Lib.hid h2
  have ZH := Lib.hid (thead_in (some ⟨b, 0, none⟩) (some ws) tA tb tc k hk hd 0 h1 h2 V HAR.here.p ht hi)
  obtain ⟨z, hz⟩ : ∃ z, (tb.getD k (0, 0)).1 = z := ⟨_, rfl⟩
  rw [hz] at HI HH HE ⊢
  have HZ := Lib.hid hz
  clear hA ht hi h1 h2 hz
  go_enter Try.func108, Try.ntmps108
  go_wp2_with fail
  refine ZH.out.mono ?_
  rintro e w1 ⟨rfl, hx⟩
  have HX := Lib.hid hx
  (replace HAR := HAR.re hx; replace HT := HT.re hx)
  clear hx
  obtain ⟨lb, off, rfl, hc⟩ := HT.here.get (by have := HK.out; omega)
  obtain ⟨j1, -⟩ := spans_cell hc HK.out
  have ib0 : (0 : Int) ≤ (k : Int) := by omega
  have ib1 : (k : Int) < (tb.length : Int) := by omega
  rw [HZ.out] at j1
  clear hc
  go_wp2_with fail
  have hB := pers_new w1 #[.int .i64 hd.k, .int .i64 hd.f, .int .i64 hd.r, .bool hd.m, .int .i64 0] 47 _ rfl
  have hy := (Ext.refl w1).alloc (.cells #[.int .i64 hd.k, .int .i64 hd.f, .int .i64 hd.r, .bool hd.m, .int .i64 0] 47)
  (replace HAR := HAR.re hy)
  replace HX := Lib.hid (HX.out.trans hy)
  replace j1 := hy.cell j1
  clear hy
  generalize w1.alloc (.cells #[.int .i64 hd.k, .int .i64 hd.f, .int .i64 hd.r, .bool hd.m, .int .i64 0] 47) = W at *
  generalize w1.heap.size = Y at *
  refine wp_region_tree (fun _ => True) [0, 1, 2, 3, 4, 5, 6, 7, 8] 6 [(9, [(10, [(11, [(12, [(13, [(14, ())])])])])]), (10, [(9, [(11, [(12, [(13, [(14, ())])])])])])] [] (by kernel_rfl) (by kernel_rfl) (by intro c a d v w h; first | exact h | (cases d <;> exact h)) trivial ?_
  simp only [opsOf, List.map_cons, List.map_nil, List.getD_cons_zero, List.getD_cons_succ]
  (repeat (go_big_quiet_step (fail)))
  refine wpQuiet_nil ?_
  have hyd := (Ext.refl W).drew
  replace j1 := hyd.cell j1
  (replace HAR := HAR.re hyd; replace hB := hB.re hyd)
  replace HX := Lib.hid (HX.out.trans hyd)
  clear hyd
  generalize W.drew = W2 at *
  have gB := (cells_of hB.here).1
  refine tr_two ?_ ?_
  all_goals
    (refine op_step (by rfl) ?_; intro K hK; go_simp; refine hK _ _ trivial ?_; clear hK K)
    refine tr_one ?_
    (refine op_step (by rfl) ?_; intro K hK; go_simp; refine hK _ _ trivial ?_; clear hK K)
    refine tr_one ?_
    (refine op_step (by rfl) ?_; intro K hK; go_simp)
    refine (osethead_any b A cap ws z ⟨hd.k, hd.f, hd.r, hd.m, 0⟩ Bo W2 HAR.here HI.out).mono ?_
    rintro e w3 ⟨rfl, ha, hg⟩
    refine hK _ _ trivial ?_
    clear hK K
    have HA3 := Lib.hid ha
    have HG3 := Lib.hid ((grown_of (ob := (Value.slice A ws.length cap).ownBlock) HX.out).trans hg)
    clear ha hg
    refine tr_one ?_
    (refine op_step (by rfl) ?_; intro K hK; go_simp; refine hK _ _ trivial ?_; clear hK K)
    refine tr_one ?_
    (refine op_step (by rfl) ?_; intro K hK; go_simp; refine hK _ _ trivial ?_; clear hK K)
    refine tr_one ?_
    (refine op_step (by rfl) ?_; intro K hK; go_simp; refine hK _ _ trivial ?_; clear hK K)
    refine tr_nil ?_
    try simp only [opsOf, List.map_cons, List.map_nil, List.getD_cons_zero, List.getD_cons_succ]
    go_wp2_with fail
    ((try simp only [Exit.inBlock, Exit.then]); refine bodyPost_ret (v := .tuple #[.int .i64 hd.c, .int .i64 k, .int .i64 (osetE ws z ⟨hd.k, hd.f, hd.r, hd.m, 0⟩)]) (by simp only [results, Try.results108]; go_simp) rfl ?_)
    exact ⟨rfl, HA3.out, HG3.out⟩
end Go.Proofs.Ytkcpfimhbogdcaa

/- A list through headers: thread.Push. -/
set_option linter.unusedSimpArgs false
set_option linter.unusedVariables false
namespace Go.Proofs.Ytkcpfimhbogdcaa
open Go.RowKit Go.Shelf

set_option maxRecDepth 100000
set_option maxHeartbeats 1000000
theorem tpush_in (b : Nat) (A : Option Addr) (cap : Nat) (ws : List Int) (tA : Option Addr) (tb : List (Int × Int)) (tc : Nat) (k : Nat) (hk : k < tb.length) (hd : Hd) (Bo : Nat) (V : World) (h1 : headH (some ws) (tb.getD k (0, 0)).1 = hd) (h2 : headE (some ws) (tb.getD k (0, 0)).1 = 0) (hA : ArO Bo V b A cap ws) (ht : SpansAt V tA tb)
    (hi : -9223372036854775808 ≤ (tb.getD k (0, 0)).1 ∧ (tb.getD k (0, 0)).1 ≤ 9223372036854775807) (hlen : tb.length ≤ 4000000000000) (top : Int) (htop : 0 ≤ top ∧ top ≤ 1048576) :
    Calls Try.prog 107 #[.pointer (some ⟨b, 0, none⟩), .slice tA tb.length tc, .int .i64 top, .int .i64 k] V fun e w' => e = .returned (.tuple #[.int .i64 (k + 1), .int .i64 (osetE ws (tb.getD k (0, 0)).1 ⟨hd.k, hd.f, hd.r, hd.m, top⟩)]) ∧ ArO Bo w' b A cap (osetL ws (tb.getD k (0, 0)).1 ⟨hd.k, hd.f, hd.r, hd.m, top⟩) ∧ V.grownBy w' (Value.slice A ws.length cap).ownBlock := by
  have HAR : Pers V (fun w => ArO Bo w b A cap ws) := fun w k => hA.ext k
  have HT := pers_row ht
  have HK := Lib.hid hk
  have d0 : decide (top < 0) = false := by simp; omega
  have d1 : decide (1048576 < top) = false := by simp; omega
  have e1 : wrap64 ((k : Int) + 1) = (k : Int) + 1 := IntWalk.wrap64_in _ ⟨by omega, by omega⟩
  have HE1 := Lib.hid e1
  clear e1
  have HI := Lib.hid hi
  have HH := Lib.hid h1
  have HE := Lib.hid h2
  have ZH := Lib.hid (thead_in (some ⟨b, 0, none⟩) (some ws) tA tb tc k hk hd 0 h1 h2 V HAR.here.p ht hi)
  obtain ⟨z, hz⟩ : ∃ z, (tb.getD k (0, 0)).1 = z := ⟨_, rfl⟩
  rw [hz] at HI HH HE ⊢
  have HZ := Lib.hid hz
  clear hA ht hi h1 h2 hz
  go_enter Try.func107, Try.ntmps107
  go_wp2_with fail
  refine ZH.out.mono ?_
  rintro e w1 ⟨rfl, hx⟩
  have HX := Lib.hid hx
  (replace HAR := HAR.re hx; replace HT := HT.re hx)
  clear hx
  obtain ⟨lb, off, rfl, hc⟩ := HT.here.get (by have := HK.out; omega)
  obtain ⟨j1, -⟩ := spans_cell hc HK.out
  have ib0 : (0 : Int) ≤ (k : Int) := by omega
  have ib1 : (k : Int) < (tb.length : Int) := by omega
  rw [HZ.out] at j1
  clear hc
  go_wp2_with fail
  have hB := pers_new w1 #[.int .i64 hd.k, .int .i64 hd.f, .int .i64 hd.r, .bool hd.m, .int .i64 top] 47 _ rfl
  have hy := (Ext.refl w1).alloc (.cells #[.int .i64 hd.k, .int .i64 hd.f, .int .i64 hd.r, .bool hd.m, .int .i64 top] 47)
  (replace HAR := HAR.re hy)
  replace HX := Lib.hid (HX.out.trans hy)
  replace j1 := hy.cell j1
  clear hy
  generalize w1.alloc (.cells #[.int .i64 hd.k, .int .i64 hd.f, .int .i64 hd.r, .bool hd.m, .int .i64 top] 47) = W at *
  generalize w1.heap.size = Y at *
  refine wp_region_tree (fun _ => True) [0, 1, 2, 3, 4, 5, 6] 5 [(7, [(8, [(9, [(10, [(11, ())])])])]), (8, [(7, [(9, [(10, [(11, ())])])])])] [] (by kernel_rfl) (by kernel_rfl) (by intro c a d v w h; first | exact h | (cases d <;> exact h)) trivial ?_
  simp only [opsOf, List.map_cons, List.map_nil, List.getD_cons_zero, List.getD_cons_succ]
  (repeat (go_big_quiet_step (fail)))
  refine wpQuiet_nil ?_
  have hyd := (Ext.refl W).drew
  replace j1 := hyd.cell j1
  (replace HAR := HAR.re hyd; replace hB := hB.re hyd)
  replace HX := Lib.hid (HX.out.trans hyd)
  clear hyd
  generalize W.drew = W2 at *
  have gB := (cells_of hB.here).1
  refine tr_two ?_ ?_
  all_goals
    (refine op_step (by rfl) ?_; intro K hK; go_simp; refine hK _ _ trivial ?_; clear hK K)
    refine tr_one ?_
    (refine op_step (by rfl) ?_; intro K hK; go_simp; refine hK _ _ trivial ?_; clear hK K)
    refine tr_one ?_
    (refine op_step (by rfl) ?_; intro K hK; go_simp)
    refine (osethead_any b A cap ws z ⟨hd.k, hd.f, hd.r, hd.m, top⟩ Bo W2 HAR.here HI.out).mono ?_
    rintro e w3 ⟨rfl, ha, hg⟩
    refine hK _ _ trivial ?_
    clear hK K
    have HA3 := Lib.hid ha
    have HG3 := Lib.hid ((grown_of (ob := (Value.slice A ws.length cap).ownBlock) HX.out).trans hg)
    clear ha hg
    refine tr_one ?_
    (refine op_step (by rfl) ?_; intro K hK; go_simp; refine hK _ _ trivial ?_; clear hK K)
    refine tr_one ?_
    (refine op_step (by rfl) ?_; intro K hK; go_simp; refine hK _ _ trivial ?_; clear hK K)
    refine tr_nil ?_
    try simp only [opsOf, List.map_cons, List.map_nil, List.getD_cons_zero, List.getD_cons_succ]
    go_wp2_with fail
    ((try simp only [Exit.inBlock, Exit.then]); refine bodyPost_ret (v := .tuple #[.int .i64 (k + 1), .int .i64 (osetE ws z ⟨hd.k, hd.f, hd.r, hd.m, top⟩)]) (by simp only [results, Try.results107]; go_simp) rfl ?_)
    exact ⟨rfl, HA3.out, HG3.out⟩
end Go.Proofs.Ytkcpfimhbogdcaa

