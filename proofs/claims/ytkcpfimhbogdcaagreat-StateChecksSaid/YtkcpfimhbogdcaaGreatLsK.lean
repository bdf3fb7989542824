/- The law StateChecks. -/
import Derived.Test.YtkcpfimhbogdcaaGreatMz34
import Derived.Test.YtkcpfimhbogdcaaGreatMz35
import Derived.Test.YtkcpfimhbogdcaaGreatMz36
import Derived.Test.YtkcpfimhbogdcaaGreatMz33
set_option linter.unusedSimpArgs false
set_option linter.unusedVariables false
namespace Go.Proofs.YtkcpfimhbogdcaaGreat
open Go.RowKit Go.Shelf

section
variable {c0 c1 c2 c3 : Int} {sn : Bool} {wA : Option Addr} {ws : List Int} {wc : Nat} {top : Int} {tA : Option Addr} {tb : List (Int × Int)} {tc : Nat} {fA : Option Addr} {fr : List (Int × Int)} {fc : Nat} {sA : Option Addr} {sl : List (Bool × Int × Int)} {sc : Nat}
set_option maxRecDepth 100000
set_option maxHeartbeats 2000000
theorem ref15used_any (V : World) :
    Calls Tryz.prog 14 #[.agg #[.int .i64 c0, .int .i64 c1, .int .i64 c2, .int .i64 c3, .bool sn, .slice wA ws.length wc, .int .i64 top, .slice tA tb.length tc, .slice fA fr.length fc, .slice sA sl.length sc]] V fun e w' => e = .returned (.int .i64 (usedZ c0 c1 c2 c3 sn top)) ∧ Ext V w' := by
  have hB := pers_new V #[.int .i64 c0, .int .i64 c1, .int .i64 c2, .int .i64 c3, .bool sn, .slice wA ws.length wc, .int .i64 top, .slice tA tb.length tc, .slice fA fr.length fc, .slice sA sl.length sc] 28 _ rfl
  have HX := Lib.hid ((Ext.refl V).alloc (.cells #[.int .i64 c0, .int .i64 c1, .int .i64 c2, .int .i64 c3, .bool sn, .slice wA ws.length wc, .int .i64 top, .slice tA tb.length tc, .slice fA fr.length fc, .slice sA sl.length sc] 28))
  obtain ⟨x, hx1⟩ : ∃ b, cfgB c0 c1 c2 c3 = b := ⟨_, rfl⟩
  obtain ⟨a, ha⟩ : ∃ b, halfA c0 c1 c2 c3 sn = b := ⟨_, rfl⟩
  obtain ⟨n, hn⟩ : ∃ b, halfS c0 c1 c2 c3 = b := ⟨_, rfl⟩
  obtain ⟨b1, b2, b3, b4⟩ := half_bd c0 c1 c2 c3 sn
  rw [ha] at b1 b2
  rw [hn] at b3 b4
  have HU : Hid (usedZ c0 c1 c2 c3 sn top = if x = true ∧ a ≤ top ∧ top ≤ a + n then top - a else 0) := Lib.hid (by
    simp only [usedZ, topB, hx1, ha, hn, Bool.and_eq_true, decide_eq_true_eq])
  have HA := Lib.hid ha
  have HN := Lib.hid hn
  have HC := Lib.hid hx1
  have HWR : Hid (wrap64 (a + n) = a + n) := Lib.hid (IntWalk.wrap64_in _ ⟨by omega, by omega⟩)
  have HBD := Lib.hid (And.intro b1 (And.intro b2 (And.intro b3 b4)))
  clear ha hn hx1 b1 b2 b3 b4
  go_enter Tryz.func14, Tryz.ntmps14
  go_wp2_with fail
  generalize V.alloc (.cells #[.int .i64 c0, .int .i64 c1, .int .i64 c2, .int .i64 c3, .bool sn, .slice wA ws.length wc, .int .i64 top, .slice tA tb.length tc, .slice fA fr.length fc, .slice sA sl.length sc] 28) = W at *
  generalize V.heap.size = S at *
  have gB := hB.cells
  ((first | refine at_baseC (W := W) ?_ | refine at_base (W := W) ?_); intro uq; (try go_wp2_with fail))
  (refine (reffrom_is HA.out HN.out _).mono ?_; rintro e w1 ⟨rfl, hx⟩; replace hx := Ext.trans (a := W) (by repeat (first | (with_reducible exact Ext.refl _) | (with_reducible exact ExtOf.ext _) | (with_reducible assumption) | (with_reducible refine Ext.drew ?_) | (with_reducible refine Ext.alloc ?_ _))) hx; replace hB := hB.re hx; replace HX := Lib.hid (HX.out.trans hx))
  have k1 := (cells_of hB.here).1
  have q := lt_of_heap hB.here
  clear hx gB
  go_wp2_with fail
  have hy := (Ext.refl w1).alloc (.cells #[.int .i64 a, .int .i64 n] 50)
  have hF := pers_new w1 #[.int .i64 a, .int .i64 n] 50 _ rfl
  (replace hB := hB.re hy; replace HX := Lib.hid (HX.out.trans hy))
  clear hy k1 q
  generalize w1.alloc (.cells #[.int .i64 a, .int .i64 n] 50) = W2 at *
  generalize w1.heap.size = F at *
  have gB := hB.cells
  have gF := hF.cells
  cases x
  · have HR : Hid (usedZ c0 c1 c2 c3 sn top = 0) := Lib.hid (by rw [HU.out]; simp)
    ((first | refine at_baseC (W := W2) ?_ | refine at_base (W := W2) ?_); intro uq; (try go_wp2_with fail))
    (refine (refcheckZ_is HC.out _).mono ?_; rintro e wq ⟨rfl, hx⟩; replace hx := Ext.trans (a := W2) (by repeat (first | (with_reducible exact Ext.refl _) | (with_reducible exact ExtOf.ext _) | (with_reducible assumption) | (with_reducible refine Ext.drew ?_) | (with_reducible refine Ext.alloc ?_ _))) hx; obtain ⟨uq, rfl⟩ : ∃ u : ExtOf W2, wq = u.1 := ⟨⟨wq, hx⟩, rfl⟩; clear hx; go_wp2_with fail)
    go_ret
    exact ⟨ret_int HR.out.symm, HX.out.trans (ExtOf.ext _)⟩
  have hwr := HWR.out
  by_cases t1 : top < a
  · have d1 : decide (top < a) = true := by simpa using t1
    have HR : Hid (usedZ c0 c1 c2 c3 sn top = 0) := Lib.hid (by rw [HU.out, if_neg (by omega)])
    clear t1
    ((first | refine at_baseC (W := W2) ?_ | refine at_base (W := W2) ?_); intro uq; (try go_wp2_with fail))
    (refine (refcheckZ_is HC.out _).mono ?_; rintro e wq ⟨rfl, hx⟩; replace hx := Ext.trans (a := W2) (by repeat (first | (with_reducible exact Ext.refl _) | (with_reducible exact ExtOf.ext _) | (with_reducible assumption) | (with_reducible refine Ext.drew ?_) | (with_reducible refine Ext.alloc ?_ _))) hx; obtain ⟨uq, rfl⟩ : ∃ u : ExtOf W2, wq = u.1 := ⟨⟨wq, hx⟩, rfl⟩; clear hx; go_wp2_with fail)
    go_ret
    exact ⟨ret_int HR.out.symm, HX.out.trans (ExtOf.ext _)⟩
  have d1 : decide (top < a) = false := by simpa using t1
  by_cases t2 : a + n < top
  · have d2 : decide (a + n < top) = true := by simpa using t2
    have HR : Hid (usedZ c0 c1 c2 c3 sn top = 0) := Lib.hid (by rw [HU.out, if_neg (by omega)])
    clear t1 t2
    ((first | refine at_baseC (W := W2) ?_ | refine at_base (W := W2) ?_); intro uq; (try go_wp2_with fail))
    (refine (refcheckZ_is HC.out _).mono ?_; rintro e wq ⟨rfl, hx⟩; replace hx := Ext.trans (a := W2) (by repeat (first | (with_reducible exact Ext.refl _) | (with_reducible exact ExtOf.ext _) | (with_reducible assumption) | (with_reducible refine Ext.drew ?_) | (with_reducible refine Ext.alloc ?_ _))) hx; obtain ⟨uq, rfl⟩ : ∃ u : ExtOf W2, wq = u.1 := ⟨⟨wq, hx⟩, rfl⟩; clear hx; go_wp2_with fail)
    go_ret
    exact ⟨ret_int HR.out.symm, HX.out.trans (ExtOf.ext _)⟩
  have d2 : decide (a + n < top) = false := by simpa using t2
  have HR : Hid (usedZ c0 c1 c2 c3 sn top = top - a) := Lib.hid (by rw [HU.out, if_pos ⟨rfl, by omega, by omega⟩])
  have hw2 : wrap64 (top - a) = top - a := IntWalk.wrap64_in _ (by have := HBD.out; omega)
  clear t1 t2
  ((first | refine at_baseC (W := W2) ?_ | refine at_base (W := W2) ?_); intro uq; (try go_wp2_with fail))
  (refine (refcheckZ_is HC.out _).mono ?_; rintro e wq ⟨rfl, hx⟩; replace hx := Ext.trans (a := W2) (by repeat (first | (with_reducible exact Ext.refl _) | (with_reducible exact ExtOf.ext _) | (with_reducible assumption) | (with_reducible refine Ext.drew ?_) | (with_reducible refine Ext.alloc ?_ _))) hx; obtain ⟨uq, rfl⟩ : ∃ u : ExtOf W2, wq = u.1 := ⟨⟨wq, hx⟩, rfl⟩; clear hx; go_wp2_with fail)
  go_ret
  exact ⟨ret_int (by rw [HR.out]; exact hw2), HX.out.trans (ExtOf.ext _)⟩
end
set_option maxRecDepth 100000
set_option maxHeartbeats 2000000
theorem ref15check_s (s : StD) (k : Int) (hk : checkZ s.c0 s.c1 s.c2 s.c3 s.snd s.ws s.top s.tb s.fr s.sl = k) (V : World) (h : StAt V s) (hl : StLe s) (hb : StB s) (hn : s.tA = none → s.tc = 0) : Calls Tryz.prog 11 #[.agg #[.int .i64 s.c0, .int .i64 s.c1, .int .i64 s.c2, .int .i64 s.c3, .bool s.snd, .slice s.wA s.ws.length s.wc, .int .i64 s.top, .slice s.tA s.tb.length s.tc, .slice s.fA s.fr.length s.fc, .slice s.sA s.sl.length s.sc]] V fun e w' => e = .returned (.int .i64 k) ∧ Ext V w' := by
  subst hk
  exact ref15check_any V (pers_row h.w) (pers_row h.t) (pers_row h.f) (pers_row h.s) hl.w hl.t hl.f hl.s hb.wb hb.tbb hb.sb hn
/-- What Objects comes to. -/
def ObjOf (s : StD) (zs : List Int) (er : Int) : Prop := (checkZ s.c0 s.c1 s.c2 s.c3 s.snd s.ws s.top s.tb s.fr s.sl = 0 ∧ zs = smallsL s.c0 s.c1 s.c2 s.c3 s.snd s.ws s.top ++ s.tb.map (·.1) ∧ er = 0) ∨ (checkZ s.c0 s.c1 s.c2 s.c3 s.snd s.ws s.top s.tb s.fr s.sl ≠ 0 ∧ zs = [] ∧ er = 4)
theorem stobj_u (s : StD) (zs : List Int) (n : Nat) (er : Int) (ho : ObjOf s zs er) (hn : zs.length = n) (V : World) (h : StAt V s) (hl : StLe s) (hb : StB s) :
    Calls Tryz.prog 6 #[.agg #[.int .i64 s.c0, .int .i64 s.c1, .int .i64 s.c2, .int .i64 s.c3, .bool s.snd, .slice s.wA s.ws.length s.wc, .int .i64 s.top, .slice s.tA s.tb.length s.tc, .slice s.fA s.fr.length s.fc, .slice s.sA s.sl.length s.sc]] V fun e w' => ∃ A cap, e = .returned (.tuple #[.slice A n cap, .int .i64 er]) ∧ IntsAt w' A zs ∧ Ext V w' := by
  subst hn
  refine (stobjects_any V (pers_row h.w) (pers_row h.t) (pers_row h.f) (pers_row h.s) hl.w hl.t hl.f hl.s hb.wb hb.tbb hb.sb).mono ?_
  rintro e w' (⟨h0, he, hx⟩ | ⟨h0, A, cap, he, hw, hx⟩)
  · rcases ho with ⟨h1, -, -⟩ | ⟨-, rfl, rfl⟩
    · exact absurd h1 h0
    · exact ⟨none, 0, he, RowAt.none _ _ _, hx⟩
  · rcases ho with ⟨-, rfl, rfl⟩ | ⟨h1, -, -⟩
    · exact ⟨A, cap, he, (own_row hw intCells (by decide)).1, hx⟩
    · exact absurd h0 h1
theorem refobj_u (s : StD) (zs : List Int) (n : Nat) (er : Int) (ho : ObjOf s zs er) (hn : zs.length = n) (V : World) (h : StAt V s) (hl : StLe s) (hb : StB s) (htn : s.tA = none → s.tc = 0) :
    Calls Tryz.prog 7 #[.agg #[.int .i64 s.c0, .int .i64 s.c1, .int .i64 s.c2, .int .i64 s.c3, .bool s.snd, .slice s.wA s.ws.length s.wc, .int .i64 s.top, .slice s.tA s.tb.length s.tc, .slice s.fA s.fr.length s.fc, .slice s.sA s.sl.length s.sc]] V fun e w' => ∃ A cap, e = .returned (.tuple #[.slice A n cap, .int .i64 er]) ∧ IntsAt w' A zs ∧ Ext V w' := by
  have hB := pers_new V #[.int .i64 s.c0, .int .i64 s.c1, .int .i64 s.c2, .int .i64 s.c3, .bool s.snd, .slice s.wA s.ws.length s.wc, .int .i64 s.top, .slice s.tA s.tb.length s.tc, .slice s.fA s.fr.length s.fc, .slice s.sA s.sl.length s.sc] 28 _ rfl
  have hx0 := (Ext.refl V).alloc (.cells #[.int .i64 s.c0, .int .i64 s.c1, .int .i64 s.c2, .int .i64 s.c3, .bool s.snd, .slice s.wA s.ws.length s.wc, .int .i64 s.top, .slice s.tA s.tb.length s.tc, .slice s.fA s.fr.length s.fc, .slice s.sA s.sl.length s.sc] 28)
  have H0 := h.pers.re hx0
  have HX := Lib.hid hx0
  have HL := Lib.hid hl
  have HBB := Lib.hid hb
  have HNN := Lib.hid hn
  have HTN := Lib.hid htn
  clear hx0 h hl hb hn htn
  rcases ho with ⟨h0, hz, rfl⟩ | ⟨h0, rfl, rfl⟩
  · have HK := Lib.hid h0
    have HZ := Lib.hid hz
    clear h0 hz
    go_enter Tryz.func7, Tryz.ntmps7
    go_wp2_with fail
    generalize V.alloc (.cells #[.int .i64 s.c0, .int .i64 s.c1, .int .i64 s.c2, .int .i64 s.c3, .bool s.snd, .slice s.wA s.ws.length s.wc, .int .i64 s.top, .slice s.tA s.tb.length s.tc, .slice s.fA s.fr.length s.fc, .slice s.sA s.sl.length s.sc] 28) = W at *
    generalize V.heap.size = S at *
    have gB := hB.cells
    ((first | refine at_baseC (W := W) ?_ | refine at_base (W := W) ?_); intro uq; (try go_wp2_with fail))
    (refine (ref15check_s s 0 HK.out _ (H0.at (by repeat (first | (with_reducible exact Ext.refl _) | (with_reducible exact ExtOf.ext _) | (with_reducible assumption) | (with_reducible refine Ext.drew ?_) | (with_reducible refine Ext.alloc ?_ _)))) HL.out HBB.out HTN.out).mono ?_; rintro e wq ⟨rfl, hx⟩; replace hx := Ext.trans (a := W) (by repeat (first | (with_reducible exact Ext.refl _) | (with_reducible exact ExtOf.ext _) | (with_reducible assumption) | (with_reducible refine Ext.drew ?_) | (with_reducible refine Ext.alloc ?_ _))) hx; obtain ⟨uq, rfl⟩ : ∃ u : ExtOf W, wq = u.1 := ⟨⟨wq, hx⟩, rfl⟩; clear hx; go_wp2_with fail)
    refine (ref15all_any (sc := s.sc) uq.1 (pers_row (H0.at uq.2).w) (pers_row (H0.at uq.2).t) (pers_row (H0.at uq.2).f) (pers_row (H0.at uq.2).s) HL.out.w HL.out.t HL.out.f HL.out.s HBB.out.wb HBB.out.tbb HBB.out.sb HTN.out).mono ?_
    rintro e w2 ⟨A, cap, rfl, hw, hx⟩
    have HR := Lib.hid (show IntsAt w2 A zs by rw [HZ.out]; exact (own_row hw intCells (by decide)).1)
    have HX2 := Lib.hid (HX.out.trans (uq.2.trans hx))
    rw [← HZ.out, HNN.out]
    clear hw hx
    go_wp2_with fail
    go_ret2
    exact ⟨A, cap, rfl, HR.out, HX2.out⟩
  · obtain ⟨k, hk⟩ : ∃ k, checkZ s.c0 s.c1 s.c2 s.c3 s.snd s.ws s.top s.tb s.fr s.sl = k := ⟨_, rfl⟩
    have HK := Lib.hid hk
    have q0 : (k != 0) = true := by rw [bne_iff_ne, ← hk]; exact h0
    obtain rfl : n = 0 := by have := HNN.out; simpa using this.symm
    clear h0 hk
    go_enter Tryz.func7, Tryz.ntmps7
    go_wp2_with fail
    generalize V.alloc (.cells #[.int .i64 s.c0, .int .i64 s.c1, .int .i64 s.c2, .int .i64 s.c3, .bool s.snd, .slice s.wA s.ws.length s.wc, .int .i64 s.top, .slice s.tA s.tb.length s.tc, .slice s.fA s.fr.length s.fc, .slice s.sA s.sl.length s.sc] 28) = W at *
    generalize V.heap.size = S at *
    have gB := hB.cells
    ((first | refine at_baseC (W := W) ?_ | refine at_base (W := W) ?_); intro uq; (try go_wp2_with fail))
    (refine (ref15check_s s k HK.out _ (H0.at (by repeat (first | (with_reducible exact Ext.refl _) | (with_reducible exact ExtOf.ext _) | (with_reducible assumption) | (with_reducible refine Ext.drew ?_) | (with_reducible refine Ext.alloc ?_ _)))) HL.out HBB.out HTN.out).mono ?_; rintro e wq ⟨rfl, hx⟩; replace hx := Ext.trans (a := W) (by repeat (first | (with_reducible exact Ext.refl _) | (with_reducible exact ExtOf.ext _) | (with_reducible assumption) | (with_reducible refine Ext.drew ?_) | (with_reducible refine Ext.alloc ?_ _))) hx; obtain ⟨uq, rfl⟩ : ∃ u : ExtOf W, wq = u.1 := ⟨⟨wq, hx⟩, rfl⟩; clear hx; go_wp2_with fail)
    go_ret2
    exact ⟨none, 0, rfl, RowAt.none _ _ _, HX.out.trans (ExtOf.ext _)⟩
theorem largeK_s (s : StD) (b : Bool) (hb : bigB s.ws.length s.tb.length s.fr.length s.sl.length = b) (V : World) (h : StOk s) : Calls Tryz.prog 4 #[.agg #[.int .i64 s.c0, .int .i64 s.c1, .int .i64 s.c2, .int .i64 s.c3, .bool s.snd, .slice s.wA s.ws.length s.wc, .int .i64 s.top, .slice s.tA s.tb.length s.tc, .slice s.fA s.fr.length s.fc, .slice s.sA s.sl.length s.sc]] V fun e w' => e = .returned (.bool b) ∧ Ext V w' := by
  subst hb
  exact large15_any V h.lw h.lt h.lf h.ls
theorem StLe.smallK {s : StD} (h : bigB s.ws.length s.tb.length s.fr.length s.sl.length = false) : StLe s := by
  simp only [bigB, decide_eq_false_iff_not] at h
  exact ⟨by omega, by omega, by omega, by omega⟩
theorem StOk.bK {s : StD} (h : StOk s) : StB s := ⟨h.wb, fun x hx => (h.tbb x hx).1, fun x hx => (h.sb x hx).2⟩
theorem stheadK_s (s : StD) (i : Int) (hd : Hd) (er : Int) (h1 : headH (some s.ws) i = hd) (h2 : headE (some s.ws) i = er) (V : World) (h : StAt V s) (hl : StLe s) (hb : StB s) (hi : -9223372036854775808 ≤ i ∧ i ≤ 9223372036854775807) :
    Calls Tryz.prog 8 #[.agg #[.int .i64 s.c0, .int .i64 s.c1, .int .i64 s.c2, .int .i64 s.c3, .bool s.snd, .slice s.wA s.ws.length s.wc, .int .i64 s.top, .slice s.tA s.tb.length s.tc, .slice s.fA s.fr.length s.fc, .slice s.sA s.sl.length s.sc], .int .i64 i] V fun e w' => e = .returned (.tuple #[.agg #[.int .i64 hd.k, .int .i64 hd.f, .int .i64 hd.r, .bool hd.m, .int .i64 hd.c], .int .i64 er]) ∧ Ext V w' := by
  subst h1 h2
  exact sthead_any V i (pers_row h.w) hl.w hb.wb hi
theorem stusedK_s (s : StD) (k : Int) (hk : usedZ s.c0 s.c1 s.c2 s.c3 s.snd s.top = k) (V : World) : Calls Tryz.prog 13 #[.agg #[.int .i64 s.c0, .int .i64 s.c1, .int .i64 s.c2, .int .i64 s.c3, .bool s.snd, .slice s.wA s.ws.length s.wc, .int .i64 s.top, .slice s.tA s.tb.length s.tc, .slice s.fA s.fr.length s.fc, .slice s.sA s.sl.length s.sc]] V fun e w' => e = .returned (.int .i64 k) ∧ Ext V w' := by
  subst hk; exact stused_any V
theorem refusedK_s (s : StD) (k : Int) (hk : usedZ s.c0 s.c1 s.c2 s.c3 s.snd s.top = k) (V : World) : Calls Tryz.prog 14 #[.agg #[.int .i64 s.c0, .int .i64 s.c1, .int .i64 s.c2, .int .i64 s.c3, .bool s.snd, .slice s.wA s.ws.length s.wc, .int .i64 s.top, .slice s.tA s.tb.length s.tc, .slice s.fA s.fr.length s.fc, .slice s.sA s.sl.length s.sc]] V fun e w' => e = .returned (.int .i64 k) ∧ Ext V w' := by
  subst hk; exact ref15used_any V
theorem stateChecks_any (s : StD) (p : Int) (V : World) (h : StAt V s) (hok : StOk s) (hp : -9223372036854775808 ≤ p ∧ p ≤ 9223372036854775807) :
    Calls Tryz.prog 3 #[.agg #[.int .i64 s.c0, .int .i64 s.c1, .int .i64 s.c2, .int .i64 s.c3, .bool s.snd, .slice s.wA s.ws.length s.wc, .int .i64 s.top, .slice s.tA s.tb.length s.tc, .slice s.fA s.fr.length s.fc, .slice s.sA s.sl.length s.sc], .int .i64 p] V fun e w' => e = .returned (.bool true) ∧ Ext V w' := by
  have hB := pers_new V #[.int .i64 s.c0, .int .i64 s.c1, .int .i64 s.c2, .int .i64 s.c3, .bool s.snd, .slice s.wA s.ws.length s.wc, .int .i64 s.top, .slice s.tA s.tb.length s.tc, .slice s.fA s.fr.length s.fc, .slice s.sA s.sl.length s.sc] 28 _ rfl
  have hx0 := (Ext.refl V).alloc (.cells #[.int .i64 s.c0, .int .i64 s.c1, .int .i64 s.c2, .int .i64 s.c3, .bool s.snd, .slice s.wA s.ws.length s.wc, .int .i64 s.top, .slice s.tA s.tb.length s.tc, .slice s.fA s.fr.length s.fc, .slice s.sA s.sl.length s.sc] 28)
  have H0 := h.pers.re hx0
  have HX := Lib.hid hx0
  have HOK := Lib.hid hok
  have HP := Lib.hid hp
  clear hx0 h hok hp
  go_enter Tryz.func3, Tryz.ntmps3
  go_wp2_with fail
  generalize V.alloc (.cells #[.int .i64 s.c0, .int .i64 s.c1, .int .i64 s.c2, .int .i64 s.c3, .bool s.snd, .slice s.wA s.ws.length s.wc, .int .i64 s.top, .slice s.tA s.tb.length s.tc, .slice s.fA s.fr.length s.fc, .slice s.sA s.sl.length s.sc] 28) = W at *
  generalize V.heap.size = S at *
  have gB := hB.cells
  obtain ⟨b, hb⟩ : ∃ b, bigB s.ws.length s.tb.length s.fr.length s.sl.length = b := ⟨_, rfl⟩
  have HBG := Lib.hid hb
  clear hb
  cases b
  rotate_left
  · ((first | refine at_baseC (W := W) ?_ | refine at_base (W := W) ?_); intro uq; (try go_wp2_with fail))
    (refine (largeK_s s true HBG.out _ HOK.out).mono ?_; rintro e wq ⟨rfl, hx⟩; replace hx := Ext.trans (a := W) (by repeat (first | (with_reducible exact Ext.refl _) | (with_reducible exact ExtOf.ext _) | (with_reducible assumption) | (with_reducible refine Ext.drew ?_) | (with_reducible refine Ext.alloc ?_ _))) hx; obtain ⟨uq, rfl⟩ : ∃ u : ExtOf W, wq = u.1 := ⟨⟨wq, hx⟩, rfl⟩; clear hx; go_wp2_with fail)
    (refine (awake15_any _).mono ?_; rintro e wq ⟨rfl, hx⟩; replace hx := Ext.trans (a := W) (by repeat (first | (with_reducible exact Ext.refl _) | (with_reducible exact ExtOf.ext _) | (with_reducible assumption) | (with_reducible refine Ext.drew ?_) | (with_reducible refine Ext.alloc ?_ _))) hx; obtain ⟨uq, rfl⟩ : ∃ u : ExtOf W, wq = u.1 := ⟨⟨wq, hx⟩, rfl⟩; clear hx; go_wp2_with fail)
    go_ret
    exact ⟨rfl, HX.out.trans (ExtOf.ext _)⟩
  have HLE := Lib.hid (StLe.smallK HBG.out)
  have HSB := Lib.hid HOK.out.bK
  obtain ⟨k, hk⟩ : ∃ k, checkZ s.c0 s.c1 s.c2 s.c3 s.snd s.ws s.top s.tb s.fr s.sl = k := ⟨_, rfl⟩
  have HK := Lib.hid hk
  have hob : ∃ zs er, ObjOf s zs er := by
    by_cases h0 : k = 0
    · exact ⟨_, _, .inl ⟨hk.trans h0, rfl, rfl⟩⟩
    · exact ⟨_, _, .inr ⟨by rw [hk]; exact h0, rfl, rfl⟩⟩
  obtain ⟨zs, er, ho⟩ := hob
  have hzl : zs.length ≤ 9223372036854775807 := by
    rcases ho with ⟨-, rfl, -⟩ | ⟨-, rfl, -⟩
    · have h1 := list_len (some s.ws) (halfA s.c0 s.c1 s.c2 s.c3 s.snd) (halfS s.c0 s.c1 s.c2 s.c3) s.top
      have h2 := HLE.out.t
      rw [List.length_append, List.length_map]
      unfold smallsL
      omega
    · simp
  have HOB := Lib.hid ho
  have HZL := Lib.hid hzl
  obtain ⟨n, hn⟩ : ∃ n, zs.length = n := ⟨_, rfl⟩
  have HNN := Lib.hid hn
  have HNL := Lib.hid (show n ≤ 9223372036854775807 by omega)
  obtain ⟨hd, hh⟩ : ∃ h, headH (some s.ws) p = h := ⟨_, rfl⟩
  obtain ⟨e2, he⟩ : ∃ h, headE (some s.ws) p = h := ⟨_, rfl⟩
  have HH := Lib.hid hh
  have HE := Lib.hid he
  obtain ⟨u, hu⟩ : ∃ h, usedZ s.c0 s.c1 s.c2 s.c3 s.snd s.top = h := ⟨_, rfl⟩
  have HU := Lib.hid hu
  clear hk ho hzl hn hh he hu
  ((first | refine at_baseC (W := W) ?_ | refine at_base (W := W) ?_); intro uq; (try go_wp2_with fail))
  (refine (largeK_s s false HBG.out _ HOK.out).mono ?_; rintro e wq ⟨rfl, hx⟩; replace hx := Ext.trans (a := W) (by repeat (first | (with_reducible exact Ext.refl _) | (with_reducible exact ExtOf.ext _) | (with_reducible assumption) | (with_reducible refine Ext.drew ?_) | (with_reducible refine Ext.alloc ?_ _))) hx; obtain ⟨uq, rfl⟩ : ∃ u : ExtOf W, wq = u.1 := ⟨⟨wq, hx⟩, rfl⟩; clear hx; go_wp2_with fail)
  (refine (stobj_u s zs n er HOB.out HNN.out _ (H0.at (by repeat (first | (with_reducible exact Ext.refl _) | (with_reducible exact ExtOf.ext _) | (with_reducible assumption) | (with_reducible refine Ext.drew ?_) | (with_reducible refine Ext.alloc ?_ _)))) HLE.out HSB.out).mono ?_; rintro e w1 ⟨A1, cap1, rfl, hl, hx⟩; replace hx := Ext.trans (a := W) (by repeat (first | (with_reducible exact Ext.refl _) | (with_reducible exact ExtOf.ext _) | (with_reducible assumption) | (with_reducible refine Ext.drew ?_) | (with_reducible refine Ext.alloc ?_ _))) hx; replace hB := hB.re hx; replace H0 := H0.re hx; replace HX := Lib.hid (HX.out.trans hx))
  have HL1 := pers_row hl
  clear hl hx gB
  have gB := hB.cells
  ((first | refine at_baseC (W := w1) ?_ | refine at_base (W := w1) ?_); intro uq; (try go_wp2_with fail))
  (refine (refobj_u s zs n er HOB.out HNN.out _ (H0.at (by repeat (first | (with_reducible exact Ext.refl _) | (with_reducible exact ExtOf.ext _) | (with_reducible assumption) | (with_reducible refine Ext.drew ?_) | (with_reducible refine Ext.alloc ?_ _)))) HLE.out HSB.out HOK.out.tn).mono ?_; rintro e w2 ⟨A2, cap2, rfl, hl, hx⟩; replace hx := Ext.trans (a := w1) (by repeat (first | (with_reducible exact Ext.refl _) | (with_reducible exact ExtOf.ext _) | (with_reducible assumption) | (with_reducible refine Ext.drew ?_) | (with_reducible refine Ext.alloc ?_ _))) hx; replace hB := hB.re hx; replace H0 := H0.re hx; replace HX := Lib.hid (HX.out.trans hx); replace HL1 := HL1.re hx)
  have HL2 := pers_row hl
  clear hl hx gB
  have gB := hB.cells
  ((first | refine at_baseC (W := w2) ?_ | refine at_base (W := w2) ?_); intro uq; (try go_wp2_with fail))
  (refine (stheadK_s s p hd e2 HH.out HE.out _ (H0.at (by repeat (first | (with_reducible exact Ext.refl _) | (with_reducible exact ExtOf.ext _) | (with_reducible assumption) | (with_reducible refine Ext.drew ?_) | (with_reducible refine Ext.alloc ?_ _)))) HLE.out HSB.out HP.out).mono ?_; rintro e w3 ⟨rfl, hx⟩; replace hx := Ext.trans (a := w2) (by repeat (first | (with_reducible exact Ext.refl _) | (with_reducible exact ExtOf.ext _) | (with_reducible assumption) | (with_reducible refine Ext.drew ?_) | (with_reducible refine Ext.alloc ?_ _))) hx; replace hB := hB.re hx; replace H0 := H0.re hx; replace HX := Lib.hid (HX.out.trans hx); replace HL1 := HL1.re hx; replace HL2 := HL2.re hx)
  clear hx gB
  have k1 := (cells_of hB.here).1
  have q := lt_of_heap hB.here
  go_wp2_with fail
  have hy := (Ext.refl w3).alloc (.cells #[.int .i64 hd.k, .int .i64 hd.f, .int .i64 hd.r, .bool hd.m, .int .i64 hd.c] 36)
  have hH1 := pers_new w3 #[.int .i64 hd.k, .int .i64 hd.f, .int .i64 hd.r, .bool hd.m, .int .i64 hd.c] 36 _ rfl
  (replace hB := hB.re hy; replace H0 := H0.re hy; replace HX := Lib.hid (HX.out.trans hy); replace HL1 := HL1.re hy; replace HL2 := HL2.re hy)
  clear hy k1 q
  generalize w3.alloc (.cells #[.int .i64 hd.k, .int .i64 hd.f, .int .i64 hd.r, .bool hd.m, .int .i64 hd.c] 36) = W4 at *
  generalize w3.heap.size = Y1 at *
  refine (refhead_is s.wA s.wc s.ws p e2 hd HE.out HH.out W4 H0.here.w HLE.out.w HSB.out.wb HP.out).mono ?_
  rintro e w5 ⟨rfl, hx⟩
  (replace hB := hB.re hx; replace H0 := H0.re hx; replace HX := Lib.hid (HX.out.trans hx); replace HL1 := HL1.re hx; replace HL2 := HL2.re hx; replace hH1 := hH1.re hx)
  clear hx
  go_wp2_with fail
  have hy := (Ext.refl w5).alloc (.cells #[.int .i64 hd.k, .int .i64 hd.f, .int .i64 hd.r, .bool hd.m, .int .i64 hd.c] 36)
  have hH2 := pers_new w5 #[.int .i64 hd.k, .int .i64 hd.f, .int .i64 hd.r, .bool hd.m, .int .i64 hd.c] 36 _ rfl
  (replace hB := hB.re hy; replace H0 := H0.re hy; replace HX := Lib.hid (HX.out.trans hy); replace HL1 := HL1.re hy; replace HL2 := HL2.re hy; replace hH1 := hH1.re hy)
  clear hy
  generalize w5.alloc (.cells #[.int .i64 hd.k, .int .i64 hd.f, .int .i64 hd.r, .bool hd.m, .int .i64 hd.c] 36) = W6 at *
  generalize w5.heap.size = Y2 at *
  have gB := hB.cells
  have g1 := hH1.cells
  have g2 := hH2.cells
  have hx6 := Ext.refl W6
  (refine wp_region_ext (W := W6) (by kernel_rfl) (by kernel_rfl) (by with_reducible assumption) ?_; (repeat (go_big_quiet_step (first | (go_at_call 10; with_reducible exact Calls.ext_of (stcheck_s s k HK.out _ (H0.at (by repeat (first | (with_reducible exact Ext.refl _) | (with_reducible exact ExtOf.ext _) | (with_reducible assumption) | (with_reducible refine Ext.drew ?_) | (with_reducible refine Ext.alloc ?_ _)))) HLE.out HSB.out)) | (go_at_call 11; with_reducible exact Calls.ext_of (ref15check_s s k HK.out _ (H0.at (by repeat (first | (with_reducible exact Ext.refl _) | (with_reducible exact ExtOf.ext _) | (with_reducible assumption) | (with_reducible refine Ext.drew ?_) | (with_reducible refine Ext.alloc ?_ _)))) HLE.out HSB.out HOK.out.tn)) | (go_at_call 12; with_reducible exact Calls.ext_of (ints_is A1 A2 cap1 cap2 zs zs n n true HNN.out HNN.out (by simp) _ HNL.out HNL.out (HL1.at (by repeat (first | (with_reducible exact Ext.refl _) | (with_reducible exact ExtOf.ext _) | (with_reducible assumption) | (with_reducible refine Ext.drew ?_) | (with_reducible refine Ext.alloc ?_ _)))) (HL2.at (by repeat (first | (with_reducible exact Ext.refl _) | (with_reducible exact ExtOf.ext _) | (with_reducible assumption) | (with_reducible refine Ext.drew ?_) | (with_reducible refine Ext.alloc ?_ _)))))) | (go_at_call 13; with_reducible exact Calls.ext_of (stusedK_s s u HU.out _)) | (go_at_call 14; with_reducible exact Calls.ext_of (refusedK_s s u HU.out _)) | (go_at_call 5; with_reducible exact Calls.ext_of (awake15_any _))))); refine wpQuiet_nil ?_; intro w1 hx)
  (obtain ⟨uq, rfl⟩ : ∃ u : ExtOf W6, w1 = u.1 := ⟨⟨w1, hx⟩, rfl⟩; clear hx; go_wp2_with fail)
  go_ret
  exact ⟨rfl, HX.out.trans (ExtOf.ext _)⟩
theorem stateChecks_fin {v0 : Value} {p : Int} {w : World} (h0 : IsState w v0) (h1 : (Lit.int .i64 p).wf = true) : Calls Tryz.prog 3 #[v0, .int .i64 p] w fun e w' => e = .returned (.bool true) ∧ Ext w w' := by
  obtain ⟨s, rfl, hs, hok⟩ := h0
  exact stateChecks_any s p w hs hok (i64_bd h1)
end Go.Proofs.YtkcpfimhbogdcaaGreat
