/- Merged by program (merge.py) out of: LsI, LsC. -/
import Derived.Test.YtkcpfimhbogdcaaMs34
import Derived.Test.YtkcpfimhbogdcaaMs30
import Derived.Test.YtkcpfimhbogdcaaMs35
import Derived.Test.YtkcpfimhbogdcaaMs4
/- The law StateIdle. -/
set_option linter.unusedSimpArgs false
set_option linter.unusedVariables false
namespace Go.Proofs.Ytkcpfimhbogdcaa
open Go.RowKit Go.Shelf

theorem large15_s (s : StD) (b : Bool) (hb : bigB s.ws.length s.tb.length s.fr.length s.sl.length = b) (V : World) (h : StOk s) : Calls Try.prog 31 #[.agg #[.int .i64 s.c0, .int .i64 s.c1, .int .i64 s.c2, .int .i64 s.c3, .bool s.snd, .slice s.wA s.ws.length s.wc, .int .i64 s.top, .slice s.tA s.tb.length s.tc, .slice s.fA s.fr.length s.fc, .slice s.sA s.sl.length s.sc]] V fun e w' => e = .returned (.bool b) ∧ Ext V w' := by
  subst hb
  exact large15_any V h.lw h.lt h.lf h.ls
theorem bigB_not {a b c d : Nat} (h : bigB a b c d = false) : a ≤ 400 ∧ b ≤ 60 ∧ c ≤ 60 ∧ d ≤ 100 := by
  simp only [bigB, decide_eq_false_iff_not] at h; omega
theorem StLe.small {s : StD} (h : bigB s.ws.length s.tb.length s.fr.length s.sl.length = false) : StLe s := by
  obtain ⟨h1, h2, h3, h4⟩ := bigB_not h
  exact ⟨by omega, by omega, by omega, by omega⟩
theorem StOk.b {s : StD} (h : StOk s) : StB s := ⟨h.wb, fun x hx => (h.tbb x hx).1, fun x hx => (h.sb x hx).2⟩
theorem stcheck_w (s : StD) (n : Nat) (hn : s.ws.length = n) (k : Int) (hk : checkZ s.c0 s.c1 s.c2 s.c3 s.snd s.ws s.top s.tb s.fr s.sl = k) (V : World) (h : StAt V s) (hl : StLe s) (hb : StB s) :
    Calls Try.prog 29 #[.agg #[.int .i64 s.c0, .int .i64 s.c1, .int .i64 s.c2, .int .i64 s.c3, .bool s.snd, .slice s.wA n s.wc, .int .i64 s.top, .slice s.tA s.tb.length s.tc, .slice s.fA s.fr.length s.fc, .slice s.sA s.sl.length s.sc]] V fun e w' => e = .returned (.int .i64 k) ∧ Ext V w' := by
  subst hn
  exact stcheck_s s k hk V h hl hb
theorem sthead_s (s : StD) (i : Int) (hd : Hd) (er : Int) (h1 : headH (some s.ws) i = hd) (h2 : headE (some s.ws) i = er) (V : World) (h : StAt V s) (hl : StLe s) (hb : StB s) (hi : -9223372036854775808 ≤ i ∧ i ≤ 9223372036854775807) :
    Calls Try.prog 35 #[.agg #[.int .i64 s.c0, .int .i64 s.c1, .int .i64 s.c2, .int .i64 s.c3, .bool s.snd, .slice s.wA s.ws.length s.wc, .int .i64 s.top, .slice s.tA s.tb.length s.tc, .slice s.fA s.fr.length s.fc, .slice s.sA s.sl.length s.sc], .int .i64 i] V fun e w' => e = .returned (.tuple #[.agg #[.int .i64 hd.k, .int .i64 hd.f, .int .i64 hd.r, .bool hd.m, .int .i64 hd.c], .int .i64 er]) ∧ Ext V w' := by
  subst h1 h2
  exact sthead_any V i (pers_row h.w) hl.w hb.wb hi
theorem stobjects_s (s : StD) (zs : List Int) (n : Nat) (hz : smallsL s.c0 s.c1 s.c2 s.c3 s.snd s.ws s.top ++ s.tb.map (·.1) = zs) (hn : zs.length = n) (hk : checkZ s.c0 s.c1 s.c2 s.c3 s.snd s.ws s.top s.tb s.fr s.sl = 0) (V : World) (h : StAt V s) (hl : StLe s) (hb : StB s) :
    Calls Try.prog 34 #[.agg #[.int .i64 s.c0, .int .i64 s.c1, .int .i64 s.c2, .int .i64 s.c3, .bool s.snd, .slice s.wA s.ws.length s.wc, .int .i64 s.top, .slice s.tA s.tb.length s.tc, .slice s.fA s.fr.length s.fc, .slice s.sA s.sl.length s.sc]] V fun e w' => ∃ A cap, e = .returned (.tuple #[.slice A n cap, .int .i64 0]) ∧ IntsAt w' A zs ∧ Ext V w' := by
  subst hz hn
  refine (stobjects_any V (pers_row h.w) (pers_row h.t) (pers_row h.f) (pers_row h.s) hl.w hl.t hl.f hl.s hb.wb hb.tbb hb.sb).mono ?_
  rintro e w' (⟨h0, -⟩ | ⟨-, A, cap, he, ho, hx⟩)
  · exact absurd hk h0
  · exact ⟨A, cap, he, (own_row ho intCells (by decide)).1, hx⟩
theorem AllOk.place {c0 c1 c2 c3 : Int} {sn : Bool} {ws : List Int} {top : Int} {tb fr : List (Int × Int)} {sl : List (Bool × Int × Int)} (h : AllOk c0 c1 c2 c3 sn ws top tb fr sl) {z : Int} (hz : z ∈ smallsL c0 c1 c2 c3 sn ws top ++ tb.map (·.1)) : 0 ≤ z ∧ z < 2199023255552 := by
  rcases List.mem_append.1 hz with hz | hz
  · have := list_bd (l := some ws) (a := halfA c0 c1 c2 c3 sn) (s := halfS c0 c1 c2 c3) (top := top) hz
    omega
  · obtain ⟨x, hx, rfl⟩ := List.mem_map.1 hz
    have h1 := h.led
    unfold ledR ledB at h1
    simp only [Bool.and_eq_true, List.all_eq_true] at h1
    have h2 := h1.1.1 x hx
    simp only [withinB, Bool.and_eq_true] at h2
    have := may_bd h2.1.1
    omega
set_option maxRecDepth 100000
set_option maxHeartbeats 2000000
theorem stateIdle_any (s : StD) (p v : Int) (V : World) (h : StAt V s) (hok : StOk s) (hp : -9223372036854775808 ≤ p ∧ p ≤ 9223372036854775807) (hv : 0 ≤ v ∧ v < 18446744073709551616) :
    Calls Try.prog 8 #[.agg #[.int .i64 s.c0, .int .i64 s.c1, .int .i64 s.c2, .int .i64 s.c3, .bool s.snd, .slice s.wA s.ws.length s.wc, .int .i64 s.top, .slice s.tA s.tb.length s.tc, .slice s.fA s.fr.length s.fc, .slice s.sA s.sl.length s.sc], .int .i64 p, .int .u64 v] V fun e w' => e = .returned (.bool true) ∧ Ext V w' := by
  have hS := pers_new V #[.int .i64 s.c0, .int .i64 s.c1, .int .i64 s.c2, .int .i64 s.c3, .bool s.snd, .slice s.wA s.ws.length s.wc, .int .i64 s.top, .slice s.tA s.tb.length s.tc, .slice s.fA s.fr.length s.fc, .slice s.sA s.sl.length s.sc] 56 _ rfl
  have hx0 := (Ext.refl V).alloc (.cells #[.int .i64 s.c0, .int .i64 s.c1, .int .i64 s.c2, .int .i64 s.c3, .bool s.snd, .slice s.wA s.ws.length s.wc, .int .i64 s.top, .slice s.tA s.tb.length s.tc, .slice s.fA s.fr.length s.fc, .slice s.sA s.sl.length s.sc] 56)
  have H0 := h.pers.re hx0
  have HX := Lib.hid hx0
  have HOK := Lib.hid hok
  have HV := Lib.hid hv
  have HP := Lib.hid hp
  clear hx0 h hok hv hp
  go_enter Try.func8, Try.ntmps8
  go_wp2_with fail
  generalize V.alloc (.cells #[.int .i64 s.c0, .int .i64 s.c1, .int .i64 s.c2, .int .i64 s.c3, .bool s.snd, .slice s.wA s.ws.length s.wc, .int .i64 s.top, .slice s.tA s.tb.length s.tc, .slice s.fA s.fr.length s.fc, .slice s.sA s.sl.length s.sc] 56) = W at *
  generalize V.heap.size = S at *
  have gS := hS.cells
  obtain ⟨b, hb⟩ : ∃ b, bigB s.ws.length s.tb.length s.fr.length s.sl.length = b := ⟨_, rfl⟩
  have HBG := Lib.hid hb
  clear hb
  cases b
  rotate_left
  · ((first | refine at_baseC (W := W) ?_ | refine at_base (W := W) ?_); intro uq; (try go_wp2_with fail))
    (refine (large15_s s true HBG.out _ HOK.out).mono ?_; rintro e wq ⟨rfl, hx⟩; replace hx := Ext.trans (a := W) (by repeat (first | (with_reducible exact Ext.refl _) | (with_reducible exact ExtOf.ext _) | (with_reducible assumption) | (with_reducible refine Ext.drew ?_) | (with_reducible refine Ext.alloc ?_ _))) hx; obtain ⟨uq, rfl⟩ : ∃ u : ExtOf W, wq = u.1 := ⟨⟨wq, hx⟩, rfl⟩; clear hx; go_wp2_with fail)
    (refine (awake15_any _).mono ?_; rintro e wq ⟨rfl, hx⟩; replace hx := Ext.trans (a := W) (by repeat (first | (with_reducible exact Ext.refl _) | (with_reducible exact ExtOf.ext _) | (with_reducible assumption) | (with_reducible refine Ext.drew ?_) | (with_reducible refine Ext.alloc ?_ _))) hx; obtain ⟨uq, rfl⟩ : ∃ u : ExtOf W, wq = u.1 := ⟨⟨wq, hx⟩, rfl⟩; clear hx; go_wp2_with fail)
    go_ret
    exact ⟨rfl, HX.out.trans (ExtOf.ext _)⟩
  have HLE := Lib.hid (StLe.small HBG.out)
  have HSB := Lib.hid HOK.out.b
  obtain ⟨k, hk⟩ : ∃ k, checkZ s.c0 s.c1 s.c2 s.c3 s.snd s.ws s.top s.tb s.fr s.sl = k := ⟨_, rfl⟩
  have HK := Lib.hid hk
  clear hk
  by_cases h0 : k = 0
  rotate_left
  · have q0 : (k != 0) = true := by rw [bne_iff_ne]; exact h0
    clear h0
    ((first | refine at_baseC (W := W) ?_ | refine at_base (W := W) ?_); intro uq; (try go_wp2_with fail))
    (refine (large15_s s false HBG.out _ HOK.out).mono ?_; rintro e wq ⟨rfl, hx⟩; replace hx := Ext.trans (a := W) (by repeat (first | (with_reducible exact Ext.refl _) | (with_reducible exact ExtOf.ext _) | (with_reducible assumption) | (with_reducible refine Ext.drew ?_) | (with_reducible refine Ext.alloc ?_ _))) hx; obtain ⟨uq, rfl⟩ : ∃ u : ExtOf W, wq = u.1 := ⟨⟨wq, hx⟩, rfl⟩; clear hx; go_wp2_with fail)
    (refine (stcheck_s s k HK.out _ (H0.at (by repeat (first | (with_reducible exact Ext.refl _) | (with_reducible exact ExtOf.ext _) | (with_reducible assumption) | (with_reducible refine Ext.drew ?_) | (with_reducible refine Ext.alloc ?_ _)))) HLE.out HSB.out).mono ?_; rintro e wq ⟨rfl, hx⟩; replace hx := Ext.trans (a := W) (by repeat (first | (with_reducible exact Ext.refl _) | (with_reducible exact ExtOf.ext _) | (with_reducible assumption) | (with_reducible refine Ext.drew ?_) | (with_reducible refine Ext.alloc ?_ _))) hx; obtain ⟨uq, rfl⟩ : ∃ u : ExtOf W, wq = u.1 := ⟨⟨wq, hx⟩, rfl⟩; clear hx; go_wp2_with fail)
    (refine (awake15_any _).mono ?_; rintro e wq ⟨rfl, hx⟩; replace hx := Ext.trans (a := W) (by repeat (first | (with_reducible exact Ext.refl _) | (with_reducible exact ExtOf.ext _) | (with_reducible assumption) | (with_reducible refine Ext.drew ?_) | (with_reducible refine Ext.alloc ?_ _))) hx; obtain ⟨uq, rfl⟩ : ∃ u : ExtOf W, wq = u.1 := ⟨⟨wq, hx⟩, rfl⟩; clear hx; go_wp2_with fail)
    go_ret
    exact ⟨rfl, HX.out.trans (ExtOf.ext _)⟩
  subst h0
  by_cases h1 : p < 0
  · have q1 : decide (p < 0) = true := by simpa using h1
    clear h1
    ((first | refine at_baseC (W := W) ?_ | refine at_base (W := W) ?_); intro uq; (try go_wp2_with fail))
    (refine (large15_s s false HBG.out _ HOK.out).mono ?_; rintro e wq ⟨rfl, hx⟩; replace hx := Ext.trans (a := W) (by repeat (first | (with_reducible exact Ext.refl _) | (with_reducible exact ExtOf.ext _) | (with_reducible assumption) | (with_reducible refine Ext.drew ?_) | (with_reducible refine Ext.alloc ?_ _))) hx; obtain ⟨uq, rfl⟩ : ∃ u : ExtOf W, wq = u.1 := ⟨⟨wq, hx⟩, rfl⟩; clear hx; go_wp2_with fail)
    (refine (stcheck_s s 0 HK.out _ (H0.at (by repeat (first | (with_reducible exact Ext.refl _) | (with_reducible exact ExtOf.ext _) | (with_reducible assumption) | (with_reducible refine Ext.drew ?_) | (with_reducible refine Ext.alloc ?_ _)))) HLE.out HSB.out).mono ?_; rintro e wq ⟨rfl, hx⟩; replace hx := Ext.trans (a := W) (by repeat (first | (with_reducible exact Ext.refl _) | (with_reducible exact ExtOf.ext _) | (with_reducible assumption) | (with_reducible refine Ext.drew ?_) | (with_reducible refine Ext.alloc ?_ _))) hx; obtain ⟨uq, rfl⟩ : ∃ u : ExtOf W, wq = u.1 := ⟨⟨wq, hx⟩, rfl⟩; clear hx; go_wp2_with fail)
    (refine (awake15_any _).mono ?_; rintro e wq ⟨rfl, hx⟩; replace hx := Ext.trans (a := W) (by repeat (first | (with_reducible exact Ext.refl _) | (with_reducible exact ExtOf.ext _) | (with_reducible assumption) | (with_reducible refine Ext.drew ?_) | (with_reducible refine Ext.alloc ?_ _))) hx; obtain ⟨uq, rfl⟩ : ∃ u : ExtOf W, wq = u.1 := ⟨⟨wq, hx⟩, rfl⟩; clear hx; go_wp2_with fail)
    go_ret
    exact ⟨rfl, HX.out.trans (ExtOf.ext _)⟩
  have q1 : decide (p < 0) = false := by simpa using h1
  obtain ⟨m, rfl⟩ := Int.eq_ofNat_of_zero_le (Int.not_lt.1 h1)
  clear h1
  by_cases h2 : s.ws.length ≤ m
  · have q2 : decide (s.ws.length ≤ m) = true := by simpa using h2
    clear h2
    ((first | refine at_baseC (W := W) ?_ | refine at_base (W := W) ?_); intro uq; (try go_wp2_with fail))
    (refine (large15_s s false HBG.out _ HOK.out).mono ?_; rintro e wq ⟨rfl, hx⟩; replace hx := Ext.trans (a := W) (by repeat (first | (with_reducible exact Ext.refl _) | (with_reducible exact ExtOf.ext _) | (with_reducible assumption) | (with_reducible refine Ext.drew ?_) | (with_reducible refine Ext.alloc ?_ _))) hx; obtain ⟨uq, rfl⟩ : ∃ u : ExtOf W, wq = u.1 := ⟨⟨wq, hx⟩, rfl⟩; clear hx; go_wp2_with fail)
    (refine (stcheck_s s 0 HK.out _ (H0.at (by repeat (first | (with_reducible exact Ext.refl _) | (with_reducible exact ExtOf.ext _) | (with_reducible assumption) | (with_reducible refine Ext.drew ?_) | (with_reducible refine Ext.alloc ?_ _)))) HLE.out HSB.out).mono ?_; rintro e wq ⟨rfl, hx⟩; replace hx := Ext.trans (a := W) (by repeat (first | (with_reducible exact Ext.refl _) | (with_reducible exact ExtOf.ext _) | (with_reducible assumption) | (with_reducible refine Ext.drew ?_) | (with_reducible refine Ext.alloc ?_ _))) hx; obtain ⟨uq, rfl⟩ : ∃ u : ExtOf W, wq = u.1 := ⟨⟨wq, hx⟩, rfl⟩; clear hx; go_wp2_with fail)
    (refine (awake15_any _).mono ?_; rintro e wq ⟨rfl, hx⟩; replace hx := Ext.trans (a := W) (by repeat (first | (with_reducible exact Ext.refl _) | (with_reducible exact ExtOf.ext _) | (with_reducible assumption) | (with_reducible refine Ext.drew ?_) | (with_reducible refine Ext.alloc ?_ _))) hx; obtain ⟨uq, rfl⟩ : ∃ u : ExtOf W, wq = u.1 := ⟨⟨wq, hx⟩, rfl⟩; clear hx; go_wp2_with fail)
    go_ret
    exact ⟨rfl, HX.out.trans (ExtOf.ext _)⟩
  have q2 : decide (s.ws.length ≤ m) = false := by simpa using h2
  have HM : Hid (m < s.ws.length) := Lib.hid (by omega)
  clear h2
  obtain ⟨zs, hz⟩ : ∃ zs, smallsL s.c0 s.c1 s.c2 s.c3 s.snd s.ws s.top ++ s.tb.map (·.1) = zs := ⟨_, rfl⟩
  have HZ := Lib.hid hz
  clear hz
  ((first | refine at_baseC (W := W) ?_ | refine at_base (W := W) ?_); intro uq; (try go_wp2_with fail))
  (refine (large15_s s false HBG.out _ HOK.out).mono ?_; rintro e wq ⟨rfl, hx⟩; replace hx := Ext.trans (a := W) (by repeat (first | (with_reducible exact Ext.refl _) | (with_reducible exact ExtOf.ext _) | (with_reducible assumption) | (with_reducible refine Ext.drew ?_) | (with_reducible refine Ext.alloc ?_ _))) hx; obtain ⟨uq, rfl⟩ : ∃ u : ExtOf W, wq = u.1 := ⟨⟨wq, hx⟩, rfl⟩; clear hx; go_wp2_with fail)
  (refine (stcheck_s s 0 HK.out _ (H0.at (by repeat (first | (with_reducible exact Ext.refl _) | (with_reducible exact ExtOf.ext _) | (with_reducible assumption) | (with_reducible refine Ext.drew ?_) | (with_reducible refine Ext.alloc ?_ _)))) HLE.out HSB.out).mono ?_; rintro e wq ⟨rfl, hx⟩; replace hx := Ext.trans (a := W) (by repeat (first | (with_reducible exact Ext.refl _) | (with_reducible exact ExtOf.ext _) | (with_reducible assumption) | (with_reducible refine Ext.drew ?_) | (with_reducible refine Ext.alloc ?_ _))) hx; obtain ⟨uq, rfl⟩ : ∃ u : ExtOf W, wq = u.1 := ⟨⟨wq, hx⟩, rfl⟩; clear hx; go_wp2_with fail)
  (refine (stobjects_s s zs zs.length HZ.out rfl HK.out _ (H0.at (by repeat (first | (with_reducible exact Ext.refl _) | (with_reducible exact ExtOf.ext _) | (with_reducible assumption) | (with_reducible refine Ext.drew ?_) | (with_reducible refine Ext.alloc ?_ _)))) HLE.out HSB.out).mono ?_; rintro e w1 ⟨A, cap, rfl, hl, hx⟩; replace hx := Ext.trans (a := W) (by repeat (first | (with_reducible exact Ext.refl _) | (with_reducible exact ExtOf.ext _) | (with_reducible assumption) | (with_reducible refine Ext.drew ?_) | (with_reducible refine Ext.alloc ?_ _))) hx; replace hS := hS.re hx; replace H0 := H0.re hx; replace HX := Lib.hid (HX.out.trans hx))
  have HL := pers_row hl
  clear hx hl gS
  have HAO := Lib.hid (check_ok HK.out)
  have HZB := Lib.hid (show ∀ z ∈ zs, headE (some s.ws) z = 0 ∧ 0 ≤ z ∧ z < 2199023255552 from fun z hz => by
    rw [← HZ.out] at hz
    exact ⟨HAO.out.head hz, HAO.out.place hz⟩)
  have HLN : Hid (zs.length ≤ 3000000000000) := Lib.hid (by
    have h1 := list_len (some s.ws) (halfA s.c0 s.c1 s.c2 s.c3 s.snd) (halfS s.c0 s.c1 s.c2 s.c3) s.top
    have h2 := HLE.out.t
    rw [← HZ.out, List.length_append, List.length_map]
    unfold smallsL
    omega)
  ((first | refine at_baseC (W := w1) ?_ | refine at_base (W := w1) ?_); intro uq; (try go_wp2_with fail))
  go_loopw [9, 10, 11] (fun i _ _ wr => ∃ k : Nat, k ≤ zs.length ∧ i = .int .i64 k ∧ Hid (∀ j, j < k → ¬ (zs.getD j 0 ≤ m ∧ (m : Int) < zs.getD j 0 + 1 + (headH (some s.ws) (zs.getD j 0)).f + (headH (some s.ws) (zs.getD j 0)).r)) ∧ Ext w1 wr) (fun i _ _ _ => zs.length - (intOf i).toNat)
  case atStart => exact ⟨0, by omega, rfl, Lib.hid (fun j hj => by omega), uq.2⟩
  case round =>
    obtain ⟨k, hk, rfl, HN, hxr⟩ := hrel
    by_cases hlt : k < zs.length
    rotate_left
    · obtain rfl : k = zs.length := by omega
      clear hlt hk
      have HNO := Lib.hid (show ∀ z ∈ zs, ¬ (z ≤ m ∧ (m : Int) < z + 1 + (headH (some s.ws) z).f + (headH (some s.ws) z).r) from fun z hz => by
        obtain ⟨j, hj, rfl⟩ := List.getElem_of_mem hz
        have := HN.out j hj
        simpa [hj] using this)
      clear HN
      (replace hS := hS.re hxr; replace H0 := H0.re hxr; replace HX := Lib.hid (HX.out.trans hxr))
      have gS := hS.cells
      ((first | refine at_baseC (W := wr) ?_ | refine at_base (W := wr) ?_); intro uq; (try go_wp2_with fail))
      (refine (scopy_any s _ (H0.at (by repeat (first | (with_reducible exact Ext.refl _) | (with_reducible exact ExtOf.ext _) | (with_reducible assumption) | (with_reducible refine Ext.drew ?_) | (with_reducible refine Ext.alloc ?_ _)))) HLE.out).mono ?_; rintro e w2 ⟨t, rfl, ho, hv, hx⟩; replace hx := Ext.trans (a := wr) (by repeat (first | (with_reducible exact Ext.refl _) | (with_reducible exact ExtOf.ext _) | (with_reducible assumption) | (with_reducible refine Ext.drew ?_) | (with_reducible refine Ext.alloc ?_ _))) hx; replace hS := hS.re hx)
      obtain ⟨⟨a1, a2, a3, a4⟩, a5, a6, a7, a8, a9, a10⟩ := eqvS_iff.1 hv
      obtain ⟨c0, c1, c2, c3, sn, wA, ws', wc, top', tA, tb, tc, fA, fr, fc, sA, sl', sc⟩ := t
      simp only at a1 a2 a3 a4 a5 a6 a7 a8 a9 a10
      subst a1 a2 a3 a4 a5 a6 a7 a8 a9 a10
      have hm := HM.out
      obtain ⟨g, rfl, hg1, hg2⟩ := own_some ho.w (by intro h; rw [h] at hm; simp at hm)
      have hcell := own_cellAt u64Cells (by decide) ho.w rfl m 0 hm _ rfl
      have hfrz := own_frozen ho.w
      simp only [Nat.mul_one, Nat.add_zero] at hcell
      have k1 := (cells_of hS.here).1
      have q := lt_of_heap hS.here
      have e1 : ((s.ws.length : Int) != (s.ws.length : Int)) = false := by simp
      have ib0 : (0 : Int) ≤ (m : Int) := by omega
      have ib1 : (m : Int) < (s.ws.length : Int) := by omega
      simp only
      go_wp2_with fail
      have ho2 := ho.setW rfl m v
      have hx3 := (hx.setCell (p := ⟨g, m, none⟩) (Nat.le_trans uq.2.size hg1) (.int .u64 v)).alloc (.cells #[.int .i64 s.c0, .int .i64 s.c1, .int .i64 s.c2, .int .i64 s.c3, .bool s.snd, .slice (some ⟨g, 0, none⟩) s.ws.length wc, .int .i64 s.top, .slice tA s.tb.length tc, .slice fA s.fr.length fc, .slice sA s.sl.length sc] 56)
      have HX3 := Lib.hid (HX.out.trans hx3)
      have HA3 := Lib.hid (ho2.at.ext ((Ext.refl _).alloc (.cells #[.int .i64 s.c0, .int .i64 s.c1, .int .i64 s.c2, .int .i64 s.c3, .bool s.snd, .slice (some ⟨g, 0, none⟩) s.ws.length wc, .int .i64 s.top, .slice tA s.tb.length tc, .slice fA s.fr.length fc, .slice sA s.sl.length sc] 56)))
      clear hx ho ho2 hcell hfrz k1 q e1 hx3 hv gS hg1 hg2
      generalize (w2.setCell ⟨g, m, none⟩ (.int .u64 v)).alloc (.cells #[.int .i64 s.c0, .int .i64 s.c1, .int .i64 s.c2, .int .i64 s.c3, .bool s.snd, .slice (some ⟨g, 0, none⟩) s.ws.length wc, .int .i64 s.top, .slice tA s.tb.length tc, .slice fA s.fr.length fc, .slice sA s.sl.length sc] 56) = W3 at *
      have HCK : Hid (checkZ s.c0 s.c1 s.c2 s.c3 s.snd (s.ws.set m v) s.top s.tb s.fr s.sl = 0) := Lib.hid (check_idle (p := (m : Int)) HK.out (by omega) (by rw [HZ.out]; exact HNO.out))
      ((first | refine at_baseC (W := W3) ?_ | refine at_base (W := W3) ?_); intro uq; (try go_wp2_with fail))
      (refine (stcheck_w ⟨s.c0, s.c1, s.c2, s.c3, s.snd, some ⟨g, 0, none⟩, s.ws.set m v, wc, s.top, tA, s.tb, tc, fA, s.fr, fc, sA, s.sl, sc⟩ s.ws.length (List.length_set ..) 0 HCK.out _ (HA3.out.ext uq.2) ⟨by simpa using HLE.out.w, HLE.out.t, HLE.out.f, HLE.out.s⟩ ⟨fun z hz => (List.mem_or_eq_of_mem_set hz).elim (HSB.out.wb z) (fun e => e ▸ HV.out), HSB.out.tbb, HSB.out.sb⟩).mono ?_; rintro e wq ⟨rfl, hx⟩; replace hx := Ext.trans (a := W3) (by repeat (first | (with_reducible exact Ext.refl _) | (with_reducible exact ExtOf.ext _) | (with_reducible assumption) | (with_reducible refine Ext.drew ?_) | (with_reducible refine Ext.alloc ?_ _))) hx; obtain ⟨uq, rfl⟩ : ∃ u : ExtOf W3, wq = u.1 := ⟨⟨wq, hx⟩, rfl⟩; clear hx; go_wp2_with fail)
      (refine (awake15_any _).mono ?_; rintro e wq ⟨rfl, hx⟩; replace hx := Ext.trans (a := W3) (by repeat (first | (with_reducible exact Ext.refl _) | (with_reducible exact ExtOf.ext _) | (with_reducible assumption) | (with_reducible refine Ext.drew ?_) | (with_reducible refine Ext.alloc ?_ _))) hx; obtain ⟨uq, rfl⟩ : ∃ u : ExtOf W3, wq = u.1 := ⟨⟨wq, hx⟩, rfl⟩; clear hx; go_wp2_with fail)
      go_ret
      exact ⟨rfl, HX3.out.trans (ExtOf.ext _)⟩
    have hz := getD_mem (d := 0) hlt
    obtain ⟨b1, b2, b3⟩ := HZB.out _ hz
    obtain ⟨f1, f2, f3, f4, f5⟩ := head_sum b1
    have HL1 := HL.re hxr
    obtain ⟨lb, off, rfl, hc⟩ := HL1.here.get (by omega)
    have c1 := pers_cell (ints_cell hc hlt)
    obtain ⟨hd, hh⟩ : ∃ h, headH (some s.ws) (zs.getD k 0) = h := ⟨_, rfl⟩
    rw [hh] at f1 f2 f3 f4 f5
    have HH := Lib.hid hh
    have HE := Lib.hid b1
    have HSTEP : Hid (¬ (zs.getD k 0 ≤ m ∧ (m : Int) < zs.getD k 0 + 1 + hd.f + hd.r) → ∀ j, j < k + 1 → ¬ (zs.getD j 0 ≤ m ∧ (m : Int) < zs.getD j 0 + 1 + (headH (some s.ws) (zs.getD j 0)).f + (headH (some s.ws) (zs.getD j 0)).r)) := Lib.hid (fun hn j hj => by
      rcases Nat.lt_or_ge j k with h' | h'
      · exact HN.out j h'
      · obtain rfl : j = k := by omega
        rw [HH.out]; exact hn)
    clear hz hc HL1 hh b1 HN
    generalize zs.getD k 0 = z at *
    have ib0 : (0 : Int) ≤ (k : Int) := by omega
    have ib1 : (k : Int) < (zs.length : Int) := by omega
    have hzi : -9223372036854775808 ≤ z ∧ z ≤ 9223372036854775807 := by omega
    have HE1 : Hid (wrap64 (z + 1) = z + 1 ∧ wrap64 (z + 1 + hd.f) = z + 1 + hd.f ∧ wrap64 (z + 1 + hd.f + hd.r) = z + 1 + hd.f + hd.r) := Lib.hid ⟨IntWalk.wrap64_in _ ⟨by omega, by omega⟩, IntWalk.wrap64_in _ ⟨by omega, by omega⟩, IntWalk.wrap64_in _ ⟨by omega, by omega⟩⟩
    have HZI := Lib.hid hzi
    clear hzi f1 f2 f3 f4 f5 b2 b3
    have hxr0 := hxr
    have HXR := Lib.hid hxr
    clear hxr
    (replace hS := hS.re hxr0; replace H0 := H0.re hxr0; replace HX := Lib.hid (HX.out.trans hxr0))
    clear hxr0
    have gS := hS.cells
    ((first | refine at_baseC (W := wr) ?_ | refine at_base (W := wr) ?_); intro uq; (try go_wp2_with fail))
    have hx1 := uq.2
    (refine wp_region_pfk (W := wr) [(0, true), (1, true), (2, true), (3, true), (4, true)] 5 [(5, [.qu 6 true, .qu 7 true, .qu 8 true, .one 9, .one 10]), (9, [.one 5, .qu 6 true, .qu 7 true, .qu 8 true, .one 10])] [11] (by kernel_rfl) (by kernel_rfl) (by intro c a d v w h; cases d <;> first | exact h | cases h.1) (by with_reducible assumption) ?_; simp only [opsOf, List.map_cons, List.map_nil, List.getD_cons_zero, List.getD_cons_succ]; (repeat (go_big_quiet_step (fail))); refine wpQuiet_nil ?_; refine all_two ?_ ?_ <;> (intro w1 hx; unfold RowP; simp only [opsOf, List.map_cons, List.map_nil, List.getD_cons_zero, List.getD_cons_succ]))
    ((refine pln_one (by (try simp only [List.getD_cons_succ, List.getD_cons_zero]); rfl) (by rfl) ?_; intro K hK; go_simp))
    refine (sthead_s s z hd 0 HH.out HE.out _ (H0.at hx) HLE.out HSB.out HZI.out).mono ?_
    rintro e w2 ⟨rfl, hx2⟩
    refine hK (Ext wr) _ _ (fun _ h => h) (hx.trans hx2) ?_
    clear hK K hx hx2
    (refine pln_qu (by (try simp only [List.getD_cons_succ, List.getD_cons_zero]); rfl) ?_; (repeat (go_big_quiet_step (fail))); refine wpQuiet_nil ?_; intro w1 hx)
    (refine pln_qu (by (try simp only [List.getD_cons_succ, List.getD_cons_zero]); rfl) ?_; (repeat (go_big_quiet_step (fail))); refine wpQuiet_nil ?_; intro w1 hx)
    (refine pln_qu (by (try simp only [List.getD_cons_succ, List.getD_cons_zero]); rfl) ?_; (repeat (go_big_quiet_step (fail))); refine wpQuiet_nil ?_; intro w1 hx)
    ((refine pln_one (by (try simp only [List.getD_cons_succ, List.getD_cons_zero]); rfl) (by rfl) ?_; intro K hK; go_simp))
    refine hK (Ext wr) _ _ (fun _ h => h) (hx.alloc _) ?_
    clear hK K
    ((refine pln_one (by (try simp only [List.getD_cons_succ, List.getD_cons_zero]); rfl) (by rfl) ?_; intro K hK; go_simp))
    refine hK (Ext wr) _ _ (fun _ h => h) (hx.alloc _) ?_
    clear hK K
    (refine pln_nil ?_)
    go_wp2_with fail
    have HBH := pers_new w1 #[.int .i64 hd.k, .int .i64 hd.f, .int .i64 hd.r, .bool hd.m, .int .i64 hd.c] 47 _ rfl
    have HX5 := Lib.hid (hx.alloc (.cells #[.int .i64 hd.k, .int .i64 hd.f, .int .i64 hd.r, .bool hd.m, .int .i64 hd.c] 47))
    clear hx
    generalize w1.alloc (.cells #[.int .i64 hd.k, .int .i64 hd.f, .int .i64 hd.r, .bool hd.m, .int .i64 hd.c] 47) = W5 at *
    generalize w1.heap.size = Y at *
    rotate_left
    ((refine pln_one (by (try simp only [List.getD_cons_succ, List.getD_cons_zero]); rfl) (by rfl) ?_; intro K hK; go_simp))
    refine hK (fun w => Ext wr w ∧ ∃ cs, cs.size = 5 ∧ w.heap[w1.heap.size]? = some (.cells cs 47 (0, 0))) _ _ (fun _ h => h.1) ⟨hx.alloc _, _, rfl, World.alloc_heap_new _ _⟩ ?_
    clear hK K
    have hb := blk_new w1 #[.int .i64 0, .int .i64 0, .int .i64 0, .bool false, .int .i64 0] 47 _ rfl
    have hx1' := hx.alloc (.cells #[.int .i64 0, .int .i64 0, .int .i64 0, .bool false, .int .i64 0] 47)
    have hXs : wr.heap.size ≤ w1.heap.size := hx.size
    generalize w1.alloc (.cells #[.int .i64 0, .int .i64 0, .int .i64 0, .bool false, .int .i64 0] 47) = w3 at *
    generalize w1.heap.size = Y at *
    ((refine pln_one (by (try simp only [List.getD_cons_succ, List.getD_cons_zero]); rfl) (by rfl) ?_; intro K hK; go_simp))
    refine (sthead_s s z hd 0 HH.out HE.out _ (H0.at hx1') HLE.out HSB.out HZI.out).mono ?_
    rintro e w2 ⟨rfl, hx2⟩
    refine hK (fun w => Ext wr w ∧ ∃ cs, cs.size = 5 ∧ w.heap[Y]? = some (.cells cs 47 (0, 0))) _ _ (fun _ h => h) ⟨hx1'.trans hx2, _, rfl, (hx2.block (lt_of_heap hb)).trans hb⟩ ?_
    have hne : Nonempty (KeptT fun w => Ext wr w ∧ ∃ cs, cs.size = 5 ∧ w.heap[Y]? = some (.cells cs 47 (0, 0))) := ⟨⟨_, hx1'.trans hx2, _, rfl, (hx2.block (lt_of_heap hb)).trans hb⟩⟩
    clear hK K hx hx2
    (refine pln_qu (by (try simp only [List.getD_cons_succ, List.getD_cons_zero]); rfl) ?_; (repeat (go_big_quiet_step (fail))); refine wpQuiet_nil ?_; intro w1 hx)
    (refine pln_qu (by (try simp only [List.getD_cons_succ, List.getD_cons_zero]); rfl) ?_; (repeat (go_big_quiet_step (fail))); refine wpQuiet_nil ?_; intro w1 hx)
    (refine pln_qu (by (try simp only [List.getD_cons_succ, List.getD_cons_zero]); rfl) ?_; (repeat (go_big_quiet_step (fail))); refine wpQuiet_nil ?_; intro w1 hx)
    obtain ⟨hx, cs, hcs, hbY⟩ := hx
    obtain ⟨v0, v1, v2, v3, v4, rfl⟩ := arr5 hcs
    obtain ⟨g3, g4⟩ := cells_of hbY
    have hb5 := blk_set (i := 4) (blk_set (i := 3) (blk_set (i := 2) (blk_set (i := 1) (blk_set (i := 0) hbY (.int .i64 hd.k)) (.int .i64 hd.f)) (.int .i64 hd.r)) (.bool hd.m)) (.int .i64 hd.c)
    have hx5 := ((((hx.setCell (p := ⟨Y, 0, none⟩) hXs (.int .i64 hd.k)).setCell (p := ⟨Y, 1, none⟩) hXs (.int .i64 hd.f)).setCell (p := ⟨Y, 2, none⟩) hXs (.int .i64 hd.r)).setCell (p := ⟨Y, 3, none⟩) hXs (.bool hd.m)).setCell (p := ⟨Y, 4, none⟩) hXs (.int .i64 hd.c)
    simp only [List.setIfInBounds_toArray, List.set_cons_succ, List.set_cons_zero] at hb5
    ((refine pln_one (by (try simp only [List.getD_cons_succ, List.getD_cons_zero]); rfl) (by rfl) ?_; intro K hK; go_simp))
    refine hK _ _ _ (fun _ h => h) ⟨hx5, _, rfl, hb5⟩ ?_
    have HBH := pers_blk hb5
    have HX5 := Lib.hid hx5
    clear hK K hx hbY g3 g4 hcs hb5 hx5 hne hb hx1'
    (refine pln_nil ?_)
    go_wp2_with fail
    generalize ((((w1.setCell ⟨Y, 0, none⟩ (.int .i64 hd.k)).setCell ⟨Y, 1, none⟩ (.int .i64 hd.f)).setCell ⟨Y, 2, none⟩ (.int .i64 hd.r)).setCell ⟨Y, 3, none⟩ (.bool hd.m)).setCell ⟨Y, 4, none⟩ (.int .i64 hd.c) = W5 at *
    all_goals
      (replace hS := hS.re HX5.out; replace H0 := H0.re HX5.out; replace HX := Lib.hid (HX.out.trans HX5.out))
      replace HXR := Lib.hid (HXR.out.trans HX5.out)
      replace c1 : ∀ u : ExtOf W5, u.1.cell? ⟨lb, off + k, none⟩ = some (.int .i64 z) := fun u => c1 ⟨u.1, HX5.out.trans u.2⟩
      clear gS hx1
      have g2 := HBH.cells
      have hx5 := Ext.refl W5
      obtain ⟨e1, e2, e3⟩ := HE1.out
      have hln := HLN.out
      by_cases i1 : z ≤ m
      · have d1 : decide (z ≤ (m : Int)) = true := by simpa using i1
        by_cases i2 : (m : Int) < z + 1 + hd.f + hd.r
        · have d2 : decide ((m : Int) < z + 1 + hd.f + hd.r) = true := by simpa using i2
          clear i1 i2
          (refine wp_region_ext (W := W5) (by kernel_rfl) (by kernel_rfl) (by with_reducible assumption) ?_; (repeat (go_big_quiet_step (fail))); refine wpQuiet_nil ?_; intro w1 hx)
          (obtain ⟨uq, rfl⟩ : ∃ u : ExtOf W5, w1 = u.1 := ⟨⟨w1, hx⟩, rfl⟩; clear hx; go_wp2_with fail)
          (refine (awake15_any _).mono ?_; rintro e wq ⟨rfl, hx⟩; replace hx := Ext.trans (a := W5) (by repeat (first | (with_reducible exact Ext.refl _) | (with_reducible exact ExtOf.ext _) | (with_reducible assumption) | (with_reducible refine Ext.drew ?_) | (with_reducible refine Ext.alloc ?_ _))) hx; obtain ⟨uq, rfl⟩ : ∃ u : ExtOf W5, wq = u.1 := ⟨⟨wq, hx⟩, rfl⟩; clear hx; go_wp2_with fail)
          go_ret
          exact ⟨rfl, HX.out.trans (ExtOf.ext _)⟩
        · have d2 : decide ((m : Int) < z + 1 + hd.f + hd.r) = false := by simpa using i2
          have HNX := Lib.hid (HSTEP.out (fun h => i2 h.2))
          clear i1 i2
          (refine wp_region_ext (W := W5) (by kernel_rfl) (by kernel_rfl) (by with_reducible assumption) ?_; (repeat (go_big_quiet_step (fail))); refine wpQuiet_nil ?_; intro w1 hx)
          (obtain ⟨uq, rfl⟩ : ∃ u : ExtOf W5, w1 = u.1 := ⟨⟨w1, hx⟩, rfl⟩; clear hx; go_wp2_with fail)
          go_roundw
          case rel => exact ⟨k + 1, by omega, by go_num, HNX, HXR.out.trans uq.2⟩
          case measure => simp [intOf]; omega
      · have d1 : decide (z ≤ (m : Int)) = false := by simpa using i1
        have HNX := Lib.hid (HSTEP.out (fun h => i1 h.1))
        clear i1
        (refine wp_region_ext (W := W5) (by kernel_rfl) (by kernel_rfl) (by with_reducible assumption) ?_; (repeat (go_big_quiet_step (fail))); refine wpQuiet_nil ?_; intro w1 hx)
        (obtain ⟨uq, rfl⟩ : ∃ u : ExtOf W5, w1 = u.1 := ⟨⟨w1, hx⟩, rfl⟩; clear hx; go_wp2_with fail)
        go_roundw
        case rel => exact ⟨k + 1, by omega, by go_num, HNX, HXR.out.trans uq.2⟩
        case measure => simp [intOf]; omega
theorem stateIdle_fin {v0 : Value} {p q : Int} {w : World} (h0 : IsState w v0) (h1 : (Lit.int .i64 p).wf = true) (h2 : (Lit.int .u64 q).wf = true) : Calls Try.prog 8 #[v0, .int .i64 p, .int .u64 q] w fun e w' => e = .returned (.bool true) ∧ Ext w w' := by
  obtain ⟨s, rfl, hs, hok⟩ := h0
  refine stateIdle_any s p q w hs hok (i64_bd h1) ?_
  have : 0 ≤ q ∧ q ≤ 18446744073709551615 := by simpa [Lit.wf, IntKind.min, IntKind.max, IntKind.signed, IntKind.bits] using h2
  omega
end Go.Proofs.Ytkcpfimhbogdcaa

/- The law StateCopies. -/
set_option linter.unusedSimpArgs false
set_option linter.unusedVariables false
namespace Go.Proofs.Ytkcpfimhbogdcaa
open Go.RowKit Go.Shelf

/-- A copy, with all that is known of it: it stands where the heap stood, and apart. -/
theorem scopy_c (a : StD) (V : World) (h : StAt V a) (hle : StLe a) : Calls Try.prog 32 #[.agg #[.int .i64 a.c0, .int .i64 a.c1, .int .i64 a.c2, .int .i64 a.c3, .bool a.snd, .slice a.wA a.ws.length a.wc, .int .i64 a.top, .slice a.tA a.tb.length a.tc, .slice a.fA a.fr.length a.fc, .slice a.sA a.sl.length a.sc]] V fun e w' => ∃ wA wc tA tc fA fc sA sc, e = .returned (.agg #[.int .i64 a.c0, .int .i64 a.c1, .int .i64 a.c2, .int .i64 a.c3, .bool a.snd, .slice wA a.ws.length wc, .int .i64 a.top, .slice tA a.tb.length tc, .slice fA a.fr.length fc, .slice sA a.sl.length sc]) ∧ StOwn V.heap.size w' ⟨a.c0, a.c1, a.c2, a.c3, a.snd, wA, a.ws, wc, a.top, tA, a.tb, tc, fA, a.fr, fc, sA, a.sl, sc⟩ ∧ Aprt ⟨a.c0, a.c1, a.c2, a.c3, a.snd, wA, a.ws, wc, a.top, tA, a.tb, tc, fA, a.fr, fc, sA, a.sl, sc⟩ ∧ Ext V w' := by
  refine (scopy2_any a V h hle).mono ?_
  rintro e w' ⟨t, rfl, ho, hv, hx, ha⟩
  obtain ⟨⟨a1, a2, a3, a4⟩, a5, a6, a7, a8, a9, a10⟩ := eqvS_iff.1 hv
  obtain ⟨c0, c1, c2, c3, sn, wA, ws', wc, top', tA, tb, tc, fA, fr, fc, sA, sl', sc⟩ := t
  simp only at a1 a2 a3 a4 a5 a6 a7 a8 a9 a10
  subst a1 a2 a3 a4 a5 a6 a7 a8 a9 a10
  exact ⟨wA, wc, tA, tc, fA, fc, sA, sc, rfl, ho, ha, hx⟩
theorem ssame_is {a b : StD} {r : Bool} (hr : eqvS a b = r) (V : World) (ha : StAt V a) (hb : StAt V b) (la : StLe a) (lb : StLe b) : Calls Try.prog 33 #[.agg #[.int .i64 a.c0, .int .i64 a.c1, .int .i64 a.c2, .int .i64 a.c3, .bool a.snd, .slice a.wA a.ws.length a.wc, .int .i64 a.top, .slice a.tA a.tb.length a.tc, .slice a.fA a.fr.length a.fc, .slice a.sA a.sl.length a.sc], .agg #[.int .i64 b.c0, .int .i64 b.c1, .int .i64 b.c2, .int .i64 b.c3, .bool b.snd, .slice b.wA b.ws.length b.wc, .int .i64 b.top, .slice b.tA b.tb.length b.tc, .slice b.fA b.fr.length b.fc, .slice b.sA b.sl.length b.sc]] V fun e w' => e = .returned (.bool r) ∧ Ext V w' := by
  rw [← hr]; exact ssame_any a b V ha hb la lb
section
variable {a : StD} {wA tA fA sA : Option Addr} {wc tc fc sc : Nat}
/-- Where the loops stand: the heap, its first copy (whose words may be others), its second. -/
structure CpL (V : World) (A0 C D B2 : Nat) (a t d : StD) (cs : Array Value) (w : World) : Prop where
  ext : Ext V w
  ba : w.heap[A0]? = some (.cells #[.int .i64 a.c0, .int .i64 a.c1, .int .i64 a.c2, .int .i64 a.c3, .bool a.snd, .slice a.wA a.ws.length a.wc, .int .i64 a.top, .slice a.tA a.tb.length a.tc, .slice a.fA a.fr.length a.fc, .slice a.sA a.sl.length a.sc] 56 (0, 0))
  bc : w.heap[C]? = some (.cells cs 56 (0, 0))
  bd : w.heap[D]? = some (.cells #[.int .i64 d.c0, .int .i64 d.c1, .int .i64 d.c2, .int .i64 d.c3, .bool d.snd, .slice d.wA d.ws.length d.wc, .int .i64 d.top, .slice d.tA d.tb.length d.tc, .slice d.fA d.fr.length d.fc, .slice d.sA d.sl.length d.sc] 56 (0, 0))
  own : StOwn V.heap.size w t
  low : ∀ g, (t.wA = some ⟨g, 0, none⟩ ∨ t.tA = some ⟨g, 0, none⟩ ∨ t.fA = some ⟨g, 0, none⟩ ∨ t.sA = some ⟨g, 0, none⟩) → g < B2
  d : StOwn B2 w d
variable {V w : World} {A0 C D B2 g : Nat} {t t' d : StD} {cs : Array Value}
theorem CpL.grow (h : CpL V A0 C D B2 a t d cs w) {w' : World} (hx : Ext w w') : CpL V A0 C D B2 a t d cs w' :=
  ⟨h.ext.trans hx, (hx.block (lt_of_heap h.ba)).trans h.ba, (hx.block (lt_of_heap h.bc)).trans h.bc, (hx.block (lt_of_heap h.bd)).trans h.bd, h.own.ext hx, h.low, h.d.ext hx⟩
theorem CpL.set (h : CpL V A0 C D B2 a t d cs w) (hg : V.heap.size ≤ g) (hg2 : g < B2) {ty : TypeId} {cu : Array Value} (hc : w.heap[g]? = some (.cells cu ty (0, 0))) (hty : ty ≠ 56) (i : Nat) (u : Value) (ho : StOwn V.heap.size (w.setCell ⟨g, i, none⟩ u) t')
    (hl : t'.wA = t.wA ∧ t'.tA = t.tA ∧ t'.fA = t.fA ∧ t'.sA = t.sA) : CpL V A0 C D B2 a t' d cs (w.setCell ⟨g, i, none⟩ u) := by
  have ne : ∀ {b : Nat} {o : Array Value}, w.heap[b]? = some (.cells o 56 (0, 0)) → b ≠ g := fun {b o} hb e => by
    subst e
    rw [hb] at hc
    cases hc
    exact hty rfl
  refine ⟨h.ext.setCell hg u, blk_set_other h.ba u (ne h.ba), blk_set_other h.bc u (ne h.bc), blk_set_other h.bd u (ne h.bd), ho, ?_, h.d.far hg2 i u⟩
  rw [hl.1, hl.2.1, hl.2.2.1, hl.2.2.2]
  exact h.low
end
theorem aprt_len {a b : StD} (h1 : (Value.slice a.tA a.tb.length a.tc) = (Value.slice b.tA b.tb.length b.tc)) (h2 : (Value.slice a.fA a.fr.length a.fc) = (Value.slice b.fA b.fr.length b.fc)) : Aprt b ↔ Aprt a := by
  unfold Aprt; rw [h1, h2]
set_option maxRecDepth 100000
set_option maxHeartbeats 4000000
theorem stateCopies_any (a b : StD) (V : World) (ha : StAt V a) (hb : StAt V b) (oka : StOk a) (okb : StOk b) : Calls Try.prog 7 #[.agg #[.int .i64 a.c0, .int .i64 a.c1, .int .i64 a.c2, .int .i64 a.c3, .bool a.snd, .slice a.wA a.ws.length a.wc, .int .i64 a.top, .slice a.tA a.tb.length a.tc, .slice a.fA a.fr.length a.fc, .slice a.sA a.sl.length a.sc], .agg #[.int .i64 b.c0, .int .i64 b.c1, .int .i64 b.c2, .int .i64 b.c3, .bool b.snd, .slice b.wA b.ws.length b.wc, .int .i64 b.top, .slice b.tA b.tb.length b.tc, .slice b.fA b.fr.length b.fc, .slice b.sA b.sl.length b.sc]] V fun e w' => e = .returned (.bool true) ∧ Ext V w' := by
  have hA := pers_new2 V #[.int .i64 a.c0, .int .i64 a.c1, .int .i64 a.c2, .int .i64 a.c3, .bool a.snd, .slice a.wA a.ws.length a.wc, .int .i64 a.top, .slice a.tA a.tb.length a.tc, .slice a.fA a.fr.length a.fc, .slice a.sA a.sl.length a.sc] 56 _ rfl (.cells #[.int .i64 b.c0, .int .i64 b.c1, .int .i64 b.c2, .int .i64 b.c3, .bool b.snd, .slice b.wA b.ws.length b.wc, .int .i64 b.top, .slice b.tA b.tb.length b.tc, .slice b.fA b.fr.length b.fc, .slice b.sA b.sl.length b.sc] 56)
  have hB := pers_new (V.alloc (.cells #[.int .i64 a.c0, .int .i64 a.c1, .int .i64 a.c2, .int .i64 a.c3, .bool a.snd, .slice a.wA a.ws.length a.wc, .int .i64 a.top, .slice a.tA a.tb.length a.tc, .slice a.fA a.fr.length a.fc, .slice a.sA a.sl.length a.sc] 56)) #[.int .i64 b.c0, .int .i64 b.c1, .int .i64 b.c2, .int .i64 b.c3, .bool b.snd, .slice b.wA b.ws.length b.wc, .int .i64 b.top, .slice b.tA b.tb.length b.tc, .slice b.fA b.fr.length b.fc, .slice b.sA b.sl.length b.sc] 56 (V.heap.size + 1) (by simp)
  have hx0 := ((Ext.refl V).alloc (.cells #[.int .i64 a.c0, .int .i64 a.c1, .int .i64 a.c2, .int .i64 a.c3, .bool a.snd, .slice a.wA a.ws.length a.wc, .int .i64 a.top, .slice a.tA a.tb.length a.tc, .slice a.fA a.fr.length a.fc, .slice a.sA a.sl.length a.sc] 56)).alloc (.cells #[.int .i64 b.c0, .int .i64 b.c1, .int .i64 b.c2, .int .i64 b.c3, .bool b.snd, .slice b.wA b.ws.length b.wc, .int .i64 b.top, .slice b.tA b.tb.length b.tc, .slice b.fA b.fr.length b.fc, .slice b.sA b.sl.length b.sc] 56)
  have H1 := ha.pers.re hx0
  have H2 := hb.pers.re hx0
  have HA := Lib.hid ha
  have HX := Lib.hid hx0
  have HX0 := Lib.hid hx0
  have HOA := Lib.hid oka
  have HOB := Lib.hid okb
  clear hx0 ha hb oka okb
  go_enter Try.func7, Try.ntmps7
  go_wp2_with fail
  generalize (V.alloc (.cells #[.int .i64 a.c0, .int .i64 a.c1, .int .i64 a.c2, .int .i64 a.c3, .bool a.snd, .slice a.wA a.ws.length a.wc, .int .i64 a.top, .slice a.tA a.tb.length a.tc, .slice a.fA a.fr.length a.fc, .slice a.sA a.sl.length a.sc] 56)).alloc (.cells #[.int .i64 b.c0, .int .i64 b.c1, .int .i64 b.c2, .int .i64 b.c3, .bool b.snd, .slice b.wA b.ws.length b.wc, .int .i64 b.top, .slice b.tA b.tb.length b.tc, .slice b.fA b.fr.length b.fc, .slice b.sA b.sl.length b.sc] 56) = W at *
  obtain ⟨A0, hA0⟩ : ∃ x, V.heap.size = x := ⟨_, rfl⟩
  obtain ⟨B0, hB0⟩ : ∃ x, V.heap.size + 1 = x := ⟨_, rfl⟩
  rw [hB0] at hB ⊢
  rw [hA0] at hA ⊢
  have HA0 := Lib.hid hA0
  clear hA0 hB0
  have gA := hA.cells
  have gB := hB.cells
  obtain ⟨x, hx⟩ : ∃ b, bigB a.ws.length a.tb.length a.fr.length a.sl.length = b := ⟨_, rfl⟩
  obtain ⟨y, hy⟩ : ∃ y, bigB b.ws.length b.tb.length b.fr.length b.sl.length = y := ⟨_, rfl⟩
  have HGA := Lib.hid hx
  have HGB := Lib.hid hy
  clear hx hy
  cases x
  rotate_left
  · ((first | refine at_baseC (W := W) ?_ | refine at_base (W := W) ?_); intro uq; (try go_wp2_with fail))
    (refine (large15_s a true HGA.out _ HOA.out).mono ?_; rintro e wq ⟨rfl, hx⟩; replace hx := Ext.trans (a := W) (by repeat (first | (with_reducible exact Ext.refl _) | (with_reducible exact ExtOf.ext _) | (with_reducible assumption) | (with_reducible refine Ext.drew ?_) | (with_reducible refine Ext.alloc ?_ _))) hx; obtain ⟨uq, rfl⟩ : ∃ u : ExtOf W, wq = u.1 := ⟨⟨wq, hx⟩, rfl⟩; clear hx; go_wp2_with fail)
    (refine (awake15_any _).mono ?_; rintro e wq ⟨rfl, hx⟩; replace hx := Ext.trans (a := W) (by repeat (first | (with_reducible exact Ext.refl _) | (with_reducible exact ExtOf.ext _) | (with_reducible assumption) | (with_reducible refine Ext.drew ?_) | (with_reducible refine Ext.alloc ?_ _))) hx; obtain ⟨uq, rfl⟩ : ∃ u : ExtOf W, wq = u.1 := ⟨⟨wq, hx⟩, rfl⟩; clear hx; go_wp2_with fail)
    go_ret
    exact ⟨rfl, HX.out.trans (ExtOf.ext _)⟩
  cases y
  rotate_left
  · ((first | refine at_baseC (W := W) ?_ | refine at_base (W := W) ?_); intro uq; (try go_wp2_with fail))
    (refine (large15_s a false HGA.out _ HOA.out).mono ?_; rintro e wq ⟨rfl, hx⟩; replace hx := Ext.trans (a := W) (by repeat (first | (with_reducible exact Ext.refl _) | (with_reducible exact ExtOf.ext _) | (with_reducible assumption) | (with_reducible refine Ext.drew ?_) | (with_reducible refine Ext.alloc ?_ _))) hx; obtain ⟨uq, rfl⟩ : ∃ u : ExtOf W, wq = u.1 := ⟨⟨wq, hx⟩, rfl⟩; clear hx; go_wp2_with fail)
    (refine (large15_s b true HGB.out _ HOB.out).mono ?_; rintro e wq ⟨rfl, hx⟩; replace hx := Ext.trans (a := W) (by repeat (first | (with_reducible exact Ext.refl _) | (with_reducible exact ExtOf.ext _) | (with_reducible assumption) | (with_reducible refine Ext.drew ?_) | (with_reducible refine Ext.alloc ?_ _))) hx; obtain ⟨uq, rfl⟩ : ∃ u : ExtOf W, wq = u.1 := ⟨⟨wq, hx⟩, rfl⟩; clear hx; go_wp2_with fail)
    (refine (awake15_any _).mono ?_; rintro e wq ⟨rfl, hx⟩; replace hx := Ext.trans (a := W) (by repeat (first | (with_reducible exact Ext.refl _) | (with_reducible exact ExtOf.ext _) | (with_reducible assumption) | (with_reducible refine Ext.drew ?_) | (with_reducible refine Ext.alloc ?_ _))) hx; obtain ⟨uq, rfl⟩ : ∃ u : ExtOf W, wq = u.1 := ⟨⟨wq, hx⟩, rfl⟩; clear hx; go_wp2_with fail)
    go_ret
    exact ⟨rfl, HX.out.trans (ExtOf.ext _)⟩
  have HLE := Lib.hid (StLe.small HGA.out)
  have HLB := Lib.hid (StLe.small HGB.out)
  ((first | refine at_baseC (W := W) ?_ | refine at_base (W := W) ?_); intro uq; (try go_wp2_with fail))
  (refine (large15_s a false HGA.out _ HOA.out).mono ?_; rintro e wq ⟨rfl, hx⟩; replace hx := Ext.trans (a := W) (by repeat (first | (with_reducible exact Ext.refl _) | (with_reducible exact ExtOf.ext _) | (with_reducible assumption) | (with_reducible refine Ext.drew ?_) | (with_reducible refine Ext.alloc ?_ _))) hx; obtain ⟨uq, rfl⟩ : ∃ u : ExtOf W, wq = u.1 := ⟨⟨wq, hx⟩, rfl⟩; clear hx; go_wp2_with fail)
  (refine (large15_s b false HGB.out _ HOB.out).mono ?_; rintro e wq ⟨rfl, hx⟩; replace hx := Ext.trans (a := W) (by repeat (first | (with_reducible exact Ext.refl _) | (with_reducible exact ExtOf.ext _) | (with_reducible assumption) | (with_reducible refine Ext.drew ?_) | (with_reducible refine Ext.alloc ?_ _))) hx; obtain ⟨uq, rfl⟩ : ∃ u : ExtOf W, wq = u.1 := ⟨⟨wq, hx⟩, rfl⟩; clear hx; go_wp2_with fail)
  (refine (scopy_c a _ (H1.at (by repeat (first | (with_reducible exact Ext.refl _) | (with_reducible exact ExtOf.ext _) | (with_reducible assumption) | (with_reducible refine Ext.drew ?_) | (with_reducible refine Ext.alloc ?_ _)))) HLE.out).mono ?_; rintro e w1 ⟨wA, wc, tA, tc, fA, fc, sA, sc, rfl, ho, hap, hx⟩; replace hx := Ext.trans (a := W) (by repeat (first | (with_reducible exact Ext.refl _) | (with_reducible exact ExtOf.ext _) | (with_reducible assumption) | (with_reducible refine Ext.drew ?_) | (with_reducible refine Ext.alloc ?_ _))) hx; replace hA := hA.re hx; replace hB := hB.re hx; replace H1 := H1.re hx; replace H2 := H2.re hx; replace HX := Lib.hid (HX.out.trans hx))
  have HO0 := ho.mono (B' := V.heap.size) (Nat.le_trans HX0.out.size uq.2.size)
  have hlo := show ∀ g : Nat, (wA = some ⟨g, 0, none⟩ ∨ tA = some ⟨g, 0, none⟩ ∨ fA = some ⟨g, 0, none⟩ ∨ sA = some ⟨g, 0, none⟩) → g < w1.heap.size from fun g hg => by
    rcases hg with h | h | h | h
    · exact (own_lt ho.w (g := g) (by simp [h, Value.ownBlock])).2
    · exact (own_lt ho.t (g := g) (by simp [h, Value.ownBlock])).2
    · exact (own_lt ho.f (g := g) (by simp [h, Value.ownBlock])).2
    · exact (own_lt ho.s (g := g) (by simp [h, Value.ownBlock])).2
  clear hx ho gA gB
  go_wp2_with fail
  have hC := pers_new w1 #[.int .i64 a.c0, .int .i64 a.c1, .int .i64 a.c2, .int .i64 a.c3, .bool a.snd, .slice wA a.ws.length wc, .int .i64 a.top, .slice tA a.tb.length tc, .slice fA a.fr.length fc, .slice sA a.sl.length sc] 56 _ rfl
  have hy := (Ext.refl w1).alloc (.cells #[.int .i64 a.c0, .int .i64 a.c1, .int .i64 a.c2, .int .i64 a.c3, .bool a.snd, .slice wA a.ws.length wc, .int .i64 a.top, .slice tA a.tb.length tc, .slice fA a.fr.length fc, .slice sA a.sl.length sc] 56)
  have HO : Pers (w1.alloc (.cells #[.int .i64 a.c0, .int .i64 a.c1, .int .i64 a.c2, .int .i64 a.c3, .bool a.snd, .slice wA a.ws.length wc, .int .i64 a.top, .slice tA a.tb.length tc, .slice fA a.fr.length fc, .slice sA a.sl.length sc] 56)) (fun w => StOwn V.heap.size w ⟨a.c0, a.c1, a.c2, a.c3, a.snd, wA, a.ws, wc, a.top, tA, a.tb, tc, fA, a.fr, fc, sA, a.sl, sc⟩) := fun w k => HO0.ext (hy.trans k)
  have HLO := Lib.hid hlo
  have HAP := Lib.hid hap
  (replace hA := hA.re hy; replace hB := hB.re hy; replace H1 := H1.re hy; replace H2 := H2.re hy; replace HX := Lib.hid (HX.out.trans hy))
  clear hy HO0 hlo hap
  generalize w1.alloc (.cells #[.int .i64 a.c0, .int .i64 a.c1, .int .i64 a.c2, .int .i64 a.c3, .bool a.snd, .slice wA a.ws.length wc, .int .i64 a.top, .slice tA a.tb.length tc, .slice fA a.fr.length fc, .slice sA a.sl.length sc] 56) = W1 at *
  generalize w1.heap.size = C at *
  have gA := hA.cells
  have gB := hB.cells
  have gC := hC.cells
  have HCA : Pers W1 (fun w => StAt w ⟨a.c0, a.c1, a.c2, a.c3, a.snd, wA, a.ws, wc, a.top, tA, a.tb, tc, fA, a.fr, fc, sA, a.sl, sc⟩) := fun w k => (HO w k).at
  have HLC := Lib.hid (show StLe ⟨a.c0, a.c1, a.c2, a.c3, a.snd, wA, a.ws, wc, a.top, tA, a.tb, tc, fA, a.fr, fc, sA, a.sl, sc⟩ from ⟨HLE.out.w, HLE.out.t, HLE.out.f, HLE.out.s⟩)
  have HCW := Lib.hid (lt_of_heap hC.here)
  have HE1 := Lib.hid (show eqvS ⟨a.c0, a.c1, a.c2, a.c3, a.snd, wA, a.ws, wc, a.top, tA, a.tb, tc, fA, a.fr, fc, sA, a.sl, sc⟩ a = true by simp [eqvS])
  obtain ⟨r, hr⟩ : ∃ r, eqvS a b = r := ⟨_, rfl⟩
  have HR := Lib.hid hr
  clear hr
  have q : (r != r) = false := by simp
  have hx1 := Ext.refl W1
  (refine wp_region_ext (W := W1) (by kernel_rfl) (by kernel_rfl) (by with_reducible assumption) ?_; (repeat (go_big_quiet_step (first | (go_at_call 28; with_reducible exact Calls.ext_of (refssame_is (a := ⟨a.c0, a.c1, a.c2, a.c3, a.snd, wA, a.ws, wc, a.top, tA, a.tb, tc, fA, a.fr, fc, sA, a.sl, sc⟩) (b := a) HE1.out _ (HCA.at (by repeat (first | (with_reducible exact Ext.refl _) | (with_reducible exact ExtOf.ext _) | (with_reducible assumption) | (with_reducible refine Ext.drew ?_) | (with_reducible refine Ext.alloc ?_ _)))) (H1.at (by repeat (first | (with_reducible exact Ext.refl _) | (with_reducible exact ExtOf.ext _) | (with_reducible assumption) | (with_reducible refine Ext.drew ?_) | (with_reducible refine Ext.alloc ?_ _)))) HLC.out HLE.out)) | (go_at_call 33; with_reducible exact Calls.ext_of (ssame_is HR.out _ (H1.at (by repeat (first | (with_reducible exact Ext.refl _) | (with_reducible exact ExtOf.ext _) | (with_reducible assumption) | (with_reducible refine Ext.drew ?_) | (with_reducible refine Ext.alloc ?_ _)))) (H2.at (by repeat (first | (with_reducible exact Ext.refl _) | (with_reducible exact ExtOf.ext _) | (with_reducible assumption) | (with_reducible refine Ext.drew ?_) | (with_reducible refine Ext.alloc ?_ _)))) HLE.out HLB.out)) | (go_at_call 28; with_reducible exact Calls.ext_of (refssame_is HR.out _ (H1.at (by repeat (first | (with_reducible exact Ext.refl _) | (with_reducible exact ExtOf.ext _) | (with_reducible assumption) | (with_reducible refine Ext.drew ?_) | (with_reducible refine Ext.alloc ?_ _)))) (H2.at (by repeat (first | (with_reducible exact Ext.refl _) | (with_reducible exact ExtOf.ext _) | (with_reducible assumption) | (with_reducible refine Ext.drew ?_) | (with_reducible refine Ext.alloc ?_ _)))) HLE.out HLB.out))))); refine wpQuiet_nil ?_; intro w1 hx)
  clear gB gC hx1 q
  (obtain ⟨uq, rfl⟩ : ∃ u : ExtOf W1, w1 = u.1 := ⟨⟨w1, hx⟩, rfl⟩; clear hx; go_wp2_with fail)
  (refine (scopy_c a _ (H1.at (by repeat (first | (with_reducible exact Ext.refl _) | (with_reducible exact ExtOf.ext _) | (with_reducible assumption) | (with_reducible refine Ext.drew ?_) | (with_reducible refine Ext.alloc ?_ _)))) HLE.out).mono ?_; rintro e w4 ⟨wA2, wc2, tA2, tc2, fA2, fc2, sA2, sc2, rfl, ho, -, hx⟩; replace hx := Ext.trans (a := W1) (by repeat (first | (with_reducible exact Ext.refl _) | (with_reducible exact ExtOf.ext _) | (with_reducible assumption) | (with_reducible refine Ext.drew ?_) | (with_reducible refine Ext.alloc ?_ _))) hx; replace hA := hA.re hx; replace hC := hC.re hx; replace H1 := H1.re hx; replace HO := HO.re hx; replace HX := Lib.hid (HX.out.trans hx))
  have hlow := show ∀ g : Nat, (wA = some ⟨g, 0, none⟩ ∨ tA = some ⟨g, 0, none⟩ ∨ fA = some ⟨g, 0, none⟩ ∨ sA = some ⟨g, 0, none⟩) → g < uq.1.heap.size from fun g hg => Nat.lt_of_lt_of_le (HLO.out g hg) (Nat.le_trans (Nat.le_of_lt HCW.out) uq.2.size)
  clear gA hx
  go_wp2_with fail
  have hD := pers_new w4 #[.int .i64 a.c0, .int .i64 a.c1, .int .i64 a.c2, .int .i64 a.c3, .bool a.snd, .slice wA2 a.ws.length wc2, .int .i64 a.top, .slice tA2 a.tb.length tc2, .slice fA2 a.fr.length fc2, .slice sA2 a.sl.length sc2] 56 _ rfl
  have hy := (Ext.refl w4).alloc (.cells #[.int .i64 a.c0, .int .i64 a.c1, .int .i64 a.c2, .int .i64 a.c3, .bool a.snd, .slice wA2 a.ws.length wc2, .int .i64 a.top, .slice tA2 a.tb.length tc2, .slice fA2 a.fr.length fc2, .slice sA2 a.sl.length sc2] 56)
  have HOD : Pers (w4.alloc (.cells #[.int .i64 a.c0, .int .i64 a.c1, .int .i64 a.c2, .int .i64 a.c3, .bool a.snd, .slice wA2 a.ws.length wc2, .int .i64 a.top, .slice tA2 a.tb.length tc2, .slice fA2 a.fr.length fc2, .slice sA2 a.sl.length sc2] 56)) (fun w => StOwn uq.1.heap.size w ⟨a.c0, a.c1, a.c2, a.c3, a.snd, wA2, a.ws, wc2, a.top, tA2, a.tb, tc2, fA2, a.fr, fc2, sA2, a.sl, sc2⟩) := fun w k => ho.ext (hy.trans k)
  have HLOW := Lib.hid hlow
  have HAD := Lib.hid (show eqvS a ⟨a.c0, a.c1, a.c2, a.c3, a.snd, wA2, a.ws, wc2, a.top, tA2, a.tb, tc2, fA2, a.fr, fc2, sA2, a.sl, sc2⟩ = true by simp [eqvS])
  have HLD := Lib.hid (show StLe ⟨a.c0, a.c1, a.c2, a.c3, a.snd, wA2, a.ws, wc2, a.top, tA2, a.tb, tc2, fA2, a.fr, fc2, sA2, a.sl, sc2⟩ from ⟨HLE.out.w, HLE.out.t, HLE.out.f, HLE.out.s⟩)
  (replace hA := hA.re hy; replace hC := hC.re hy; replace HO := HO.re hy; replace HX := Lib.hid (HX.out.trans hy))
  clear hy ho hlow H1
  generalize w4.alloc (.cells #[.int .i64 a.c0, .int .i64 a.c1, .int .i64 a.c2, .int .i64 a.c3, .bool a.snd, .slice wA2 a.ws.length wc2, .int .i64 a.top, .slice tA2 a.tb.length tc2, .slice fA2 a.fr.length fc2, .slice sA2 a.sl.length sc2] 56) = W5 at *
  generalize w4.heap.size = D at *
  generalize uq.1.heap.size = B2 at *
  go_loopw [7] (fun i wr => ∃ (k : Nat) (ws' : List Int), k ≤ a.ws.length ∧ Hid (ws'.length = a.ws.length) ∧ i = .int .i64 k ∧ Hid (CpL V A0 C D B2 a ⟨a.c0, a.c1, a.c2, a.c3, a.snd, wA, ws', wc, a.top, tA, a.tb, tc, fA, a.fr, fc, sA, a.sl, sc⟩ ⟨a.c0, a.c1, a.c2, a.c3, a.snd, wA2, a.ws, wc2, a.top, tA2, a.tb, tc2, fA2, a.fr, fc2, sA2, a.sl, sc2⟩ #[.int .i64 a.c0, .int .i64 a.c1, .int .i64 a.c2, .int .i64 a.c3, .bool a.snd, .slice wA a.ws.length wc, .int .i64 a.top, .slice tA a.tb.length tc, .slice fA a.fr.length fc, .slice sA a.sl.length sc] wr)) (fun i _ => a.ws.length - (intOf i).toNat)
  case atStart => exact ⟨0, a.ws, by omega, Lib.hid rfl, rfl, Lib.hid (CpL.mk HX.out hA.here hC.here hD.here HO.here HLOW.out HOD.here)⟩
  case round =>
    obtain ⟨k, ws', hk, HLN, rfl, HC⟩ := hrel
    by_cases hlt : k < a.ws.length
    rotate_left
    · obtain rfl : k = a.ws.length := by omega
      clear hlt hk
      have k1 := (cells_of HC.out.bc).1
      go_wp2_with fail
      clear k1
      go_loopw [8] (fun i wr => ∃ (k : Nat) (tb' : List (Int × Int)), k ≤ a.tb.length ∧ Hid (tb'.length = a.tb.length) ∧ i = .int .i64 k ∧ Hid (CpL V A0 C D B2 a ⟨a.c0, a.c1, a.c2, a.c3, a.snd, wA, ws', wc, a.top, tA, tb', tc, fA, a.fr, fc, sA, a.sl, sc⟩ ⟨a.c0, a.c1, a.c2, a.c3, a.snd, wA2, a.ws, wc2, a.top, tA2, a.tb, tc2, fA2, a.fr, fc2, sA2, a.sl, sc2⟩ #[.int .i64 a.c0, .int .i64 a.c1, .int .i64 a.c2, .int .i64 a.c3, .bool a.snd, .slice wA a.ws.length wc, .int .i64 a.top, .slice tA a.tb.length tc, .slice fA a.fr.length fc, .slice sA a.sl.length sc] wr)) (fun i _ => a.tb.length - (intOf i).toNat)
      case atStart => exact ⟨0, a.tb, by omega, Lib.hid rfl, rfl, HC⟩
      case round =>
        obtain ⟨k, tb', hk, HLN, rfl, HC⟩ := hrel
        have HLNt := HLN
        by_cases hlt : k < a.tb.length
        rotate_left
        · obtain rfl : k = a.tb.length := by omega
          clear hlt hk
          have k1 := (cells_of HC.out.bc).1
          go_wp2_with fail
          clear k1
          go_loopw [9] (fun i wr => ∃ (k : Nat) (fr' : List (Int × Int)), k ≤ a.fr.length ∧ Hid (fr'.length = a.fr.length) ∧ i = .int .i64 k ∧ Hid (CpL V A0 C D B2 a ⟨a.c0, a.c1, a.c2, a.c3, a.snd, wA, ws', wc, a.top, tA, tb', tc, fA, fr', fc, sA, a.sl, sc⟩ ⟨a.c0, a.c1, a.c2, a.c3, a.snd, wA2, a.ws, wc2, a.top, tA2, a.tb, tc2, fA2, a.fr, fc2, sA2, a.sl, sc2⟩ #[.int .i64 a.c0, .int .i64 a.c1, .int .i64 a.c2, .int .i64 a.c3, .bool a.snd, .slice wA a.ws.length wc, .int .i64 a.top, .slice tA a.tb.length tc, .slice fA a.fr.length fc, .slice sA a.sl.length sc] wr)) (fun i _ => a.fr.length - (intOf i).toNat)
          case atStart => exact ⟨0, a.fr, by omega, Lib.hid rfl, rfl, HC⟩
          case round =>
            obtain ⟨k, fr', hk, HLN, rfl, HC⟩ := hrel
            by_cases hlt : k < a.fr.length
            rotate_left
            · obtain rfl : k = a.fr.length := by omega
              clear hlt hk
              have k1 := (cells_of HC.out.bc).1
              go_wp2_with fail
              clear k1
              go_loopw [10] (fun i wr => ∃ (k : Nat) (sl' : List (Bool × Int × Int)), k ≤ a.sl.length ∧ Hid (sl'.length = a.sl.length) ∧ i = .int .i64 k ∧ Hid (CpL V A0 C D B2 a ⟨a.c0, a.c1, a.c2, a.c3, a.snd, wA, ws', wc, a.top, tA, tb', tc, fA, fr', fc, sA, sl', sc⟩ ⟨a.c0, a.c1, a.c2, a.c3, a.snd, wA2, a.ws, wc2, a.top, tA2, a.tb, tc2, fA2, a.fr, fc2, sA2, a.sl, sc2⟩ #[.int .i64 a.c0, .int .i64 a.c1, .int .i64 a.c2, .int .i64 a.c3, .bool a.snd, .slice wA a.ws.length wc, .int .i64 a.top, .slice tA a.tb.length tc, .slice fA a.fr.length fc, .slice sA a.sl.length sc] wr)) (fun i _ => a.sl.length - (intOf i).toNat)
              case atStart => exact ⟨0, a.sl, by omega, Lib.hid rfl, rfl, HC⟩
              case round =>
                obtain ⟨k, sl', hk, HLN, rfl, HC⟩ := hrel
                by_cases hlt : k < a.sl.length
                rotate_left
                · obtain rfl : k = a.sl.length := by omega
                  clear hlt hk
                  have k1 := (cells_of HC.out.bc).1
                  have k2 := (cells_of HC.out.ba).1
                  have k3 := (cells_of HC.out.bd).1
                  go_wp2_with fail
                  clear k1 k2 k3
                  refine (refssame_is (a := a) (b := ⟨a.c0, a.c1, a.c2, a.c3, a.snd, wA2, a.ws, wc2, a.top, tA2, a.tb, tc2, fA2, a.fr, fc2, sA2, a.sl, sc2⟩) HAD.out _ (HA.out.ext HC.out.ext) HC.out.d.at HLE.out HLD.out).mono ?_
                  rintro e w8 ⟨rfl, hx⟩
                  have HX8 := Lib.hid (HC.out.ext.trans hx)
                  clear hx
                  go_wp2_with fail
                  refine (awake15_any _).mono ?_
                  rintro e w9 ⟨rfl, hx⟩
                  have HX9 := Lib.hid (HX8.out.trans hx)
                  clear hx
                  go_wp2_with fail
                  go_ret
                  exact ⟨rfl, HX9.out⟩
                have hk2 : k < sl'.length := by rw [HLN.out]; exact hlt
                obtain ⟨g, hgA, hg1, hg3⟩ := own_some HC.out.own.s (by intro h; have h2 : sl' = [] := h; rw [h2] at hk2; simp at hk2)
                have hgA2 : sA = some ⟨g, 0, none⟩ := hgA
                subst hgA2
                clear hgA
                have hg2 := HC.out.low g (.inr (.inr (.inr rfl)))
                have hcell := own_cellAt slotCells (by decide) HC.out.own.s rfl k 1 hk2 _ rfl
                have hfrz := own_frozen HC.out.own.s
                obtain ⟨cu, hcu⟩ := own_heap HC.out.own.s
                simp only [Nat.mul_one, Nat.add_zero] at hcell
                obtain ⟨z, hz⟩ : ∃ z, sl'[k].2.1 = z := ⟨_, rfl⟩
                rw [hz] at hcell
                clear hz
                have k1 := (cells_of HC.out.bc).1
                have ib0 : (0 : Int) ≤ (k : Int) := by omega
                have ib1 : (k : Int) < (a.sl.length : Int) := by omega
                have hln : a.sl.length ≤ 98304 := HLE.out.s
                clear hk2
                go_wp2_with fail
                go_roundw
                case rel => exact ⟨k + 1, sl'.set k _, by omega, Lib.hid (by rw [List.length_set]; exact HLN.out), by go_num, Lib.hid (HC.out.set hg1 hg2 hcu (by decide) _ _ (HC.out.own.setS rfl k 1 (by show k < sl'.length; rw [HLN.out]; exact hlt) (by decide) ((sl'[k]'(by rw [HLN.out]; exact hlt)).1, wrap64 (z + 1), (sl'[k]'(by rw [HLN.out]; exact hlt)).2.2) (.int .i64 (wrap64 (z + 1))) rfl) ⟨rfl, rfl, rfl, rfl⟩)⟩
                case measure => simp [intOf]; omega
            have hk2 : k < fr'.length := by rw [HLN.out]; exact hlt
            obtain ⟨g, hgA, hg1, hg3⟩ := own_some HC.out.own.f (by intro h; have h2 : fr' = [] := h; rw [h2] at hk2; simp at hk2)
            have hgA2 : fA = some ⟨g, 0, none⟩ := hgA
            subst hgA2
            clear hgA
            have hg2 := HC.out.low g (.inr (.inr (.inl rfl)))
            have hcell := own_cellAt spanCells (by decide) HC.out.own.f rfl k 0 hk2 _ rfl
            have hfrz := own_frozen HC.out.own.f
            obtain ⟨cu, hcu⟩ := own_heap HC.out.own.f
            simp only [Nat.mul_one, Nat.add_zero] at hcell
            obtain ⟨z, hz⟩ : ∃ z, fr'[k].1 = z := ⟨_, rfl⟩
            rw [hz] at hcell
            clear hz
            have k1 := (cells_of HC.out.bc).1
            have ib0 : (0 : Int) ≤ (k : Int) := by omega
            have ib1 : (k : Int) < (a.fr.length : Int) := by omega
            have hln : a.fr.length ≤ 98304 := HLE.out.f
            clear hk2
            go_wp2_with fail
            go_roundw
            case rel => exact ⟨k + 1, fr'.set k _, by omega, Lib.hid (by rw [List.length_set]; exact HLN.out), by go_num, Lib.hid (HC.out.set hg1 hg2 hcu (by decide) _ _ (HC.out.own.setF ((aprt_len (by simp [HLNt.out]) (by simp [HLN.out])).1 HAP.out) rfl k 0 (by show k < fr'.length; rw [HLN.out]; exact hlt) (by decide) (_, (fr'[k]'(by rw [HLN.out]; exact hlt)).2) (.int .i64 _) rfl) ⟨rfl, rfl, rfl, rfl⟩)⟩
            case measure => simp [intOf]; omega
        have hk2 : k < tb'.length := by rw [HLN.out]; exact hlt
        obtain ⟨g, hgA, hg1, hg3⟩ := own_some HC.out.own.t (by intro h; have h2 : tb' = [] := h; rw [h2] at hk2; simp at hk2)
        have hgA2 : tA = some ⟨g, 0, none⟩ := hgA
        subst hgA2
        clear hgA
        have hg2 := HC.out.low g (.inr (.inl rfl))
        have hcell := own_cellAt spanCells (by decide) HC.out.own.t rfl k 0 hk2 _ rfl
        have hfrz := own_frozen HC.out.own.t
        obtain ⟨cu, hcu⟩ := own_heap HC.out.own.t
        simp only [Nat.mul_one, Nat.add_zero] at hcell
        obtain ⟨z, hz⟩ : ∃ z, tb'[k].1 = z := ⟨_, rfl⟩
        rw [hz] at hcell
        clear hz
        have k1 := (cells_of HC.out.bc).1
        have ib0 : (0 : Int) ≤ (k : Int) := by omega
        have ib1 : (k : Int) < (a.tb.length : Int) := by omega
        have hln : a.tb.length ≤ 98304 := HLE.out.t
        clear hk2
        go_wp2_with fail
        go_roundw
        case rel => exact ⟨k + 1, tb'.set k _, by omega, Lib.hid (by rw [List.length_set]; exact HLN.out), by go_num, Lib.hid (HC.out.set hg1 hg2 hcu (by decide) _ _ (HC.out.own.setT ((aprt_len (by simp [HLN.out]) rfl).1 HAP.out) rfl k 0 (by show k < tb'.length; rw [HLN.out]; exact hlt) (by decide) (_, (tb'[k]'(by rw [HLN.out]; exact hlt)).2) (.int .i64 _) rfl) ⟨rfl, rfl, rfl, rfl⟩)⟩
        case measure => simp [intOf]; omega
    have hk2 : k < ws'.length := by rw [HLN.out]; exact hlt
    obtain ⟨g, hgA, hg1, hg3⟩ := own_some HC.out.own.w (by intro h; have h2 : ws' = [] := h; rw [h2] at hk2; simp at hk2)
    have hgA2 : wA = some ⟨g, 0, none⟩ := hgA
    subst hgA2
    clear hgA
    have hg2 := HC.out.low g (.inl rfl)
    have hcell := own_cellAt u64Cells (by decide) HC.out.own.w rfl k 0 hk2 _ rfl
    have hfrz := own_frozen HC.out.own.w
    obtain ⟨cu, hcu⟩ := own_heap HC.out.own.w
    simp only [Nat.mul_one, Nat.add_zero] at hcell
    obtain ⟨z, hz⟩ : ∃ z, ws'[k] = z := ⟨_, rfl⟩
    rw [hz] at hcell
    clear hz
    have k1 := (cells_of HC.out.bc).1
    have ib0 : (0 : Int) ≤ (k : Int) := by omega
    have ib1 : (k : Int) < (a.ws.length : Int) := by omega
    have hln : a.ws.length ≤ 98304 := HLE.out.w
    clear hk2
    go_wp2_with fail
    go_roundw
    case rel => exact ⟨k + 1, ws'.set k _, by omega, Lib.hid (by rw [List.length_set]; exact HLN.out), by go_num, Lib.hid (HC.out.set hg1 hg2 hcu (by decide) _ _ (HC.out.own.setW rfl k _) ⟨rfl, rfl, rfl, rfl⟩)⟩
    case measure => simp [intOf]; omega
theorem stateCopies_fin {v0 v1 : Value} {w : World} (h0 : IsState w v0) (h1 : IsState w v1) : Calls Try.prog 7 #[v0, v1] w fun e w' => e = .returned (.bool true) ∧ Ext w w' := by
  obtain ⟨a, rfl, ha, oka⟩ := h0
  obtain ⟨b, rfl, hb, okb⟩ := h1
  exact stateCopies_any a b w ha hb oka okb
end Go.Proofs.Ytkcpfimhbogdcaa

