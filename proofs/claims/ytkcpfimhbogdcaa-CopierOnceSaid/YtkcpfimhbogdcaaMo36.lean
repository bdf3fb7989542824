/- Merged by program (merge.py) out of: CpE, CpF, CpG, CpH, CpI, CpJ, CpK, CpM, CpN, CpW. -/
import Derived.Handy
import Derived.Test.YtkcpfimhbogdcaaMo34
import Derived.Test.YtkcpfimhbogdcaaMo35
import Derived.Test.YtkcpfimhbogdcaaMo7
import Derived.Test.YtkcpfimhbogdcaaMo11
/- A living run: stores, what is taken, what is copied. -/
set_option linter.unusedSimpArgs false
set_option linter.unusedVariables false
namespace Go.Proofs.Ytkcpfimhbogdcaa
open Go.RowKit Go.Shelf
section
variable {Bo : Nat} {w w' : World} {b p : Nat} {A : Option Addr} {cap : Nat} {tA : Option Addr} {tc : Nat} {fA : Option Addr} {fc : Nat} {s : LoD}
theorem Own.only {α : Type} {e n : Nat} {f : α → List Value} {B g : Nat} {x : Value} {xs : List α} (h : Own e n f w B x xs) (hg : Only g w w') {cs : Array Value} {t : TypeId} {r : Nat × Nat} (hb : w.heap[g]? = some (.cells cs t r)) (hne : t ≠ e) : Own e n f w' B x xs :=
  h.kept hg (.inr (fun hh => h.ne_block hb hne hh.symm))
theorem blk_only {g k : Nat} {o : Obj} (h : w.heap[k]? = some o) (hg : Only g w w') (hne : k ≠ g) : w'.heap[k]? = some o := (hg.block k (lt_of_heap h) (fun e => hne (by injection e))).trans h
theorem LoB.only (h : LoB Bo w b p A cap tA tc fA fc s) {g : Nat} {cs : Array Value} {t : TypeId} {r : Nat × Nat} (hb : w.heap[g]? = some (.cells cs t r)) (hg : Only g w w') (h1 : t ≠ 102) (h2 : t ≠ 123) (h3 : t ≠ 64) (h4 : t ≠ 23) : LoB Bo w' b p A cap tA tc fA fc s :=
  ⟨blk_only h.blk hg (blk_ne h.blk hb (fun e => h1 e.symm)), ⟨blk_only h.ar.blk hg (blk_ne h.ar.blk hb (fun e => h2 e.symm)), h.ar.own.only hg hb h3, h.ar.base, h.ar.len, h.ar.bd⟩, h.tab.only hg hb h4, h.fre.only hg hb h4, h.base⟩
end
section
variable {V0 : World} {K : RunK} {c : RunC} {w w' V : World}
/-- What was counted is stored. -/
theorem RunV.count (h : RunV V0 K c w) (j : Nat) (x k0 k1 k2 k3 k4 : Int) (hs : (#[.bool true, .pointer (some ⟨K.p, 0, none⟩), .int .i64 K.fa, .int .i64 K.fs, .int .i64 K.tp, .int .i64 K.ta, .int .i64 K.ts, .pointer (some ⟨K.B, 0, none⟩), .pointer (some ⟨K.b, 0, none⟩), .int .i64 c.k0, .int .i64 c.k1, .int .i64 c.k2, .int .i64 c.k3, .int .i64 c.k4] : Array Value).setIfInBounds (9 + j) (.int .i64 x) = #[.bool true, .pointer (some ⟨K.p, 0, none⟩), .int .i64 K.fa, .int .i64 K.fs, .int .i64 K.tp, .int .i64 K.ta, .int .i64 K.ts, .pointer (some ⟨K.B, 0, none⟩), .pointer (some ⟨K.b, 0, none⟩), .int .i64 k0, .int .i64 k1, .int .i64 k2, .int .i64 k3, .int .i64 k4]) : RunV V0 K ⟨c.ws, c.used, k0, k1, k2, k3, k4⟩ (w.setCell ⟨K.R, 9 + j, none⟩ (.int .i64 x)) := by
  have hg : Only K.R w (w.setCell ⟨K.R, 9 + j, none⟩ (.int .i64 x)) := (Only.refl _ _).setCell _ _
  obtain ⟨tA, tc, fA, fc, hl⟩ := h.lo
  exact ⟨by rw [blk_set h.blk, hs], blk_only h.bmp hg (blk_ne h.bmp h.blk (by decide)), ⟨tA, tc, fA, fc, hl.only h.blk hg (by decide) (by decide) (by decide) (by decide)⟩, h.ext.setCell (p := ⟨K.R, 9 + j, none⟩) h.bR _, h.len, h.bR, h.bB, h.may, h.us, h.fr⟩
/-- Words were taken. -/
theorem RunV.take (h : RunV V0 K c w) {u : Int} (hb : BumpAt w' K.B K.ta K.ts u) (hg : Only K.B w w') (hu : 0 ≤ u ∧ u ≤ K.ts) : RunV V0 K ⟨c.ws, u, c.k0, c.k1, c.k2, c.k3, c.k4⟩ w' := by
  obtain ⟨tA, tc, fA, fc, hl⟩ := h.lo
  exact ⟨blk_only h.blk hg (blk_ne h.blk h.bmp (by decide)), hb, ⟨tA, tc, fA, fc, hl.only h.bmp hg (by decide) (by decide) (by decide) (by decide)⟩, hg.ext h.ext h.bB, h.len, h.bR, h.bB, h.may, hu, h.fr⟩
set_option maxRecDepth 100000
set_option maxHeartbeats 2000000
theorem crdead_no (h : RunV V0 K c V) : Calls Try.prog 96 #[.pointer (some ⟨K.R, 0, none⟩)] V fun e w' => e = .returned (.bool false) ∧ Ext V w' := by
  have k1 : V.cell? ⟨K.R, 0, none⟩ = some (.bool true) := (cells_of h.blk).1 0
  clear h
  go_enter Try.func96, Try.ntmps96
  go_wp2_with fail
  go_ret
  exact ⟨rfl, Ext.refl _⟩
/-- What a copy leaves of the words. -/
def copyL (ws : List Int) (to at_ n : Nat) : List Int := (layU ws to ((ws.drop at_).take n)).set at_ (4 * to + 2)
theorem copyL_len (ws : List Int) (to at_ n : Nat) : (copyL ws to at_ n).length = ws.length := by rw [copyL, List.length_set, layU_len]
def RunPost (V0 : World) (K : RunK) (v : Value) (c : RunC) (V : World) (e : Ending) (w' : World) : Prop := e = .returned v ∧ RunV V0 K c w' ∧ Fr K.S V w'
theorem crcopied_ok (h : RunV V0 K c V) (at_ to n : Nat) (hd : Hd) (hn : hsize hd = n) (h1 : 1 ≤ n) (h2 : (at_ : Int) + n ≤ K.tp) (h3 : c.used + n ≤ K.ts) (hto : K.ta + c.used = to) (h4 : to + n ≤ K.N) (h5 : -9000000 ≤ c.k0 ∧ c.k0 ≤ 9000000) :
    Calls Try.prog 99 #[.pointer (some ⟨K.R, 0, none⟩), .int .i64 at_, .agg #[.int .i64 hd.k, .int .i64 hd.f, .int .i64 hd.r, .bool hd.m, .int .i64 hd.c]] V (RunPost V0 K (.tuple #[.int .u64 (4 * to + 2), .int .i64 0]) ⟨copyL c.ws to at_ n, c.used + n, c.k0 + n, c.k1, c.k2, c.k3, c.k4⟩ V) := by
  obtain ⟨ws, used, k0, k1, k2, k3, k4⟩ := c
  simp only at h3 hto h5
  have hfr := h.fr
  have hmy := h.may
  have hln := h.len
  have hus := h.us
  simp only at hln hus
  have hA8 := h.own.len
  simp only at hA8
  have hb0 := may_bd hmy
  have hx0 := (Ext.refl V).alloc (.cells #[.int .i64 hd.k, .int .i64 hd.f, .int .i64 hd.r, .bool hd.m, .int .i64 hd.c] 47)
  have hH := pers_new V #[.int .i64 hd.k, .int .i64 hd.f, .int .i64 hd.r, .bool hd.m, .int .i64 hd.c] 47 _ rfl
  have HW := h.pers.re hx0
  have HX : Hid (Fr K.S V (V.alloc (.cells #[.int .i64 hd.k, .int .i64 hd.f, .int .i64 hd.r, .bool hd.m, .int .i64 hd.c] 47))) := Lib.hid (Fr.of_ext hx0)
  have HSZ := Lib.hid (fun w => hsize_is hd n hn w)
  have d0 : decide (K.tp - (at_ : Int) < (n : Int)) = false := by simp; omega
  have e0 : wrap64 (K.tp - (at_ : Int)) = K.tp - (at_ : Int) := IntWalk.wrap64_in _ ⟨by omega, by omega⟩
  have e1 : wrap64 (k0 + (n : Int)) = k0 + (n : Int) := IntWalk.wrap64_in _ ⟨by omega, by omega⟩
  have HTK := Lib.hid (fun w (hb : BumpAt w K.B K.ta K.ts used) => take_ok w K.B K.ta K.ts used n hb hb0.1 hb0.2.1 hus.1 hus.2 (by omega) (by omega) (by omega))
  rw [hto] at HTK
  have HMV := Lib.hid (fun w (ha : ArO V0.heap.size w K.p K.A K.cap ws) => amove_ok K.p K.A K.cap ws to at_ n V0.heap.size w ha h1 (by omega) (by omega))
  have hto2 : (to : Int) ≤ 1099511627776 := by omega
  have HFW := Lib.hid (fun w => hforward_is (to : Int) (4 * to + 2) 0 (by rw [(enc_2 (by omega) hto2).1]; omega) (enc_2 (by omega) hto2).2 w)
  have HAT : Hid (atA (some (layU ws to ((ws.drop at_).take n))) (at_ : Int) = 0) := Lib.hid (by simp only [atA, layU_len]; rw [if_neg (by omega)])
  have HWR : Hid (wrL (layU ws to ((ws.drop at_).take n)) (at_ : Int) (4 * to + 2) = copyL ws to at_ n) := Lib.hid (by rw [wrL, if_pos HAT.out]; rfl)
  have HLN := Lib.hid hln
  have HUS : Hid (0 ≤ used + (n : Int) ∧ used + (n : Int) ≤ K.ts) := Lib.hid ⟨by omega, h3⟩
  have HTO : Hid ((0 : Int) ≤ 4 * to + 2 ∧ (4 * to + 2 : Int) < 18446744073709551616) := Lib.hid ⟨by omega, by omega⟩
  clear hfr hmy hln hus hb0 hx0 hn h1 h2 h3 hto h4 h5 hto2 h hA8
  go_enter Try.func99, Try.ntmps99
  go_wp2_with fail
  generalize V.alloc (.cells #[.int .i64 hd.k, .int .i64 hd.f, .int .i64 hd.r, .bool hd.m, .int .i64 hd.c] 47) = W at *
  generalize V.heap.size = H at *
  refine (HSZ.out W).mono ?_
  rintro e w1 ⟨rfl, hx⟩
  (replace HW := HW.re hx; replace hH := hH.re hx)
  replace HX := Lib.hid (HX.out.trans (Fr.of_ext hx))
  clear hx
  have gR := (cells_of HW.here.blk).1
  go_wp2_with fail
  refine (HTK.out w1 HW.here.bmp).mono ?_
  rintro e w2 ⟨rfl, hb2, hg2⟩
  have HR2 := Lib.hid (HW.here.take hb2 hg2 HUS.out)
  replace HX := Lib.hid (HX.out.trans (Fr.of_only hg2 (.inr (.inl rfl))))
  clear hb2 hg2 gR HW hH
  have gR := (cells_of HR2.out.blk).1
  go_wp2_with fail
  refine (HMV.out w2 HR2.out.own).mono ?_
  rintro e w3 ⟨rfl, ha3, hg3⟩
  rw [HLN.out] at hg3
  have HR3 := Lib.hid (HR2.out.turn ha3 (by rw [layU_len]; exact HLN.out) hg3)
  replace HX := Lib.hid (HX.out.trans (Fr.of_grown hg3 (fun g e => .inr (.inr e))))
  clear ha3 hg3 gR HR2
  go_wp2_with fail
  refine (HFW.out w3).mono ?_
  rintro e w4 ⟨rfl, hx⟩
  replace HR3 := Lib.hid (HR3.out.grow hx)
  replace HX := Lib.hid (HX.out.trans (Fr.of_ext hx))
  clear hx
  have gR := (cells_of HR3.out.blk).1
  go_wp2_with fail
  have Z := awrite_any K.p K.A K.cap (layU ws to ((ws.drop at_).take n)) (at_ : Int) (4 * to + 2) V0.heap.size w4 HR3.out.own HTO.out
  rw [HAT.out, HWR.out, layU_len] at Z
  refine Z.mono ?_
  clear Z
  rintro e w5 ⟨rfl, ha5, hg5⟩
  rw [HLN.out] at hg5
  have HR5 := Lib.hid (HR3.out.turn ha5 (by rw [copyL_len]; exact HLN.out) hg5)
  replace HX := Lib.hid (HX.out.trans (Fr.of_grown hg5 (fun g e => .inr (.inr e))))
  clear ha5 hg5 gR HR3
  have gR := (cells_of HR5.out.blk).1
  have fR := (cells_of HR5.out.blk).2
  go_wp2_with fail
  ((try simp only [Exit.inBlock, Exit.then]); refine bodyPost_ret (v := .tuple #[.int .u64 (4 * to + 2), .int .i64 0]) (by simp only [results, Try.results99]; go_simp) rfl ?_)
  exact ⟨rfl, HR5.out.count 0 (k0 + n) (k0 + n) k1 k2 k3 k4 rfl, HX.out.set (.inl rfl) 9 _⟩
end
end Go.Proofs.Ytkcpfimhbogdcaa

/- A living run: Forward. -/
set_option linter.unusedSimpArgs false
set_option linter.unusedVariables false
namespace Go.Proofs.Ytkcpfimhbogdcaa
open Go.RowKit Go.Shelf
set_option maxRecDepth 100000
set_option maxHeartbeats 2000000
section
variable {V0 : World} {K : RunK} {c : RunC} {V : World}
theorem crfw_none (h : RunV V0 K c V) (v : Int) (hv : 0 ≤ v ∧ v < 18446744073709551616) (hb : refB v = false) :
    Calls Try.prog 39 #[.pointer (some ⟨K.R, 0, none⟩), .int .u64 v] V (RunPost V0 K (.tuple #[.int .u64 v, .bool false, .int .i64 0]) c V) := by
  have HW := h.pers
  have HD := Lib.hid (crdead_no h)
  have HV := Lib.hid (fun w => vref_is v (refX v) false hv rfl hb w)
  clear h hv hb
  generalize refX v = x at *
  go_enter Try.func39, Try.ntmps39
  go_wp2_with fail
  refine HD.out.mono ?_
  rintro e w1 ⟨rfl, hx⟩
  have HX := Lib.hid hx
  (replace HW := HW.re hx)
  clear hx
  go_wp2_with fail
  refine (HV.out w1).mono ?_
  rintro e w2 ⟨rfl, hx⟩
  replace HX := Lib.hid (HX.out.trans hx)
  (replace HW := HW.re hx)
  clear hx
  go_wp2_with fail
  ((try simp only [Exit.inBlock, Exit.then]); refine bodyPost_ret (v := .tuple #[.int .u64 v, .bool false, .int .i64 0]) (by simp only [results, Try.results39]; go_simp) rfl ?_)
  exact ⟨rfl, HW.here, Fr.of_ext HX.out⟩
/-- It leads out of the span, where no large object is. -/
theorem crfw_out (h : RunV V0 K c V) (v x : Int) (hv : 0 ≤ v ∧ v < 18446744073709551616) (hb : refB v = true) (hx : refX v = x) (ho : x < K.fa ∨ K.tp ≤ x) :
    Calls Try.prog 39 #[.pointer (some ⟨K.R, 0, none⟩), .int .u64 v] V (RunPost V0 K (.tuple #[.int .u64 0, .bool false, .int .i64 2]) c V) := by
  obtain ⟨tA, tc, fA, fc, hl⟩ := h.lo
  have HLO := hl.pers
  have HW := h.pers
  have HD := Lib.hid (crdead_no h)
  have HV := Lib.hid (fun w => vref_is v x true hv hx hb w)
  have hc : (decide (x < K.fa) = true) ∨ (decide (x < K.fa) = false ∧ decide (K.tp ≤ x) = true) := by
    by_cases h1 : x < K.fa
    · exact .inl (by simpa using h1)
    · exact .inr ⟨by simpa using h1, by simp; omega⟩
  clear h hv hb hx ho hl
  rcases hc with d0 | ⟨d0, d1⟩
  all_goals
    go_enter Try.func39, Try.ntmps39
    go_wp2_with fail
    refine HD.out.mono ?_
    rintro e w1 ⟨rfl, hx⟩
    have HX := Lib.hid hx
    (replace HW := HW.re hx; replace HLO := HLO.re hx)
    clear hx
    go_wp2_with fail
    refine (HV.out w1).mono ?_
    rintro e w2 ⟨rfl, hx⟩
    replace HX := Lib.hid (HX.out.trans hx)
    (replace HW := HW.re hx; replace HLO := HLO.re hx)
    clear hx
    have gR := (cells_of HW.here.blk).1
    go_wp2_with fail
    refine (lomark_none ⟨c.ws, [], [], 0⟩ x w2 HLO.here (by simp) rfl).mono ?_
    rintro e w3 ⟨rfl, hx⟩
    replace HX := Lib.hid (HX.out.trans hx)
    (replace HW := HW.re hx; replace HLO := HLO.re hx)
    clear hx gR
    go_wp2_with fail
    ((try simp only [Exit.inBlock, Exit.then]); refine bodyPost_ret (v := .tuple #[.int .u64 0, .bool false, .int .i64 2]) (by simp only [results, Try.results39]; go_simp) rfl ?_)
    exact ⟨rfl, HW.here, Fr.of_ext HX.out⟩
/-- It leads to an object that was copied. -/
theorem crfw_gone (h : RunV V0 K c V) (v y : Int) (at_ : Nat) (hv : 0 ≤ v ∧ v < 18446744073709551616) (hb : refB v = true) (hx : refX v = at_) (h1 : K.fa ≤ at_) (h2 : (at_ : Int) < K.tp) (hy : c.ws.getD at_ 0 = y) (hg : refB y = true) :
    Calls Try.prog 39 #[.pointer (some ⟨K.R, 0, none⟩), .int .u64 v] V (RunPost V0 K (.tuple #[.int .u64 y, .bool false, .int .i64 0]) c V) := by
  have hlen := h.len
  have hfr := h.fr
  have hlt : at_ < c.ws.length := by omega
  have ha : atA (some c.ws) (at_ : Int) = 0 := by simp only [atA]; rw [if_neg (by omega)]
  have hr : rdA (some c.ws) (at_ : Int) = y := by rw [rdA, if_pos ha]; simpa using hy
  have hyb := h.own.bd _ (getD_mem (d := 0) hlt)
  rw [hy] at hyb
  have HW := h.pers
  have HD := Lib.hid (crdead_no h)
  have HV := Lib.hid (fun w => vref_is v (at_ : Int) true hv hx hb w)
  have HF := Lib.hid (fun w => hforwarded_is y (refX y) true hyb rfl hg w)
  have HA := Lib.hid (fun w hp => aread_is (some ⟨K.p, 0, none⟩) (some c.ws) (at_ : Int) y 0 hr ha w hp)
  have d0 : decide ((at_ : Int) < K.fa) = false := by simp; omega
  have d1 : decide (K.tp ≤ (at_ : Int)) = false := by simp; omega
  clear h hv hb hx hlen hfr hlt ha hr hyb h1 h2 hy hg
  generalize refX y = yx at *
  go_enter Try.func39, Try.ntmps39
  go_wp2_with fail
  refine HD.out.mono ?_
  rintro e w1 ⟨rfl, hx⟩
  have HX := Lib.hid hx
  (replace HW := HW.re hx)
  clear hx
  go_wp2_with fail
  refine (HV.out w1).mono ?_
  rintro e w2 ⟨rfl, hx⟩
  replace HX := Lib.hid (HX.out.trans hx)
  (replace HW := HW.re hx)
  clear hx
  have gR := (cells_of HW.here.blk).1
  go_wp2_with fail
  refine (HA.out w2 HW.here.own.p).mono ?_
  rintro e w3 ⟨rfl, hx⟩
  replace HX := Lib.hid (HX.out.trans hx)
  (replace HW := HW.re hx)
  clear hx gR
  go_wp2_with fail
  refine (HF.out w3).mono ?_
  rintro e w4 ⟨rfl, hx⟩
  replace HX := Lib.hid (HX.out.trans hx)
  (replace HW := HW.re hx)
  clear hx
  go_wp2_with fail
  ((try simp only [Exit.inBlock, Exit.then]); refine bodyPost_ret (v := .tuple #[.int .u64 y, .bool false, .int .i64 0]) (by simp only [results, Try.results39]; go_simp) rfl ?_)
  exact ⟨rfl, HW.here, Fr.of_ext HX.out⟩
/-- It leads to an object that is copied now. -/
theorem crfw_copy (h : RunV V0 K c V) (v y : Int) (at_ to n : Nat) (hd : Hd) (hv : 0 ≤ v ∧ v < 18446744073709551616) (hb : refB v = true) (hx : refX v = at_) (h1 : K.fa ≤ at_) (h2 : (at_ : Int) < K.tp) (hy : c.ws.getD at_ 0 = y) (hg : refB y = false)
    (hdec : hdecH y.toNat = hd) (hde : hdecE y.toNat = 0) (hn : hsize hd = n) (hn1 : 1 ≤ n) (h3 : (at_ : Int) + n ≤ K.tp) (h4 : c.used + n ≤ K.ts) (hto : K.ta + c.used = to) (h5 : to + n ≤ K.N) (h6 : -9000000 ≤ c.k0 ∧ c.k0 ≤ 9000000) :
    Calls Try.prog 39 #[.pointer (some ⟨K.R, 0, none⟩), .int .u64 v] V (RunPost V0 K (.tuple #[.int .u64 (4 * to + 2), .bool true, .int .i64 0]) ⟨copyL c.ws to at_ n, c.used + n, c.k0 + n, c.k1, c.k2, c.k3, c.k4⟩ V) := by
  have hlen := h.len
  have hfr := h.fr
  have hlt : at_ < c.ws.length := by omega
  have ha : atA (some c.ws) (at_ : Int) = 0 := by simp only [atA]; rw [if_neg (by omega)]
  have hr : rdA (some c.ws) (at_ : Int) = y := by rw [rdA, if_pos ha]; simpa using hy
  have hyb := h.own.bd _ (getD_mem (d := 0) hlt)
  rw [hy] at hyb
  have HW := h.pers
  have HD := Lib.hid (crdead_no h)
  have HV := Lib.hid (fun w => vref_is v (at_ : Int) true hv hx hb w)
  have HF := Lib.hid (fun w => hforwarded_is y (refX y) false hyb rfl hg w)
  have HA := Lib.hid (fun w hp => aread_is (some ⟨K.p, 0, none⟩) (some c.ws) (at_ : Int) y 0 hr ha w hp)
  have HDE := Lib.hid (fun w => hdec_is y hd 0 hyb hdec hde w)
  have HCP := Lib.hid (fun w (hw : RunV V0 K c w) => crcopied_ok hw at_ to n hd hn hn1 h3 h4 hto h5 h6)
  have d0 : decide ((at_ : Int) < K.fa) = false := by simp; omega
  have d1 : decide (K.tp ≤ (at_ : Int)) = false := by simp; omega
  clear h hv hb hx hlen hfr hlt ha hr hyb h1 h2 hy hg hdec hde hn hn1 h3 h4 hto h5 h6
  generalize refX y = yx at *
  go_enter Try.func39, Try.ntmps39
  go_wp2_with fail
  refine HD.out.mono ?_
  rintro e w1 ⟨rfl, hx⟩
  have HX := Lib.hid hx
  (replace HW := HW.re hx)
  clear hx
  go_wp2_with fail
  refine (HV.out w1).mono ?_
  rintro e w2 ⟨rfl, hx⟩
  replace HX := Lib.hid (HX.out.trans hx)
  (replace HW := HW.re hx)
  clear hx
  have gR := (cells_of HW.here.blk).1
  go_wp2_with fail
  refine (HA.out w2 HW.here.own.p).mono ?_
  rintro e w3 ⟨rfl, hx⟩
  replace HX := Lib.hid (HX.out.trans hx)
  (replace HW := HW.re hx)
  clear hx gR
  go_wp2_with fail
  refine (HF.out w3).mono ?_
  rintro e w4 ⟨rfl, hx⟩
  replace HX := Lib.hid (HX.out.trans hx)
  (replace HW := HW.re hx)
  clear hx
  go_wp2_with fail
  refine (HDE.out w4).mono ?_
  rintro e w5 ⟨rfl, hx⟩
  replace HX := Lib.hid (HX.out.trans hx)
  (replace HW := HW.re hx)
  clear hx
  go_wp2_with fail
  have hy := (Ext.refl w5).alloc (.cells #[.int .i64 hd.k, .int .i64 hd.f, .int .i64 hd.r, .bool hd.m, .int .i64 hd.c] 47)
  replace HX := Lib.hid (HX.out.trans hy)
  (replace HW := HW.re hy)
  clear hy
  generalize w5.alloc (.cells #[.int .i64 hd.k, .int .i64 hd.f, .int .i64 hd.r, .bool hd.m, .int .i64 hd.c] 47) = W6 at *
  refine (HCP.out W6 HW.here).mono ?_
  rintro e w7 ⟨rfl, hr7, hf7⟩
  have HR := Lib.hid hr7
  have HFF := Lib.hid ((Fr.of_ext HX.out).trans hf7)
  clear hr7 hf7
  go_wp2_with fail
  ((try simp only [Exit.inBlock, Exit.then]); refine bodyPost_ret (v := .tuple #[.int .u64 (4 * to + 2), .bool true, .int .i64 0]) (by simp only [results, Try.results39]; go_simp) rfl ?_)
  exact ⟨rfl, HR.out, HFF.out⟩
end
end Go.Proofs.Ytkcpfimhbogdcaa

/- A living run: Work, Top; an arena's Words. -/
set_option linter.unusedSimpArgs false
set_option linter.unusedVariables false
namespace Go.Proofs.Ytkcpfimhbogdcaa
open Go.RowKit Go.Shelf
set_option maxRecDepth 100000
set_option maxHeartbeats 2000000
theorem awords_own (b : Nat) (A : Option Addr) (cap n : Nat) (ws : List Int) (Bo : Nat) (V : World) (h : ArO Bo V b A cap ws) (hn : ws.length = n) :
    Calls Try.prog 40 #[.pointer (some ⟨b, 0, none⟩)] V fun e w' => ∃ A2 cap2, e = .returned (.slice A2 n cap2) ∧ Own 64 1 u64C w' V.heap.size (.slice A2 n cap2) ws ∧ Ext V w' := by
  subst hn
  have HA : Pers V (fun w => ArO Bo w b A cap ws) := fun w k => h.ext k
  have HD := Lib.hid (adead_any (some ⟨b, 0, none⟩) (some ws) V h.p)
  clear h
  go_enter Try.func40, Try.ntmps40
  go_wp2_with fail
  refine HD.out.mono ?_
  rintro e w1 ⟨rfl, hx⟩
  have HX := Lib.hid hx
  (replace HA := HA.re hx)
  clear hx
  have gA := (cells_of HA.here.blk).1
  go_wp2_with fail
  refine (cloneU_any A cap ws w1 (by have := HA.here.len; omega) HA.here.arB.row).mono ?_
  rintro e w2 ⟨A2, cap2, rfl, ho, hx⟩
  have HO := Lib.hid (ho.mono (B' := V.heap.size) HX.out.size)
  replace HX := Lib.hid (HX.out.trans hx)
  clear ho hx gA
  go_wp2_with fail
  go_ret
  exact ⟨A2, cap2, rfl, HO.out, HX.out⟩
section
variable {V0 : World} {K : RunK} {c : RunC} {V : World}
theorem crwork (h : RunV V0 K c V) : Calls Try.prog 43 #[.pointer (some ⟨K.R, 0, none⟩)] V fun e w' => e = .returned (.agg #[.int .i64 c.k0, .int .i64 c.k1, .int .i64 c.k2, .int .i64 c.k3, .int .i64 c.k4]) ∧ Ext V w' := by
  have hx0 := (Ext.refl V).alloc (.cells #[.int .i64 0, .int .i64 0, .int .i64 0, .int .i64 0, .int .i64 0] 83)
  have hR := pers_new V #[.int .i64 0, .int .i64 0, .int .i64 0, .int .i64 0, .int .i64 0] 83 _ rfl
  have HW := h.pers.re hx0
  have HX := Lib.hid hx0
  have HV := Lib.hid (Nat.le_refl V.heap.size)
  clear h hx0
  go_enter Try.func43, Try.ntmps43
  go_wp2_with fail
  refine (crdead_no HW.here).mono ?_
  rintro e w1 ⟨rfl, hx⟩
  replace HX := Lib.hid (HX.out.trans hx)
  (replace HW := HW.re hx; replace hR := hR.re hx)
  clear hx
  have k1 := (cells_of hR.here).1
  have f1 := (cells_of hR.here).2
  have q := lt_of_heap hR.here
  have gR := (cells_of HW.here.blk).1
  go_wp2_with fail
  ((try simp only [Exit.inBlock, Exit.then]); refine bodyPost_ret (v := .agg #[.int .i64 c.k0, .int .i64 c.k1, .int .i64 c.k2, .int .i64 c.k3, .int .i64 c.k4]) (by simp only [results, Try.results43]; go_simp) rfl ?_)
  exact ⟨rfl, ext5x HX.out HV.out _ _ _ _ _⟩
theorem crtop (h : RunV V0 K c V) : Calls Try.prog 42 #[.pointer (some ⟨K.R, 0, none⟩)] V fun e w' => e = .returned (.int .i64 (K.ta + c.used)) ∧ Ext V w' := by
  have HW := h.pers
  have HD := Lib.hid (crdead_no h)
  have hb := may_bd h.may
  have hu := h.us
  have HT := Lib.hid (fun w (hw : BumpAt w K.B K.ta K.ts c.used) => top_at w K.B K.ta K.ts c.used hw hb.1 hb.2.1 hu.1 hu.2 (by omega))
  clear h hb hu
  go_enter Try.func42, Try.ntmps42
  go_wp2_with fail
  refine HD.out.mono ?_
  rintro e w1 ⟨rfl, hx⟩
  have HX := Lib.hid hx
  (replace HW := HW.re hx)
  clear hx
  have gR := (cells_of HW.here.blk).1
  go_wp2_with fail
  refine (HT.out w1 HW.here.bmp).mono ?_
  rintro e w2 ⟨rfl, n, rfl⟩
  clear gR
  go_wp2_with fail
  go_ret
  exact ⟨rfl, HX.out.drewN n⟩
end
end Go.Proofs.Ytkcpfimhbogdcaa

/- object.SetField; a living run: Field. -/
set_option linter.unusedSimpArgs false
set_option linter.unusedVariables false
namespace Go.Proofs.Ytkcpfimhbogdcaa
open Go.RowKit Go.Shelf
set_option maxRecDepth 100000
set_option maxHeartbeats 2000000
theorem osetfield_ok (b : Nat) (A : Option Addr) (cap : Nat) (ws : List Int) (at_ i v z : Int) (Bo : Nat) (V : World) (hA : ArO Bo V b A cap ws) (hi : -9223372036854775808 ≤ at_ ∧ at_ ≤ 9223372036854775807) (hp : placeE (some ws) at_ i false = 0) (hz : placeZ (some ws) at_ i false = z) (hv : 0 ≤ v ∧ v < 18446744073709551616) (hd : decE v = 0) :
    Calls Try.prog 117 #[.pointer (some ⟨b, 0, none⟩), .int .i64 at_, .int .i64 i, .int .u64 v] V fun e w' => e = .returned (.int .i64 0) ∧ ArO Bo w' b A cap (ws.set z.toNat v) ∧ V.grownBy w' (Value.slice A ws.length cap).ownBlock := by
  have HAR : Pers V (fun w => ArO Bo w b A cap ws) := fun w k => hA.ext k
  have Z := oplace_any (some ⟨b, 0, none⟩) (some ws) at_ i false V hA.p hi
  rw [hp, hz] at Z
  have HP := Lib.hid Z
  have Z2 := fun w => dec_any v w hv.1 hv.2
  rw [hd] at Z2
  have HDE := Lib.hid Z2
  have hpi := place_in hp
  rw [hz] at hpi
  have HAT := Lib.hid hpi.2.2.2.1
  have HV := Lib.hid hv
  clear hA Z Z2 hp hz hd hv hpi hi
  generalize decT v = t at *
  generalize decX v = x at *
  go_enter Try.func117, Try.ntmps117
  go_wp2_with fail
  refine HP.out.mono ?_
  rintro e w1 ⟨rfl, hx⟩
  have HX := Lib.hid hx
  (replace HAR := HAR.re hx)
  clear hx
  go_wp2_with fail
  refine (HDE.out w1).mono ?_
  rintro e w2 ⟨rfl, hx⟩
  replace HX := Lib.hid (HX.out.trans hx)
  (replace HAR := HAR.re hx)
  clear hx
  go_wp2_with fail
  have hy := (Ext.refl w2).alloc (.cells #[.int .i64 t, .int .i64 x] 184)
  replace HX := Lib.hid (HX.out.trans hy)
  (replace HAR := HAR.re hy)
  clear hy
  generalize w2.alloc (.cells #[.int .i64 t, .int .i64 x] 184) = W3 at *
  have Z := awrite_any b A cap ws z v Bo W3 HAR.here HV.out
  rw [HAT.out, wrL, if_pos HAT.out] at Z
  refine Z.mono ?_
  clear Z
  rintro e w4 ⟨rfl, ha4, hg4⟩
  have HA4 := Lib.hid ha4
  have HG4 := Lib.hid ((grown_of (ob := (Value.slice A ws.length cap).ownBlock) HX.out).trans hg4)
  clear ha4 hg4
  go_wp2_with fail
  go_ret
  exact ⟨rfl, HA4.out, HG4.out⟩
section
variable {V0 : World} {K : RunK} {V : World}
/-- A field that leads elsewhere now, and to nothing new. -/
theorem crfield_set (ws : List Int) (used k0 k1 k2 k3 k4 : Int) (h : RunV V0 K ⟨ws, used, k0, k1, k2, k3, k4⟩ V) (at_ i x y z : Int) (hi : -9223372036854775808 ≤ at_ ∧ at_ ≤ 9223372036854775807) (hp : placeE (some ws) at_ i false = 0) (hf : fldZ (some ws) at_ i false = x) (hz : placeZ (some ws) at_ i false = z)
    (hk : -9000000 ≤ k2 ∧ k2 ≤ 9000000) (hfw : ∀ w, RunV V0 K ⟨ws, used, k0, k1, k2 + 1, k3, k4⟩ w → Calls Try.prog 39 #[.pointer (some ⟨K.R, 0, none⟩), .int .u64 x] w (RunPost V0 K (.tuple #[.int .u64 y, .bool false, .int .i64 0]) ⟨ws, used, k0, k1, k2 + 1, k3, k4⟩ w))
    (hne : y ≠ x) (hv : 0 ≤ y ∧ y < 18446744073709551616) (hd : decE y = 0) :
    Calls Try.prog 58 #[.pointer (some ⟨K.R, 0, none⟩), .int .i64 at_, .int .i64 i] V (RunPost V0 K (.tuple #[.int .i64 0, .bool false, .int .i64 0]) ⟨ws.set z.toNat y, used, k0, k1, k2 + 1, k3, k4⟩ V) := by
  have HW := h.pers
  have HD := Lib.hid (crdead_no h)
  have Z := fun w hw => ofield_any (some ⟨K.p, 0, none⟩) (some ws) at_ i w hw hi
  rw [hp, hf] at Z
  have HF := Lib.hid Z
  have HFW := Lib.hid hfw
  have HSF := Lib.hid (fun w (hw : ArO V0.heap.size w K.p K.A K.cap ws) => osetfield_ok K.p K.A K.cap ws at_ i y z V0.heap.size w hw hi hp hz hv hd)
  have e1 : wrap64 (k2 + 1) = k2 + 1 := IntWalk.wrap64_in _ ⟨by omega, by omega⟩
  have q0 : (y != x) = true := by rw [bne_iff_ne]; exact hne
  have HLN := Lib.hid h.len
  clear h Z hi hp hf hz hk hfw hne hv hd
  go_enter Try.func58, Try.ntmps58
  go_wp2_with fail
  refine HD.out.mono ?_
  rintro e w1 ⟨rfl, hx⟩
  have HX := Lib.hid hx
  (replace HW := HW.re hx)
  clear hx
  have gR := (cells_of HW.here.blk).1
  go_wp2_with fail
  refine (HF.out w1 HW.here.own.p).mono ?_
  rintro e w2 ⟨rfl, hx⟩
  replace HX := Lib.hid (HX.out.trans hx)
  (replace HW := HW.re hx)
  clear hx gR
  have gR := (cells_of HW.here.blk).1
  have fR := (cells_of HW.here.blk).2
  go_wp2_with fail
  have HR3 := Lib.hid (HW.here.count 2 (k2 + 1) k0 k1 (k2 + 1) k3 k4 rfl)
  have HX3 := Lib.hid ((Fr.of_ext (S := K.S) HX.out).set (b := K.R) (.inl rfl) (9 + 2) (.int .i64 (k2 + 1)))
  clear gR fR HW
  rw [show (9 + 2 : Nat) = 11 from rfl] at HR3 HX3
  generalize w2.setCell ⟨K.R, 11, none⟩ (.int .i64 (k2 + 1)) = W3 at *
  refine (HFW.out W3 HR3.out).mono ?_
  rintro e w4 ⟨rfl, hr4, hf4⟩
  have HR4 := Lib.hid hr4
  have HX4 := Lib.hid (HX3.out.trans hf4)
  clear hr4 hf4
  have gR := (cells_of HR4.out.blk).1
  go_wp2_with fail
  refine (HSF.out w4 HR4.out.own).mono ?_
  rintro e w5 ⟨rfl, ha5, hg5⟩
  have hln : ws.length = K.N := HLN.out
  rw [hln] at hg5
  have HR5 := Lib.hid (HR4.out.turn ha5 (by rw [List.length_set]; exact hln) hg5)
  have HX5 := Lib.hid (HX4.out.trans (Fr.of_grown hg5 (fun g e => .inr (.inr e))))
  clear ha5 hg5 gR hln
  go_wp2_with fail
  ((try simp only [Exit.inBlock, Exit.then]); refine bodyPost_ret (v := .tuple #[.int .i64 0, .bool false, .int .i64 0]) (by simp only [results, Try.results58]; go_simp) rfl ?_)
  exact ⟨rfl, HR5.out, HX5.out⟩
end
end Go.Proofs.Ytkcpfimhbogdcaa

/- A living run: Object, of one field. -/
set_option linter.unusedSimpArgs false
set_option linter.unusedVariables false
namespace Go.Proofs.Ytkcpfimhbogdcaa
open Go.RowKit Go.Shelf
set_option maxRecDepth 100000
set_option maxHeartbeats 2000000
section
variable {V0 : World} {K : RunK} {V : World}
theorem crobject_one (ws : List Int) (used k0 k1 k2 k3 k4 : Int) (h : RunV V0 K ⟨ws, used, k0, k1, k2, k3, k4⟩ V) (at_ hk hr hc : Int) (hm : Bool) (c' : RunC) (hi : -9223372036854775808 ≤ at_ ∧ at_ ≤ 9223372036854775807) (he : headE (some ws) at_ = 0) (hh : headH (some ws) at_ = ⟨hk, 1, hr, hm, hc⟩)
    (hk1 : -9000000 ≤ k1 ∧ k1 ≤ 9000000) (hfw : ∀ w, RunV V0 K ⟨ws, used, k0, k1 + 1, k2, k3, k4⟩ w → Calls Try.prog 58 #[.pointer (some ⟨K.R, 0, none⟩), .int .i64 at_, .int .i64 0] w (RunPost V0 K (.tuple #[.int .i64 0, .bool false, .int .i64 0]) c' w)) :
    Calls Try.prog 63 #[.pointer (some ⟨K.R, 0, none⟩), .int .i64 at_] V (RunPost V0 K (.int .i64 0) c' V) := by
  have HW := h.pers
  have HD := Lib.hid (crdead_no h)
  have HH := Lib.hid (fun w hw => ohead_is (some ⟨K.p, 0, none⟩) (some ws) at_ ⟨hk, 1, hr, hm, hc⟩ 0 hh he w hw hi)
  have HFW := Lib.hid hfw
  have e1 : wrap64 (k1 + 1) = k1 + 1 := IntWalk.wrap64_in _ ⟨by omega, by omega⟩
  clear h hi he hh hk1 hfw
  go_enter Try.func63, Try.ntmps63
  go_wp2_with fail
  refine HD.out.mono ?_
  rintro e w1 ⟨rfl, hx⟩
  have HX := Lib.hid hx
  (replace HW := HW.re hx)
  clear hx
  have gR := (cells_of HW.here.blk).1
  go_wp2_with fail
  refine (HH.out w1 HW.here.own.p).mono ?_
  rintro e w2 ⟨rfl, hx⟩
  replace HX := Lib.hid (HX.out.trans hx)
  (replace HW := HW.re hx)
  clear hx gR
  have gR := (cells_of HW.here.blk).1
  have fR := (cells_of HW.here.blk).2
  have qR := lt_of_heap HW.here.blk
  go_wp2_with fail
  have HR3 := Lib.hid ((HW.here.count 1 (k1 + 1) k0 (k1 + 1) k2 k3 k4 rfl).grow ((Ext.refl _).alloc (.cells #[.int .i64 hk, .int .i64 1, .int .i64 hr, .bool hm, .int .i64 hc] 47)))
  have HX3 := Lib.hid (((Fr.of_ext (S := K.S) HX.out).set (b := K.R) (.inl rfl) (9 + 1) (.int .i64 (k1 + 1))).trans (Fr.of_ext ((Ext.refl _).alloc (.cells #[.int .i64 hk, .int .i64 1, .int .i64 hr, .bool hm, .int .i64 hc] 47))))
  clear gR fR qR HW
  rw [show (9 + 1 : Nat) = 10 from rfl] at HR3 HX3
  generalize (w2.setCell ⟨K.R, 10, none⟩ (.int .i64 (k1 + 1))).alloc (.cells #[.int .i64 hk, .int .i64 1, .int .i64 hr, .bool hm, .int .i64 hc] 47) = W3 at *
  generalize w2.heap.size = Y at *
  refine wp_loop_rounds 2 ?_
  rw [rounds_succ]
  go_wp2_with fail
  refine (HFW.out W3 HR3.out).mono ?_
  rintro e w4 ⟨rfl, hr4, hf4⟩
  have HR4 := Lib.hid hr4
  have HX4 := Lib.hid (HX3.out.trans hf4)
  clear hr4 hf4
  go_wp2_with fail
  rw [rounds_succ]
  go_wp2_with fail
  go_ret
  exact ⟨rfl, HR4.out, HX4.out⟩
end
end Go.Proofs.Ytkcpfimhbogdcaa

/- A living run: Roots, of three slots. -/
set_option linter.unusedSimpArgs false
set_option linter.unusedVariables false
namespace Go.Proofs.Ytkcpfimhbogdcaa
open Go.RowKit Go.Shelf
theorem flat_putAt {α : Type} {n : Nat} {f : α → List Value} (hf : Cells n f) (y : α) (j : Nat) (hj : j < n) (u : Value) : ∀ (xs : List α) (k : Nat) (hk : k < xs.length), f y = (f xs[k]).set j u → (xs.set k y).flatMap f = (xs.flatMap f).set (k * n + j) u := by
  intro xs
  induction xs with
  | nil => intro k hk; simp at hk
  | cons x xs ih =>
    intro k hk h
    have hl : (f x).length = n := hf.1 x
    cases k with
    | zero =>
      simp only [List.set_cons_zero, List.flatMap_cons, Nat.zero_mul, Nat.zero_add]
      rw [List.set_append_left _ _ (by omega)]
      simp only [List.getElem_cons_zero] at h
      rw [h]
    | succ k =>
      simp only [List.set_cons_succ, List.flatMap_cons]
      have e : (k + 1) * n + j = n + (k * n + j) := by rw [Nat.succ_mul]; omega
      rw [List.set_append_right _ _ (by rw [hl, e]; omega), hl, e, Nat.add_sub_cancel_left]
      congr 1
      exact ih k (by simpa using hk) (by simpa using h)
theorem own_putAt {α : Type} {e : TypeId} {n : Nat} {f : α → List Value} {w : World} {B g N cap : Nat} {xs : List α} (hf : Cells n f) (h : Own e n f w B (.slice (some ⟨g, 0, none⟩) N cap) xs) (hn : xs.length = N) (k j : Nat) (hk : k < xs.length) (hj : j < n) (y : α) (u : Value) (hy : f y = (f xs[k]).set j u) :
    Own e n f (w.setCell ⟨g, k * n + j, none⟩ u) B (.slice (some ⟨g, 0, none⟩) N cap) (xs.set k y) := by
  unfold Own at h ⊢
  rw [List.length_set, flat_putAt hf y j hj u xs k hk hy, hn]
  rw [hn] at h
  exact (World.ownsRow.stored h (k * n + j) u).1
set_option maxRecDepth 100000
set_option maxHeartbeats 2000000
section
variable {V0 : World} {K : RunK} {V w w' : World}
theorem RunV.keep {c : RunC} (h : RunV V0 K c w) (ht : Fr K.S w w') {α : Type} {e n : Nat} {f : α → List Value} {B : Nat} {x : Value} {xs : List α} (ho : Own e n f w B x xs) (h1 : 106 ≠ e) (h2 : 182 ≠ e) (h3 : 64 ≠ e) : Own e n f w' B x xs := by
  refine ho.fr ht fun g hg => ?_
  rintro (rfl | rfl | hk)
  · exact ho.ne_block h.blk h1 hg.symm
  · exact ho.ne_block h.bmp h2 hg.symm
  · have hw := h.own.own
    rw [h.len] at hw
    rcases hw.2 with ⟨e1, _⟩ | ⟨g', cap', cur', e1, _, hg', _⟩
    · rw [e1] at hk; simp [Value.ownBlock] at hk
    · rw [e1] at hk
      simp only [Value.ownBlock, Option.some.injEq] at hk
      subst hk
      exact ho.ne_block hg' h3 hg.symm
theorem RunV.far {c : RunC} (h : RunV V0 K c w) {g : Nat} {cs : Array Value} {t : TypeId} {r : Nat × Nat} (hb : w.heap[g]? = some (.cells cs t r)) (hg : V0.heap.size ≤ g) (h1 : t ≠ 102) (h2 : t ≠ 123) (h3 : t ≠ 64) (h4 : t ≠ 23) (h5 : t ≠ 106) (h6 : t ≠ 182) (i : Nat) (x : Value) : RunV V0 K c (w.setCell ⟨g, i, none⟩ x) := by
  have ho : Only g w (w.setCell ⟨g, i, none⟩ x) := (Only.refl _ _).setCell _ _
  obtain ⟨tA, tc, fA, fc, hl⟩ := h.lo
  exact ⟨blk_only h.blk ho (blk_ne h.blk hb (fun e => h5 e.symm)), blk_only h.bmp ho (blk_ne h.bmp hb (fun e => h6 e.symm)), ⟨tA, tc, fA, fc, hl.only hb ho h1 h2 h3 h4⟩, h.ext.setCell (p := ⟨g, i, none⟩) hg x, h.len, h.bR, h.bB, h.may, h.us, h.fr⟩
theorem Fr.setNew {S : Nat → Prop} {u : World} (h : Fr S u w) {g : Nat} (hg : u.heap.size ≤ g) (i : Nat) (x : Value) : Fr S u (w.setCell ⟨g, i, none⟩ x) :=
  ⟨h.os, h.tape, h.output, by simpa using h.size, fun k hk h1 => (Below.heap_setCell w ⟨g, i, none⟩ x k (fun e => by simp only at e; omega)).trans (h.block k hk h1)⟩
theorem crroots_three (ws : List Int) (used k0 k1 k2 k3 k4 : Int) (h : RunV V0 K ⟨ws, used, k0, k1, k2, k3, k4⟩ V) (lA : Option Addr) (lc : Nat) (y : Int) (b1 b2 : Bool) (ws1 : List Int) (u1 j0 j1 j2 j3 j4 : Int) (c2 : RunC) (hl : SlotsAt V lA [(true, 0, 2), (false, 0, 0), (true, 0, 2)])
    (hk : -9000000 ≤ k4 ∧ k4 ≤ 9000000) (hj : -9000000 ≤ j4 ∧ j4 ≤ 9000000) (hf1 : ∀ w, RunV V0 K ⟨ws, used, k0, k1, k2, k3, k4 + 1⟩ w → Calls Try.prog 39 #[.pointer (some ⟨K.R, 0, none⟩), .int .u64 2] w (RunPost V0 K (.tuple #[.int .u64 y, .bool b1, .int .i64 0]) ⟨ws1, u1, j0, j1, j2, j3, j4⟩ w))
    (hf2 : ∀ w, RunV V0 K ⟨ws1, u1, j0, j1, j2, j3, j4 + 1 + 1⟩ w → Calls Try.prog 39 #[.pointer (some ⟨K.R, 0, none⟩), .int .u64 2] w (RunPost V0 K (.tuple #[.int .u64 y, .bool b2, .int .i64 0]) c2 w)) :
    Calls Try.prog 59 #[.pointer (some ⟨K.R, 0, none⟩), .slice lA 3 lc] V fun e w' => ∃ oA oc, e = .returned (.tuple #[.slice oA 3 oc, .int .i64 0]) ∧ Own 66 3 slotC w' V.heap.size (.slice oA 3 oc) [(true, 0, y), (false, 0, 0), (true, 0, y)] ∧ RunV V0 K c2 w' ∧ Fr K.S V w' := by
  have HW := h.pers
  have HL := pers_row hl
  have HD := Lib.hid (crdead_no h)
  have HV0 : Hid (V0.heap.size ≤ V.heap.size) := Lib.hid h.ext.size
  have HF1 := Lib.hid hf1
  have HF2 := Lib.hid hf2
  have e1 : wrap64 (k4 + 1) = k4 + 1 := IntWalk.wrap64_in _ ⟨by omega, by omega⟩
  have e2 : wrap64 (j4 + 1) = j4 + 1 := IntWalk.wrap64_in _ ⟨by omega, by omega⟩
  have e3 : wrap64 (j4 + 1 + 1) = j4 + 1 + 1 := IntWalk.wrap64_in _ ⟨by omega, by omega⟩
  have HE := Lib.hid (And.intro e1 (And.intro e2 e3))
  clear h hl hk hj hf1 hf2 e1 e2 e3
  go_enter Try.func59, Try.ntmps59
  go_wp2_with fail
  refine HD.out.mono ?_
  rintro e w1 ⟨rfl, hx⟩
  have HX := Lib.hid hx
  (replace HW := HW.re hx; replace HL := HL.re hx)
  clear hx
  go_wp2_with fail
  refine (cloneSl_any lA lc [(true, 0, 2), (false, 0, 0), (true, 0, 2)] w1 (by decide) HL.here).mono ?_
  rintro e w2 ⟨A2, cap2, rfl, ho, hx⟩
  have HO := Lib.hid (ho.mono (B' := V.heap.size) HX.out.size)
  replace HX := Lib.hid (HX.out.trans hx)
  (replace HW := HW.re hx)
  clear hx ho HL
  obtain ⟨g, rfl, -, -⟩ := own_some HO.out (by decide)
  go_wp2_with fail
  refine wp_loop_rounds 4 ?_
  rw [rounds_succ]
  have o0 := own_get slotCells (by decide) HO.out rfl 0 0 (by decide) _ rfl
  have o1 := own_get slotCells (by decide) HO.out rfl 0 1 (by decide) _ rfl
  have o2 := own_get slotCells (by decide) HO.out rfl 0 2 (by decide) _ rfl
  simp only [Nat.zero_mul, Nat.add_zero, Nat.zero_add, List.getElem_cons_zero] at o0 o1 o2
  have gR := (cells_of HW.here.blk).1
  have fR := (cells_of HW.here.blk).2
  have qR := lt_of_heap HW.here.blk
  have e1 := HE.out.1
  go_wp2_with fail
  have HR3 := Lib.hid ((HW.here.count 4 (k4 + 1) k0 k1 k2 k3 (k4 + 1) rfl).grow ((Ext.refl _).alloc (.cells #[.bool true, .int .i64 0, .int .u64 2] 66)))
  have HX3 := Lib.hid (((Fr.of_ext (S := K.S) HX.out).set (b := K.R) (.inl rfl) (9 + 4) (.int .i64 (k4 + 1))).trans (Fr.of_ext ((Ext.refl _).alloc (.cells #[.bool true, .int .i64 0, .int .u64 2] 66))))
  have HO3 := Lib.hid ((HO.out.setOther (i := 9 + 4) (u := .int .i64 (k4 + 1)) HW.here.blk (by decide)).ext ((Ext.refl _).alloc (.cells #[.bool true, .int .i64 0, .int .u64 2] 66)))
  clear o0 o1 o2 gR fR qR e1 HW
  rw [show (9 + 4 : Nat) = 13 from rfl] at HR3 HX3 HO3
  generalize (w2.setCell ⟨K.R, 13, none⟩ (.int .i64 (k4 + 1))).alloc (.cells #[.bool true, .int .i64 0, .int .u64 2] 66) = W3 at *
  generalize w2.heap.size = Y at *
  refine (HF1.out W3 HR3.out).mono ?_
  rintro e w4 ⟨rfl, hr, hf⟩
  have HO4 := Lib.hid (HR3.out.keep hf HO3.out (by decide) (by decide) (by decide))
  have HR4 := Lib.hid hr
  have HX4 := Lib.hid (HX3.out.trans hf)
  clear hr hf
  have HG : Hid (V.heap.size ≤ g ∧ V0.heap.size ≤ g) := Lib.hid (by
    obtain ⟨_, h1, h2, _⟩ := own_some HO4.out (by decide)
    rename_i g'
    simp only [Option.some.injEq, Addr.mk.injEq, and_true] at h1
    subst h1
    exact ⟨h2, Nat.le_trans HV0.out h2⟩)
  have o2 := own_get slotCells (by decide) HO4.out rfl 0 2 (by decide) _ rfl
  simp only [Nat.zero_mul, Nat.add_zero, Nat.zero_add, List.getElem_cons_zero] at o2
  obtain ⟨cur, hcur⟩ := own_heap HO4.out
  have fG := (cells_of hcur).2
  have HCU := Lib.hid hcur
  clear hcur
  go_wp2_with fail
  have HR5 := Lib.hid (HR4.out.far HCU.out HG.out.2 (by decide) (by decide) (by decide) (by decide) (by decide) (by decide) 2 (.int .u64 y))
  have HX5 := Lib.hid (HX4.out.setNew HG.out.1 2 (.int .u64 y))
  have HO5 := Lib.hid (own_putAt slotCells HO4.out rfl 0 2 (by decide) (by decide) (true, 0, y) (.int .u64 y) rfl)
  simp only [Nat.zero_mul, Nat.zero_add, List.set_cons_zero] at HO5
  clear o2 fG HCU
  generalize w4.setCell ⟨g, 2, none⟩ (.int .u64 y) = W5 at *
  rw [rounds_succ]
  have o0 := own_get slotCells (by decide) HO5.out rfl 1 0 (by simp) _ rfl
  have o1 := own_get slotCells (by decide) HO5.out rfl 1 1 (by simp) _ rfl
  have o2 := own_get slotCells (by decide) HO5.out rfl 1 2 (by simp) _ rfl
  simp only [Nat.one_mul, Nat.add_zero, Nat.reduceAdd, List.getElem_cons_succ, List.getElem_cons_zero] at o0 o1 o2
  have gR := (cells_of HR5.out.blk).1
  have fR := (cells_of HR5.out.blk).2
  have qR := lt_of_heap HR5.out.blk
  have e1 := HE.out.2.1
  go_wp2_with fail
  have HR6 := Lib.hid ((HR5.out.count 4 (j4 + 1) j0 j1 j2 j3 (j4 + 1) rfl).grow ((Ext.refl _).alloc (.cells #[.bool false, .int .i64 0, .int .u64 0] 66)))
  have HX6 := Lib.hid ((HX5.out.set (b := K.R) (.inl rfl) (9 + 4) (.int .i64 (j4 + 1))).trans (Fr.of_ext ((Ext.refl _).alloc (.cells #[.bool false, .int .i64 0, .int .u64 0] 66))))
  have HO6 := Lib.hid ((HO5.out.setOther (i := 9 + 4) (u := .int .i64 (j4 + 1)) HR5.out.blk (by decide)).ext ((Ext.refl _).alloc (.cells #[.bool false, .int .i64 0, .int .u64 0] 66)))
  clear o0 o1 o2 gR fR qR e1
  rw [show (9 + 4 : Nat) = 13 from rfl] at HR6 HX6 HO6
  generalize (W5.setCell ⟨K.R, 13, none⟩ (.int .i64 (j4 + 1))).alloc (.cells #[.bool false, .int .i64 0, .int .u64 0] 66) = W6 at *
  generalize W5.heap.size = Y2 at *
  rw [rounds_succ]
  have o0 := own_get slotCells (by decide) HO6.out rfl 2 0 (by simp) _ rfl
  have o1 := own_get slotCells (by decide) HO6.out rfl 2 1 (by simp) _ rfl
  have o2 := own_get slotCells (by decide) HO6.out rfl 2 2 (by simp) _ rfl
  simp only [Nat.add_zero, Nat.reduceMul, Nat.reduceAdd, List.getElem_cons_succ, List.getElem_cons_zero] at o0 o1 o2
  have gR := (cells_of HR6.out.blk).1
  have fR := (cells_of HR6.out.blk).2
  have qR := lt_of_heap HR6.out.blk
  have e1 := HE.out.2.2
  go_wp2_with fail
  have HR7 := Lib.hid ((HR6.out.count 4 (j4 + 1 + 1) j0 j1 j2 j3 (j4 + 1 + 1) rfl).grow ((Ext.refl _).alloc (.cells #[.bool true, .int .i64 0, .int .u64 2] 66)))
  have HX7 := Lib.hid ((HX6.out.set (b := K.R) (.inl rfl) (9 + 4) (.int .i64 (j4 + 1 + 1))).trans (Fr.of_ext ((Ext.refl _).alloc (.cells #[.bool true, .int .i64 0, .int .u64 2] 66))))
  have HO7 := Lib.hid ((HO6.out.setOther (i := 9 + 4) (u := .int .i64 (j4 + 1 + 1)) HR6.out.blk (by decide)).ext ((Ext.refl _).alloc (.cells #[.bool true, .int .i64 0, .int .u64 2] 66)))
  clear o0 o1 o2 gR fR qR e1
  rw [show (9 + 4 : Nat) = 13 from rfl] at HR7 HX7 HO7
  generalize (W6.setCell ⟨K.R, 13, none⟩ (.int .i64 (j4 + 1 + 1))).alloc (.cells #[.bool true, .int .i64 0, .int .u64 2] 66) = W7 at *
  generalize W6.heap.size = Y3 at *
  refine (HF2.out W7 HR7.out).mono ?_
  rintro e w8 ⟨rfl, hr, hf⟩
  have HO8 := Lib.hid (HR7.out.keep hf HO7.out (by decide) (by decide) (by decide))
  have HR8 := Lib.hid hr
  have HX8 := Lib.hid (HX7.out.trans hf)
  clear hr hf
  have o2 := own_get slotCells (by decide) HO8.out rfl 2 2 (by simp) _ rfl
  simp only [Nat.add_zero, Nat.reduceMul, Nat.reduceAdd, List.getElem_cons_succ, List.getElem_cons_zero] at o2
  obtain ⟨cur, hcur⟩ := own_heap HO8.out
  have fG := (cells_of hcur).2
  have HCU := Lib.hid hcur
  clear hcur
  go_wp2_with fail
  have HR9 := Lib.hid (HR8.out.far HCU.out HG.out.2 (by decide) (by decide) (by decide) (by decide) (by decide) (by decide) 8 (.int .u64 y))
  have HX9 := Lib.hid (HX8.out.setNew HG.out.1 8 (.int .u64 y))
  have HO9 := Lib.hid (own_putAt slotCells HO8.out rfl 2 2 (by simp) (by decide) (true, 0, y) (.int .u64 y) rfl)
  simp only [Nat.reduceMul, Nat.reduceAdd, List.set_cons_succ, List.set_cons_zero] at HO9
  clear o2 fG HCU
  generalize w8.setCell ⟨g, 8, none⟩ (.int .u64 y) = W9 at *
  rw [rounds_succ]
  go_wp2_with fail
  ((try simp only [Exit.inBlock, Exit.then]); refine bodyPost_ret (v := .tuple #[.slice (some ⟨g, 0, none⟩) 3 cap2, .int .i64 0]) (by simp only [results, Try.results59]; go_simp) rfl ?_)
  exact ⟨_, _, rfl, HO9.out, HR9.out, HX9.out⟩
end
end Go.Proofs.Ytkcpfimhbogdcaa

/- Layer 22's awake. -/
set_option linter.unusedSimpArgs false
set_option linter.unusedVariables false
namespace Go.Proofs.Ytkcpfimhbogdcaa
open Go.RowKit Go.Shelf

def w22a : List Int := [259, 2, 0, 0, 0, 0]
def w22b : List Int := [14, 2, 0, 259, 2, 0]
def w22c : List Int := [14, 2, 0, 259, 14, 0]
def k22 (R p b B : Nat) (A : Option Addr) (cap : Nat) : RunK := ⟨R, p, b, B, A, cap, 6, 0, 3, 2, 3, 3⟩
section
variable {V0 : World} {R p b B : Nat} {A : Option Addr} {cap : Nat} {V : World}
theorem a22_fw1 (h : RunV V0 (k22 R p b B A cap) ⟨w22a, 0, 0, 0, 0, 0, 1⟩ V) : Calls Try.prog 39 #[.pointer (some ⟨(k22 R p b B A cap).R, 0, none⟩), .int .u64 2] V (RunPost V0 (k22 R p b B A cap) (.tuple #[.int .u64 14, .bool true, .int .i64 0]) ⟨w22b, 2, 2, 0, 0, 0, 1⟩ V) := by
  have Z := crfw_copy h 2 259 0 3 2 ⟨0, 1, 0, false, 0⟩ (by first | decide | (simp [k22]; done) | (simp [k22, w22a, w22b, w22c]; done) | (simp [k22]; decide)) (by first | decide | (simp [k22]; done) | (simp [k22, w22a, w22b, w22c]; done) | (simp [k22]; decide)) (by first | decide | (simp [k22]; done) | (simp [k22, w22a, w22b, w22c]; done) | (simp [k22]; decide)) (by first | decide | (simp [k22]; done) | (simp [k22, w22a, w22b, w22c]; done) | (simp [k22]; decide)) (by first | decide | (simp [k22]; done) | (simp [k22, w22a, w22b, w22c]; done) | (simp [k22]; decide)) (by first | decide | (simp [k22]; done) | (simp [k22, w22a, w22b, w22c]; done) | (simp [k22]; decide)) (by first | decide | (simp [k22]; done) | (simp [k22, w22a, w22b, w22c]; done) | (simp [k22]; decide)) (by rfl) (by first | decide | (simp [k22]; done) | (simp [k22, w22a, w22b, w22c]; done) | (simp [k22]; decide)) (by first | decide | (simp [k22]; done) | (simp [k22, w22a, w22b, w22c]; done) | (simp [k22]; decide)) (by first | decide | (simp [k22]; done) | (simp [k22, w22a, w22b, w22c]; done) | (simp [k22]; decide)) (by first | decide | (simp [k22]; done) | (simp [k22, w22a, w22b, w22c]; done) | (simp [k22]; decide)) (by first | decide | (simp [k22]; done) | (simp [k22, w22a, w22b, w22c]; done) | (simp [k22]; decide)) (by first | decide | (simp [k22]; done) | (simp [k22, w22a, w22b, w22c]; done) | (simp [k22]; decide)) (by first | decide | (simp [k22]; done) | (simp [k22, w22a, w22b, w22c]; done) | (simp [k22]; decide)) (by first | decide | (simp [k22]; done) | (simp [k22, w22a, w22b, w22c]; done) | (simp [k22]; decide))
  exact Z
theorem a22_fw2 (k2 k4 k1 : Int) (h : RunV V0 (k22 R p b B A cap) ⟨w22b, 2, 2, k1, k2, 0, k4⟩ V) : Calls Try.prog 39 #[.pointer (some ⟨(k22 R p b B A cap).R, 0, none⟩), .int .u64 2] V (RunPost V0 (k22 R p b B A cap) (.tuple #[.int .u64 14, .bool false, .int .i64 0]) ⟨w22b, 2, 2, k1, k2, 0, k4⟩ V) :=
  crfw_gone h 2 14 0 (by first | decide | (simp [k22]; done) | (simp [k22, w22a, w22b, w22c]; done) | (simp [k22]; decide)) (by first | decide | (simp [k22]; done) | (simp [k22, w22a, w22b, w22c]; done) | (simp [k22]; decide)) (by first | decide | (simp [k22]; done) | (simp [k22, w22a, w22b, w22c]; done) | (simp [k22]; decide)) (by first | decide | (simp [k22]; done) | (simp [k22, w22a, w22b, w22c]; done) | (simp [k22]; decide)) (by first | decide | (simp [k22]; done) | (simp [k22, w22a, w22b, w22c]; done) | (simp [k22]; decide)) (by first | decide | (simp [k22]; done) | (simp [k22, w22a, w22b, w22c]; done) | (simp [k22]; decide)) (by first | decide | (simp [k22]; done) | (simp [k22, w22a, w22b, w22c]; done) | (simp [k22]; decide))
theorem a22_roots (h : RunV V0 (k22 R p b B A cap) ⟨w22a, 0, 0, 0, 0, 0, 0⟩ V) (lA : Option Addr) (lc : Nat) (hl : SlotsAt V lA [(true, 0, 2), (false, 0, 0), (true, 0, 2)]) :
    Calls Try.prog 59 #[.pointer (some ⟨R, 0, none⟩), .slice lA 3 lc] V fun e w' => ∃ oA oc, e = .returned (.tuple #[.slice oA 3 oc, .int .i64 0]) ∧ Own 66 3 slotC w' V.heap.size (.slice oA 3 oc) [(true, 0, 14), (false, 0, 0), (true, 0, 14)] ∧ RunV V0 (k22 R p b B A cap) ⟨w22b, 2, 2, 0, 0, 0, 3⟩ w' ∧ Fr (k22 R p b B A cap).S V w' :=
  crroots_three w22a 0 0 0 0 0 0 h lA lc 14 true false w22b 2 2 0 0 0 1 ⟨w22b, 2, 2, 0, 0, 0, 3⟩ hl (by first | decide | (simp [k22]; done) | (simp [k22, w22a, w22b, w22c]; done) | (simp [k22]; decide)) (by first | decide | (simp [k22]; done) | (simp [k22, w22a, w22b, w22c]; done) | (simp [k22]; decide)) (fun w hw => a22_fw1 hw) (fun w hw => a22_fw2 0 3 0 hw)
theorem a22_field (h : RunV V0 (k22 R p b B A cap) ⟨w22b, 2, 2, 1, 0, 0, 3⟩ V) : Calls Try.prog 58 #[.pointer (some ⟨(k22 R p b B A cap).R, 0, none⟩), .int .i64 3, .int .i64 0] V (RunPost V0 (k22 R p b B A cap) (.tuple #[.int .i64 0, .bool false, .int .i64 0]) ⟨w22c, 2, 2, 1, 1, 0, 3⟩ V) :=
  crfield_set w22b 2 2 1 0 0 3 h 3 0 2 14 4 (by first | decide | (simp [k22]; done) | (simp [k22, w22a, w22b, w22c]; done) | (simp [k22]; decide)) (by first | decide | (simp [k22]; done) | (simp [k22, w22a, w22b, w22c]; done) | (simp [k22]; decide)) (by first | decide | (simp [k22]; done) | (simp [k22, w22a, w22b, w22c]; done) | (simp [k22]; decide)) (by first | decide | (simp [k22]; done) | (simp [k22, w22a, w22b, w22c]; done) | (simp [k22]; decide)) (by first | decide | (simp [k22]; done) | (simp [k22, w22a, w22b, w22c]; done) | (simp [k22]; decide)) (fun w hw => a22_fw2 1 3 1 hw) (by first | decide | (simp [k22]; done) | (simp [k22, w22a, w22b, w22c]; done) | (simp [k22]; decide)) (by first | decide | (simp [k22]; done) | (simp [k22, w22a, w22b, w22c]; done) | (simp [k22]; decide)) (by first | decide | (simp [k22]; done) | (simp [k22, w22a, w22b, w22c]; done) | (simp [k22]; decide))
theorem a22_object (h : RunV V0 (k22 R p b B A cap) ⟨w22b, 2, 2, 0, 0, 0, 3⟩ V) : Calls Try.prog 63 #[.pointer (some ⟨R, 0, none⟩), .int .i64 3] V (RunPost V0 (k22 R p b B A cap) (.int .i64 0) ⟨w22c, 2, 2, 1, 1, 0, 3⟩ V) :=
  crobject_one w22b 2 2 0 0 0 3 h 3 0 0 0 false ⟨w22c, 2, 2, 1, 1, 0, 3⟩ (by first | decide | (simp [k22]; done) | (simp [k22, w22a, w22b, w22c]; done) | (simp [k22]; decide)) (by first | decide | (simp [k22]; done) | (simp [k22, w22a, w22b, w22c]; done) | (simp [k22]; decide)) (by rfl) (by first | decide | (simp [k22]; done) | (simp [k22, w22a, w22b, w22c]; done) | (simp [k22]; decide)) (fun w hw => a22_field hw)
theorem a22_out (h : RunV V0 (k22 R p b B A cap) ⟨w22c, 2, 2, 1, 1, 0, 3⟩ V) : Calls Try.prog 39 #[.pointer (some ⟨R, 0, none⟩), .int .u64 22] V (RunPost V0 (k22 R p b B A cap) (.tuple #[.int .u64 0, .bool false, .int .i64 2]) ⟨w22c, 2, 2, 1, 1, 0, 3⟩ V) :=
  crfw_out h 22 5 (by first | decide | (simp [k22]; done) | (simp [k22, w22a, w22b, w22c]; done) | (simp [k22]; decide)) (by first | decide | (simp [k22]; done) | (simp [k22, w22a, w22b, w22c]; done) | (simp [k22]; decide)) (by first | decide | (simp [k22]; done) | (simp [k22, w22a, w22b, w22c]; done) | (simp [k22]; decide)) (.inr (by first | decide | (simp [k22]; done) | (simp [k22, w22a, w22b, w22c]; done) | (simp [k22]; decide)))
theorem a22_led : ledR 0 0 [] [] = true := by
  rw [ledR_of (led_nil _ _) (gaps_new0 (by decide))]
  simp
end
set_option maxRecDepth 100000
set_option maxHeartbeats 2000000
theorem awake22_any (V : World) : Calls Try.prog 36 #[] V fun e w' => e = .returned (.bool true) ∧ Ext V w' := by
  have hr : WordsAt (V.alloc (.cells #[.int .u64 259, .int .u64 2, .int .u64 0, .int .u64 0, .int .u64 0, .int .u64 0] 64)) (some ⟨V.heap.size, 0, none⟩) w22a := row_litb _ _ rfl _ rfl u64Cells (by decide)
  have hx0 := (Ext.refl V).alloc (.cells #[.int .u64 259, .int .u64 2, .int .u64 0, .int .u64 0, .int .u64 0, .int .u64 0] 64)
  have HR := Lib.hid hr
  have HX := Lib.hid hx0
  clear hr hx0
  go_enter Try.func36, Try.ntmps36
  go_wp2_with fail
  generalize V.alloc (.cells #[.int .u64 259, .int .u64 2, .int .u64 0, .int .u64 0, .int .u64 0, .int .u64 0] 64) = W at *
  generalize V.heap.size = X at *
  have Z := aof_any (some ⟨X, 0, none⟩) 6 w22a W HR.out (by decide) (by decide)
  refine Z.mono ?_
  clear Z
  rintro e w1 ⟨⟨p, A, cap, rfl, hA⟩, hx⟩
  have HA := Lib.hid hA
  have HX1 := Lib.hid hx
  clear hA hx HR
  go_wp2_with fail
  have Z := losnew_empty W.heap.size p A cap w22a 0 0 none 0 [] w1 HA.out ⟨0, 0, by simp, by simp⟩ (by decide) (fun h => by cases h) a22_led (by decide)
  refine Z.mono ?_
  clear Z
  rintro e w2 ⟨b, rfl, hlo, hx⟩
  have HLO := Lib.hid hlo
  replace HX1 := Lib.hid (HX1.out.trans hx)
  clear hlo hx HA
  go_wp2_with fail
  refine (crnew_ok W 0 3 2 3 3 HLO.out HX1.out (by decide) (by decide) (by decide) (by decide) (by decide)).mono ?_
  rintro e w3 ⟨R, B, rfl, hr, hx⟩
  have HW : Hid (RunV W (k22 R p b B A cap) ⟨w22a, 0, 0, 0, 0, 0, 0⟩ w3) := Lib.hid hr
  clear hr hx HLO HX1
  go_wp2_with fail
  have hs : SlotsAt (w3.alloc (.cells #[.bool true, .int .i64 0, .int .u64 2, .bool false, .int .i64 0, .int .u64 0, .bool true, .int .i64 0, .int .u64 2] 66)) (some ⟨w3.heap.size, 0, none⟩) [(true, 0, 2), (false, 0, 0), (true, 0, 2)] := row_litb _ _ rfl _ rfl slotCells (by decide)
  have HS := Lib.hid hs
  replace HW := Lib.hid (HW.out.grow ((Ext.refl w3).alloc (.cells #[.bool true, .int .i64 0, .int .u64 2, .bool false, .int .i64 0, .int .u64 0, .bool true, .int .i64 0, .int .u64 2] 66)))
  clear hs
  generalize w3.alloc (.cells #[.bool true, .int .i64 0, .int .u64 2, .bool false, .int .i64 0, .int .u64 0, .bool true, .int .i64 0, .int .u64 2] 66) = W4 at *
  generalize w3.heap.size = Y at *
  refine (a22_roots HW.out (some ⟨Y, 0, none⟩) 3 HS.out).mono ?_
  rintro e w5 ⟨oA, oc, rfl, ho, hr, -⟩
  have HO := Lib.hid ho
  replace HW := Lib.hid hr
  clear ho hr HS
  go_wp2_with fail
  refine (a22_object HW.out).mono ?_
  rintro e w6 ⟨rfl, hr, hf⟩
  replace HO := Lib.hid (HW.out.keep hf HO.out (by decide) (by decide) (by decide))
  replace HW := Lib.hid hr
  clear hr hf
  go_wp2_with fail
  have Z := aread_is (some ⟨p, 0, none⟩) (some w22c) 4 14 0 (by decide) (by decide) w6 HW.out.own.p
  refine Z.mono ?_
  clear Z
  rintro e w7 ⟨rfl, hx⟩
  replace HO := Lib.hid (HO.out.ext hx)
  replace HW := Lib.hid (HW.out.grow hx)
  clear hx
  go_wp2_with fail
  refine (a22_out HW.out).mono ?_
  rintro e w8 ⟨rfl, hr, hf⟩
  replace HO := Lib.hid (HW.out.keep hf HO.out (by decide) (by decide) (by decide))
  replace HW := Lib.hid hr
  clear hr hf
  go_wp2_with fail
  refine (crwork HW.out).mono ?_
  rintro e w9 ⟨rfl, hx⟩
  replace HO := Lib.hid (HO.out.ext hx)
  replace HW := Lib.hid (HW.out.grow hx)
  clear hx
  go_wp2_with fail
  have hB := pers_new w9 #[.int .i64 2, .int .i64 1, .int .i64 1, .int .i64 0, .int .i64 3] 83 _ rfl
  have hx := (Ext.refl w9).alloc (.cells #[.int .i64 2, .int .i64 1, .int .i64 1, .int .i64 0, .int .i64 3] 83)
  replace HO := Lib.hid (HO.out.ext hx)
  replace HW := Lib.hid (HW.out.grow hx)
  clear hx
  generalize w9.alloc (.cells #[.int .i64 2, .int .i64 1, .int .i64 1, .int .i64 0, .int .i64 3] 83) = W10 at *
  generalize w9.heap.size = Z9 at *
  refine (crnew_meets 0 3 2 2 3 HW.out.lo (by decide) (by decide) (by decide)).mono ?_
  rintro e w11 ⟨rfl, hx⟩
  replace HO := Lib.hid (HO.out.ext hx)
  replace HW := Lib.hid (HW.out.grow hx)
  (replace hB := hB.re hx)
  clear hx
  have k1 := (cells_of hB.here).1
  have q := lt_of_heap hB.here
  obtain ⟨g, rfl, hg1, hg2⟩ := own_some HO.out (by decide)
  have c0 : w11.cell? ⟨g, 2, none⟩ = some (.int .u64 14) := own_get slotCells (by decide) HO.out rfl 0 2 (by decide) _ rfl
  have c1 : w11.cell? ⟨g, 8, none⟩ = some (.int .u64 14) := own_get slotCells (by decide) HO.out rfl 2 2 (by decide) _ rfl
  go_wp2_with fail
  refine (crtop HW.out).mono ?_
  rintro e w12 ⟨rfl, hx⟩
  replace HO := Lib.hid (HO.out.ext hx)
  replace HW := Lib.hid (HW.out.grow hx)
  (replace hB := hB.re hx)
  clear hx k1 q hg1 hg2 c0 c1
  have k1 := (cells_of hB.here).1
  have q := lt_of_heap hB.here
  simp only [k22]
  go_wp2_with fail
  refine (crobject_no (.pointer none) 0 _ (.inl rfl)).mono ?_
  rintro e w13 ⟨rfl, hx⟩
  replace HO := Lib.hid (HO.out.ext hx)
  replace HW := Lib.hid (HW.out.grow hx)
  clear hx k1 q
  go_wp2_with fail
  refine (crarena_no (.pointer none) _ (.inl rfl)).mono ?_
  rintro e w14 ⟨rfl, hx⟩
  replace HO := Lib.hid (HO.out.ext hx)
  replace HW := Lib.hid (HW.out.grow hx)
  clear hx
  go_wp2_with fail
  go_ret
  exact ⟨rfl, HX.out.trans HW.out.ext⟩
end Go.Proofs.Ytkcpfimhbogdcaa

/- The law CopierOnce: the plain part and the first steps. -/
set_option linter.unusedSimpArgs false
set_option linter.unusedVariables false
namespace Go.Proofs.Ytkcpfimhbogdcaa
open Go.RowKit Go.Shelf
theorem layU_behind : ∀ (ys pre post : List Int), layU (pre ++ post) pre.length ys = pre ++ (layU post 0 ys)
  | [], _, _ => rfl
  | y :: ys, pre, [] => by
    rw [layU, layU]
    simp only [List.set_nil, List.append_nil, List.set_eq_of_length_le (Nat.le_refl _)]
    have : ∀ (ys l : List Int) (i : Nat), l.length ≤ i → layU l i ys = l := by
      intro ys
      induction ys with
      | nil => intro l i _; rfl
      | cons y ys ih => intro l i h; rw [layU, List.set_eq_of_length_le h]; exact ih l _ (by omega)
    rw [this _ _ _ (by omega), this _ _ _ (by simp), List.append_nil]
  | y :: ys, pre, z :: post => by
    rw [layU, layU]
    have h := layU_behind ys (pre ++ [y]) post
    have h2 := layU_behind ys [y] post
    simp only [List.length_append, List.length_singleton, List.append_assoc, List.singleton_append] at h h2
    rw [show (pre ++ z :: post).set pre.length y = pre ++ y :: post by simp, h]
    simp [← h2]
theorem layU_all : ∀ (ys post : List Int), post.length = ys.length → layU post 0 ys = ys
  | [], post, h => by rw [layU]; exact List.eq_nil_of_length_eq_zero h
  | y :: ys, [], h => by simp at h
  | y :: ys, z :: post, h => by
    rw [layU]
    have h2 := layU_behind ys [y] post
    simp only [List.length_singleton, List.singleton_append] at h2
    simp only [List.set_cons_zero, Nat.zero_add]
    rw [h2, layU_all ys post (by simpa using h)]
theorem once_copy (h : Int) (rs zs : List Int) (n : Nat) (hn : rs.length + 1 = n) (hz : zs.length = n) : copyL (h :: rs ++ zs) n 0 n = ((4 * n + 2 : Int) :: rs) ++ (h :: rs) := by
  have e : (((h :: rs) ++ zs).drop 0).take n = h :: rs := by
    rw [List.drop_zero, List.take_append_of_le_length (by simp; omega), List.take_of_length_le (by simp; omega)]
  rw [copyL, e]
  have := layU_behind (h :: rs) (h :: rs) zs
  rw [show (h :: rs).length = n by simpa using hn] at this
  rw [this, layU_all _ _ (by simp; omega)]
  simp
def onceW (k r : Nat) : Int := 3 + 8 * k + 16777216 * r
theorem onceW_dec (k r : Nat) (hk : k ≤ 31) (hr : r ≤ 50) : hdecH (onceW k r).toNat = ⟨k, 0, r, false, 0⟩ ∧ hdecE (onceW k r).toNat = 0 ∧ refB (onceW k r) = false ∧ (0 ≤ onceW k r ∧ onceW k r < 18446744073709551616) := by
  have e : (onceW k r).toNat = 3 + 8 * k + 16777216 * r := by unfold onceW; omega
  have hd : decH (3 + 8 * k + 16777216 * r) = ⟨k, 0, r, false, 0⟩ := by
    have h1 : (3 + 8 * k + 16777216 * r) / 8 % 32 = k := by omega
    have h2 : (3 + 8 * k + 16777216 * r) / 256 % 65536 = 0 := by omega
    have h3 : (3 + 8 * k + 16777216 * r) / 16777216 % 65536 = r := by omega
    have h4 : decide ((3 + 8 * k + 16777216 * r) / 4 % 2 = 1) = false := by rw [decide_eq_false_iff_not]; omega
    have h5 : (3 + 8 * k + 16777216 * r) / 1099511627776 % 16777216 = 0 := by omega
    rw [decH, h1, h2, h3, h4, h5]
    rfl
  have hb : hdecB (3 + 8 * k + 16777216 * r) = true := by
    rw [hdecB, hd, Bool.and_eq_true, decide_eq_true_eq]
    refine ⟨by omega, ?_⟩
    simp only [hmayB, decide_eq_true_eq]
    omega
  refine ⟨by rw [e, hdecH, hb, hd]; rfl, by rw [e, hdecE, hb]; rfl, ?_, by unfold onceW; omega⟩
  have : decT (onceW k r) = 0 := by
    unfold decT onceW
    rw [if_neg (by omega), if_neg (by omega)]
  rw [refB, this]
  rfl
theorem onceW_size (k r : Nat) (hk : k ≤ 31) (hr : r ≤ 50) : hsize ⟨k, 0, r, false, 0⟩ = ((r + 1 : Nat) : Int) := by
  have : hmayB ⟨k, 0, r, false, 0⟩ = true := by
    simp only [hmayB, decide_eq_true_eq]
    omega
  rw [hsize, this]
  simp
  omega
def onceL (h : Int) (rs : List Int) : List Int := h :: rs ++ List.replicate (rs.length + 1) 0
theorem onceL_len (h : Int) (rs : List Int) : (onceL h rs).length = rs.length + 1 + (rs.length + 1) := by simp [onceL]; omega
def kO (R p b B n : Nat) (A : Option Addr) (cap : Nat) : RunK := ⟨R, p, b, B, A, cap, n + n, 0, n, n, n, n⟩
def onceD (h : Int) (rs : List Int) : List Int := ((4 * (rs.length + 1 : Nat) + 2 : Int) :: rs) ++ (h :: rs)
section
variable {V0 : World} {R p b B : Nat} {A : Option Addr} {cap : Nat} {V : World}
theorem once_first (k : Nat) (rs : List Int) (hk : k ≤ 31) (hr : rs.length ≤ 50) (h : RunV V0 (kO R p b B (rs.length + 1) A cap) ⟨onceL (onceW k rs.length) rs, 0, 0, 0, 0, 0, 0⟩ V) :
    Calls Try.prog 39 #[.pointer (some ⟨(kO R p b B (rs.length + 1) A cap).R, 0, none⟩), .int .u64 2] V (RunPost V0 (kO R p b B (rs.length + 1) A cap) (.tuple #[.int .u64 (4 * (rs.length + 1 : Nat) + 2), .bool true, .int .i64 0]) ⟨onceD (onceW k rs.length) rs, (rs.length + 1 : Nat), (rs.length + 1 : Nat), 0, 0, 0, 0⟩ V) := by
  obtain ⟨h1, h2, h3, h4⟩ := onceW_dec k rs.length hk hr
  have Z := crfw_copy h 2 (onceW k rs.length) 0 (rs.length + 1) (rs.length + 1) ⟨k, 0, rs.length, false, 0⟩ (by decide) (by decide) (by decide) (by simp [kO]) (by simp only [kO]; omega) (by simp [onceL]) h3 h1 h2 (onceW_size k rs.length hk hr) (by omega) (by simp [kO]) (by simp [kO]) (by simp [kO]) (by simp [kO]) (by simp)
  rw [onceL, once_copy (onceW k rs.length) rs _ (rs.length + 1) rfl (by simp)] at Z
  simp only [Int.zero_add] at Z
  exact Z
theorem once_next (h0 : Int) (rs : List Int) (k0 : Int) (hr : rs.length ≤ 50) (h : RunV V0 (kO R p b B (rs.length + 1) A cap) ⟨onceD h0 rs, (rs.length + 1 : Nat), k0, 0, 0, 0, 0⟩ V) :
    Calls Try.prog 39 #[.pointer (some ⟨(kO R p b B (rs.length + 1) A cap).R, 0, none⟩), .int .u64 2] V (RunPost V0 (kO R p b B (rs.length + 1) A cap) (.tuple #[.int .u64 (4 * (rs.length + 1 : Nat) + 2), .bool false, .int .i64 0]) ⟨onceD h0 rs, (rs.length + 1 : Nat), k0, 0, 0, 0, 0⟩ V) := by
  refine crfw_gone h 2 _ 0 (by decide) (by decide) (by decide) (by simp [kO]) (by simp only [kO]; omega) (by simp [onceD]) ?_
  have : decT (4 * (rs.length + 1 : Nat) + 2) = 2 := by
    unfold decT
    rw [if_neg (by omega), if_pos (by omega)]
  rw [refB, this]
  rfl
end
end Go.Proofs.Ytkcpfimhbogdcaa

/- The law CopierOnce. -/
set_option linter.unusedSimpArgs false
set_option linter.unusedVariables false
namespace Go.Proofs.Ytkcpfimhbogdcaa
open Go.RowKit Go.Shelf
set_option maxRecDepth 100000
set_option maxHeartbeats 2000000
theorem once_bad (k m u : Int) (A : Option Addr) (r cap : Nat) (V : World) (hu : 0 ≤ u ∧ u < 18446744073709551616) (hb : k < 0 ∨ (0 ≤ k ∧ 31 < k) ∨ (0 ≤ k ∧ k ≤ 31 ∧ 50 < r) ∨ (0 ≤ k ∧ k ≤ 31 ∧ r ≤ 50 ∧ m < 1) ∨ (0 ≤ k ∧ k ≤ 31 ∧ r ≤ 50 ∧ 1 ≤ m ∧ 50 < m) ∨ (0 ≤ k ∧ k ≤ 31 ∧ r ≤ 50 ∧ 1 ≤ m ∧ m ≤ 50 ∧ u % 4 = 2)) :
    Calls Try.prog 9 #[.int .i64 k, .slice A r cap, .int .i64 m, .int .u64 u] V fun e w' => e = .returned (.bool true) ∧ Ext V w' := by
  have c1 : ∀ x y : Int, x < y → decide (x < y) = true := fun x y h => by simpa using h
  have c0 : ∀ x y : Int, y ≤ x → decide (x < y) = false := fun x y h => by simpa using h
  rcases hb with h1 | ⟨h1, h2⟩ | ⟨h1, h2, h3⟩ | ⟨h1, h2, h3, h4⟩ | ⟨h1, h2, h3, h4, h5⟩ | ⟨h1, h2, h3, h4, h5, h6⟩
  · have d1 := c1 _ _ h1
    clear c0 c1 hu h1
    go_enter Try.func9, Try.ntmps9
    go_wp2_with fail
    (refine (awake22_any _).mono ?_; rintro e wf ⟨rfl, hx⟩; have HX := Lib.hid hx; clear hx; go_wp2_with fail; go_ret; exact ⟨rfl, HX.out⟩)
  · have d1 := c0 _ _ h1
    have d2 := c1 _ _ h2
    clear c0 c1 hu h1 h2
    go_enter Try.func9, Try.ntmps9
    go_wp2_with fail
    (refine (awake22_any _).mono ?_; rintro e wf ⟨rfl, hx⟩; have HX := Lib.hid hx; clear hx; go_wp2_with fail; go_ret; exact ⟨rfl, HX.out⟩)
  · have d1 := c0 _ _ h1
    have d2 := c0 _ _ h2
    have d3 := c1 50 (r : Int) (by omega)
    clear c0 c1 hu h1 h2 h3
    go_enter Try.func9, Try.ntmps9
    go_wp2_with fail
    (refine (awake22_any _).mono ?_; rintro e wf ⟨rfl, hx⟩; have HX := Lib.hid hx; clear hx; go_wp2_with fail; go_ret; exact ⟨rfl, HX.out⟩)
  · have d1 := c0 _ _ h1
    have d2 := c0 _ _ h2
    have d3 := c0 50 (r : Int) (by omega)
    have d4 := c1 _ _ h4
    clear c0 c1 hu h1 h2 h3 h4
    go_enter Try.func9, Try.ntmps9
    go_wp2_with fail
    (refine (awake22_any _).mono ?_; rintro e wf ⟨rfl, hx⟩; have HX := Lib.hid hx; clear hx; go_wp2_with fail; go_ret; exact ⟨rfl, HX.out⟩)
  · have d1 := c0 _ _ h1
    have d2 := c0 _ _ h2
    have d3 := c0 50 (r : Int) (by omega)
    have d4 := c0 _ _ h4
    have d5 := c1 _ _ h5
    clear c0 c1 hu h1 h2 h3 h4 h5
    go_enter Try.func9, Try.ntmps9
    go_wp2_with fail
    (refine (awake22_any _).mono ?_; rintro e wf ⟨rfl, hx⟩; have HX := Lib.hid hx; clear hx; go_wp2_with fail; go_ret; exact ⟨rfl, HX.out⟩)
  · have d1 := c0 _ _ h1
    have d2 := c0 _ _ h2
    have d3 := c0 50 (r : Int) (by omega)
    have d4 := c0 _ _ h4
    have d5 := c0 _ _ h5
    have hur : (u.tmod 4 == 2) = true := by
      rw [beq_iff_eq, Int.tmod_eq_emod_of_nonneg hu.1]
      omega
    have hup : 0 ≤ u.tmod 4 ∧ u.tmod 4 < 18446744073709551616 := by rw [Int.tmod_eq_emod_of_nonneg hu.1]; omega
    clear c0 c1 hu h1 h2 h3 h4 h5 h6
    go_enter Try.func9, Try.ntmps9
    go_wp2_with fail
    (refine (awake22_any _).mono ?_; rintro e wf ⟨rfl, hx⟩; have HX := Lib.hid hx; clear hx; go_wp2_with fail; go_ret; exact ⟨rfl, HX.out⟩)
end Go.Proofs.Ytkcpfimhbogdcaa

/- CopierOnce: the word that its object begins with. -/
namespace Go.Proofs.Ytkcpfimhbogdcaa
open Go.RowKit Go.Shelf
theorem onceW_all : ∀ k : Fin 32, ∀ r : Fin 51, bits .or .u64 (bits .or .u64 (IntKind.u64.wrap (IntKind.u64.wrap (r.1 : Int) * 16777216)) (IntKind.u64.wrap (IntKind.u64.wrap (k.1 : Int) * 8))) 3 = onceW k.1 r.1 := by decide +kernel
theorem onceW_bits (k r : Nat) (hk : k ≤ 31) (hr : r ≤ 50) : bits .or .u64 (bits .or .u64 (IntKind.u64.wrap (IntKind.u64.wrap (r : Int) * 16777216)) (IntKind.u64.wrap (IntKind.u64.wrap (k : Int) * 8))) 3 = onceW k r := onceW_all ⟨k, by omega⟩ ⟨r, by omega⟩
#print axioms onceW_bits
end Go.Proofs.Ytkcpfimhbogdcaa

