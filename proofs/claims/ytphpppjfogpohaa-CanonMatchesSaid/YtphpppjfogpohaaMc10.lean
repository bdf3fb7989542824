/- Merged by program (merge.py) out of: GraH, GraI. -/
import Derived.Test.YtphpppjfogpohaaMc6
import Derived.Test.YtphpppjfogpohaaMc9
/- Whether values, and a graph, may be: the program's sound, and the reference. -/
set_option linter.unusedSimpArgs false
set_option linter.unusedVariables false
namespace Go.Proofs.Ytphpppjfogpohaa
open Go.RowKit Go.Shelf

def okV (n : Nat) (x : Int × Int) : Bool := vmayB x.1 x.2 && (decide (x.1 ≠ 2) || decide (x.2 < n))
theorem okV_no {n : Nat} {k x : Int} (h : vmayB k x = false) : okV n (k, x) = false := by simp [okV, h]
theorem okV_val {n : Nat} {k x : Int} (h : vmayB k x = true) (hk : k ≠ 2) : okV n (k, x) = true := by simp [okV, h, hk]
theorem okV_ref {n : Nat} {x : Int} (h : vmayB 2 x = true) : okV n (2, x) = decide (x < n) := by simp [okV, h]

set_option maxRecDepth 100000
set_option maxHeartbeats 4000000
theorem sound_any (G : GraphD) (k x : Int) (V : World) (hn : G.ns.length ≤ 9223372036854775807) :
    Calls Try.prog 44 #[.agg #[.slice G.nA G.ns.length G.ncap, .slice G.rA G.rs.length G.rcap], .agg #[.int .i64 k, .int .i64 x]] V fun e w' => e = .returned (.bool (okV G.ns.length (k, x))) ∧ Ext V w' := by
  have hV : Ext V ((V.alloc (.cells #[.slice G.nA G.ns.length G.ncap, .slice G.rA G.rs.length G.rcap] 25)).alloc (.cells #[.int .i64 k, .int .i64 x] 53)) := ((Ext.refl V).alloc _).alloc _
  have k0 := fun w' (h : Ext ((V.alloc (.cells #[.slice G.nA G.ns.length G.ncap, .slice G.rA G.rs.length G.rcap] 25)).alloc (.cells #[.int .i64 k, .int .i64 x] 53)) w') => boxed V #[.slice G.nA G.ns.length G.ncap, .slice G.rA G.rs.length G.rcap] 25 0 (.slice G.nA G.ns.length G.ncap) rfl w' (((Ext.refl _).alloc _).trans h)
  have k1 := fun w' => boxed (V.alloc (.cells #[.slice G.nA G.ns.length G.ncap, .slice G.rA G.rs.length G.rcap] 25)) #[.int .i64 k, .int .i64 x] 53 0 (.int .i64 k) rfl w'
  have k2 := fun w' => boxed (V.alloc (.cells #[.slice G.nA G.ns.length G.ncap, .slice G.rA G.rs.length G.rcap] 25)) #[.int .i64 k, .int .i64 x] 53 1 (.int .i64 x) rfl w'
  simp only [World.size_alloc] at k1 k2
  go_enter Try.func44, Try.ntmps44
  go_wp2_with fail
  generalize ((V.alloc (.cells #[.slice G.nA G.ns.length G.ncap, .slice G.rA G.rs.length G.rcap] 25)).alloc (.cells #[.int .i64 k, .int .i64 x] 53)) = W at *
  obtain ⟨b, hb⟩ : ∃ b, vmayB k x = b := ⟨_, rfl⟩
  cases b
  · have HR := Lib.hid (okV_no (n := G.ns.length) hb)
    refine (enc_is k x 0 1 (enc_no hb).1 (enc_no hb).2 _).mono ?_
    rintro e w1 ⟨rfl, hx⟩
    have HX := Lib.hid (hV.trans hx)
    clear hb
    go_wp2_with fail
    go_ret
    exact ⟨ret_bool HR.out.symm, HX.out⟩
  · refine (enc_is k x _ 0 rfl (by simp [encE, hb]) _).mono ?_
    rintro e w1 ⟨rfl, hx⟩
    have HX := Lib.hid (hV.trans hx)
    have c0 := k0 w1 hx
    have c1 := k1 w1 hx
    have c2 := k2 w1 hx
    generalize encW k x = u at *
    clear k0 k1 k2 hx hV
    by_cases hk : k = 2
    · subst hk
      have HR := Lib.hid (okV_ref (n := G.ns.length) hb)
      clear hb
      by_cases hx : x < G.ns.length
      · have hd : decide (x < (G.ns.length : Int)) = true := by simpa using hx
        go_wp2_with fail
        go_ret
        exact ⟨ret_bool (by rw [HR.out, hd]), HX.out⟩
      · have hd : decide (x < (G.ns.length : Int)) = false := by simpa using hx
        go_wp2_with fail
        go_ret
        exact ⟨ret_bool (by rw [HR.out, hd]), HX.out⟩
    · have HR := Lib.hid (okV_val (n := G.ns.length) hb hk)
      have hd : (k != 2) = true := by simpa using hk
      clear hb hk
      go_wp2_with fail
      go_ret
      exact ⟨ret_bool HR.out.symm, HX.out⟩
theorem refsound_any (G : GraphD) (A : Option Addr) (cap : Nat) (l : List (Int × Int)) (V : World) (hn : G.ns.length ≤ 9223372036854775807) (hlen : l.length ≤ 9223372036854775807) (hl : SpansAt V A l) :
    Calls Try.prog 57 #[.agg #[.slice G.nA G.ns.length G.ncap, .slice G.rA G.rs.length G.rcap], .slice A l.length cap] V fun e w' => e = .returned (.bool (l.all (okV G.ns.length))) ∧ Ext V w' := by
  have k0 := fun w' => boxed V #[.slice G.nA G.ns.length G.ncap, .slice G.rA G.rs.length G.rcap] 25 0 (.slice G.nA G.ns.length G.ncap) rfl w'
  have HL := Lib.hid hl
  have hV : Ext V (V.alloc (.cells #[.slice G.nA G.ns.length G.ncap, .slice G.rA G.rs.length G.rcap] 25)) := (Ext.refl V).alloc _
  have HV := Lib.hid hV
  clear hl hV
  go_enter Try.func57, Try.ntmps57
  go_wp2_with fail
  go_loopw [5] (fun i wr => ∃ k : Nat, k ≤ l.length ∧ i = .int .i64 k ∧ Ext (V.alloc (.cells #[.slice G.nA G.ns.length G.ncap, .slice G.rA G.rs.length G.rcap] 25)) wr ∧ Hid (∀ i, i < k → okV G.ns.length (l.getD i (0, 0)) = true)) (fun i _ => l.length - (intOf i).toNat)
  case atStart => exact ⟨0, by omega, rfl, Ext.refl _, Lib.hid (by omega)⟩
  case round =>
    obtain ⟨k, hk, rfl, hxr, hq⟩ := hrel
    by_cases hlt : k < l.length
    rotate_left
    · have HR := Lib.hid (all_ofD (p := okV G.ns.length) (l := l) (d := (0, 0)) (fun i hi => hq.out i (by omega)))
      clear hq
      go_wp2_with fail
      go_ret
      exact ⟨ret_bool HR.out.symm, HV.out.trans hxr⟩
    obtain ⟨lb, off, rfl, hc⟩ := HL.out.get (by omega)
    obtain ⟨f1, f2⟩ := spans_cell hc hlt
    have c1 := hxr.cell (HV.out.cell f1)
    have c2 := hxr.cell (HV.out.cell f2)
    have b0 := k0 _ hxr
    have HX := Lib.hid hxr
    have HU := Lib.hid (fun h => upTo (p := okV G.ns.length) (l := l) (d := (0, 0)) hq.out h)
    have HF := Lib.hid (fun h => all_notD (p := okV G.ns.length) (l := l) (d := (0, 0)) hlt h)
    have ib1 : (k : Int) < (l.length : Int) := by omega
    have ib0 : (0 : Int) ≤ (k : Int) := by omega
    have hs0 : Ext wr wr := Ext.refl wr
    clear hc f1 f2 hq HL k0 hxr
    generalize l.getD k (0, 0) = y at *
    obtain ⟨p, q⟩ := y
    simp only at c1 c2
    have l0 : ∀ u : ExtOf wr, u.1.cell? ⟨V.heap.size, 0, none⟩ = some (.slice G.nA G.ns.length G.ncap) := fun u => u.2.cell b0
    have l1 : ∀ u : ExtOf wr, u.1.cell? ⟨lb, off + k * 2, none⟩ = some (.int .i64 p) := fun u => u.2.cell c1
    have l2 : ∀ u : ExtOf wr, u.1.cell? ⟨lb, off + k * 2 + 1, none⟩ = some (.int .i64 q) := fun u => u.2.cell c2
    obtain ⟨b, hb⟩ : ∃ b, vmayB p q = b := ⟨_, rfl⟩
    have HB := Lib.hid hb
    cases b
    · have HR := Lib.hid (HF.out (okV_no hb))
      clear hb HF HU
      go_wp2_with fail
      (refine wp_region_ext (W := wr) (by kernel_rfl) (by kernel_rfl) (by with_reducible assumption) ?_; (repeat (go_big_quiet_step (first | (go_at_call 81; with_reducible exact Calls.ext_of (refvmay_is p q false HB.out _))))); refine wpQuiet_nil ?_; intro w1 hx)
      go_wp2_with fail
      go_ret
      exact ⟨ret_bool HR.out.symm, HV.out.trans (HX.out.trans hx)⟩
    by_cases hk2 : p = 2
    · subst hk2
      have HR := Lib.hid (okV_ref (n := G.ns.length) hb)
      clear hb
      by_cases hx : q < G.ns.length
      · have hd : decide (q < (G.ns.length : Int)) = true := by simpa using hx
        have hd2 : decide ((G.ns.length : Int) ≤ q) = false := by simpa using hx
        have HQ := Lib.hid (HU.out (HR.out.trans hd))
        clear hx HF HU
        go_wp2_with fail
        (refine wp_region_ext (W := wr) (by kernel_rfl) (by kernel_rfl) (by with_reducible assumption) ?_; (repeat (go_big_quiet_step (first | (go_at_call 81; with_reducible exact Calls.ext_of (refvmay_is 2 q true HB.out _))))); refine wpQuiet_nil ?_; intro w1 hx)
        go_wp2_with fail
        go_roundw
        case rel => exact ⟨k + 1, by omega, by go_num, HX.out.trans hx, HQ⟩
        case measure => simp [intOf]; omega
      · have hd : decide (q < (G.ns.length : Int)) = false := by simpa using hx
        have hd2 : decide ((G.ns.length : Int) ≤ q) = true := by simpa using hx
        have HQ := Lib.hid (HF.out (HR.out.trans hd))
        clear hx HF HU
        go_wp2_with fail
        (refine wp_region_ext (W := wr) (by kernel_rfl) (by kernel_rfl) (by with_reducible assumption) ?_; (repeat (go_big_quiet_step (first | (go_at_call 81; with_reducible exact Calls.ext_of (refvmay_is 2 q true HB.out _))))); refine wpQuiet_nil ?_; intro w1 hx)
        go_wp2_with fail
        go_ret
        exact ⟨ret_bool HQ.out.symm, HV.out.trans (HX.out.trans hx)⟩
    · have HQ := Lib.hid (HU.out (okV_val hb hk2))
      have hd : (p == 2) = false := by simpa using hk2
      clear hb HF HU hk2
      go_wp2_with fail
      (refine wp_region_ext (W := wr) (by kernel_rfl) (by kernel_rfl) (by with_reducible assumption) ?_; (repeat (go_big_quiet_step (first | (go_at_call 81; with_reducible exact Calls.ext_of (refvmay_is p q true HB.out _))))); refine wpQuiet_nil ?_; intro w1 hx)
      go_wp2_with fail
      go_roundw
      case rel => exact ⟨k + 1, by omega, by go_num, HX.out.trans hx, HQ⟩
      case measure => simp [intOf]; omega
end Go.Proofs.Ytphpppjfogpohaa

/- Whether a graph may be: the reference. -/
set_option linter.unusedSimpArgs false
set_option linter.unusedVariables false
namespace Go.Proofs.Ytphpppjfogpohaa
open Go.RowKit Go.Shelf

/-- A node's own numbers. -/
def okN (x : NodeD) : Bool := decide (0 ≤ x.kind ∧ x.kind ≤ 31 ∧ x.fields.length ≤ 4096 ∧ x.raws.length ≤ 4096)
def rightG (G : GraphD) : Bool := G.ns.all (fun x => okN x && x.fields.all (okV G.ns.length)) && G.rs.all (okV G.ns.length)
set_option maxRecDepth 100000
set_option maxHeartbeats 4000000
theorem refsound_is (G : GraphD) (A : Option Addr) (cap : Nat) (l : List (Int × Int)) (b : Bool) (hb : l.all (okV G.ns.length) = b) (V : World) (hn : G.ns.length ≤ 9223372036854775807) (hlen : l.length ≤ 9223372036854775807) (hl : SpansAt V A l) :
    Calls Try.prog 57 #[.agg #[.slice G.nA G.ns.length G.ncap, .slice G.rA G.rs.length G.rcap], .slice A l.length cap] V fun e w' => e = .returned (.bool b) ∧ Ext V w' := by
  subst hb; exact refsound_any G A cap l V hn hlen hl
theorem refright_x (nA : Option Addr) (ncap : Nat) (ns : List NodeD) (rA : Option Addr) (rcap : Nat) (rs : List (Int × Int)) (V : World) (hN : NodesAt V nA ns) (hR : SpansAt V rA rs) (hn : ns.length ≤ 9223372036854775807) (hr : rs.length ≤ 9223372036854775807) (hf : ∀ x ∈ ns, x.fields.length ≤ 9223372036854775807) :
    Calls Try.prog 34 #[.agg #[.slice nA ns.length ncap, .slice rA rs.length rcap]] V fun e w' => e = .returned (.bool (rightG ⟨nA, ncap, ns, rA, rcap, rs⟩)) ∧ Ext V w' := by
  have k0 := fun w' => boxed V #[.slice nA ns.length ncap, .slice rA rs.length rcap] 25 0 (.slice nA ns.length ncap) rfl w'
  have k1 := fun w' => boxed V #[.slice nA ns.length ncap, .slice rA rs.length rcap] 25 1 (.slice rA rs.length rcap) rfl w'
  have HN' := Lib.hid hN
  have HR' := Lib.hid hR
  have HF := Lib.hid hf
  have hV : Ext V (V.alloc (.cells #[.slice nA ns.length ncap, .slice rA rs.length rcap] 25)) := (Ext.refl V).alloc _
  have HV := Lib.hid hV
  have HP := Lib.hid (show ∀ b, ns.all (fun x => okN x && x.fields.all (okV ns.length)) = b → rightG ⟨nA, ncap, ns, rA, rcap, rs⟩ = (b && rs.all (okV ns.length)) from fun b h => by unfold rightG; rw [h])
  clear hN hR hV hf
  go_enter Try.func34, Try.ntmps34
  go_wp2_with fail
  go_loopw [3] (fun i wr => ∃ k : Nat, k ≤ ns.length ∧ i = .int .i64 k ∧ Ext (V.alloc (.cells #[.slice nA ns.length ncap, .slice rA rs.length rcap] 25)) wr ∧ Hid (∀ i, i < k → (okN (ns.getD i default) && (ns.getD i default).fields.all (okV ns.length)) = true)) (fun i _ => ns.length - (intOf i).toNat)
  case atStart => exact ⟨0, by omega, rfl, Ext.refl _, Lib.hid (by omega)⟩
  case round =>
    obtain ⟨k, hk, rfl, hxr, hq⟩ := hrel
    have b0 := k0 _ hxr
    have b1 := k1 _ hxr
    by_cases hlt : k < ns.length
    rotate_left
    · have HR := Lib.hid (HP.out true (all_ofD (p := fun x => okN x && x.fields.all (okV ns.length)) (l := ns) (d := default) (fun i hi => hq.out i (by omega))))
      clear hq HP
      go_wp2_with fail
      refine (refsound_any ⟨nA, ncap, ns, rA, rcap, rs⟩ rA rcap rs _ hn hr (HR'.out.ext (HV.out.trans hxr))).mono ?_
      rintro e w1 ⟨rfl, hx⟩
      have HX := Lib.hid (HV.out.trans (hxr.trans hx))
      go_wp2_with fail
      go_ret
      exact ⟨ret_bool (by rw [HR.out]; rfl), HX.out⟩
    obtain ⟨nb, noff, rfl, hcn⟩ := HN'.out.row.get (by omega)
    obtain ⟨d0, d1, d2⟩ := nodes_cell hcn hlt
    have e0 := hxr.cell (HV.out.cell d0)
    have e1 := hxr.cell (HV.out.cell d1)
    have e2 := hxr.cell (HV.out.cell d2)
    have HX := Lib.hid hxr
    have hsz : V.heap.size < wr.heap.size := by have := Ext.size hxr; simp at this; omega
    have hfl := HF.out _ (getD_mem (d := default) hlt)
    have HS := Lib.hid (HN'.out.each _ (getD_mem (d := default) hlt)).fields
    have HU := Lib.hid (fun h => upTo (p := fun x => okN x && x.fields.all (okV ns.length)) (l := ns) (d := default) hq.out h)
    have HN := Lib.hid (fun h => (HP.out false (all_notD (p := fun x => okN x && x.fields.all (okV ns.length)) (l := ns) (d := default) hlt h)).trans (Bool.false_and _))
    have ib1 : (k : Int) < (ns.length : Int) := by omega
    have ib0 : (0 : Int) ≤ (k : Int) := by omega
    clear hcn d0 d1 d2 k0 k1 hq HP HF
    generalize ns.getD k default = x at *
    have hkb : ∀ t, Ext (wr.alloc (.cells #[.int .i64 x.kind, .slice x.fA x.fields.length x.fcap, .slice x.rA x.raws.length x.rcap] 51)) t → Ext V t := fun t ht => HV.out.trans (HX.out.trans (((Ext.refl _).alloc _).trans ht))
    have HK := Lib.hid hkb
    clear hkb
    by_cases h1 : x.kind < 0
    · have hd1 : decide (x.kind < 0) = true := by simpa using h1
      have HR := Lib.hid (HN.out (by simp [okN]; omega))
      clear HN HU h1
      go_wp2_with fail
      go_ret
      exact ⟨ret_bool HR.out.symm, HK.out _ (Ext.refl _)⟩
    have hd1 : decide (x.kind < 0) = false := by simpa using h1
    by_cases h2 : 31 < x.kind
    · have hd2 : decide (31 < x.kind) = true := by simpa using h2
      have HR := Lib.hid (HN.out (by simp [okN]; omega))
      clear HN HU h1 h2
      go_wp2_with fail
      go_ret
      exact ⟨ret_bool HR.out.symm, HK.out _ (Ext.refl _)⟩
    have hd2 : decide (31 < x.kind) = false := by simpa using h2
    by_cases h3 : 4096 < x.fields.length
    · have hd3 : decide ((4096 : Int) < (x.fields.length : Int)) = true := by simp; omega
      have HR := Lib.hid (HN.out (by simp [okN]; omega))
      clear HN HU h1 h2
      go_wp2_with fail
      go_ret
      exact ⟨ret_bool HR.out.symm, HK.out _ (Ext.refl _)⟩
    have hd3 : decide ((4096 : Int) < (x.fields.length : Int)) = false := by simp; omega
    by_cases h4 : 4096 < x.raws.length
    · have hd4 : decide ((4096 : Int) < (x.raws.length : Int)) = true := by simp; omega
      have HR := Lib.hid (HN.out (by simp [okN]; omega))
      clear HN HU h1 h2
      go_wp2_with fail
      go_ret
      exact ⟨ret_bool HR.out.symm, HK.out _ (Ext.refl _)⟩
    have hd4 : decide ((4096 : Int) < (x.raws.length : Int)) = false := by simp; omega
    obtain ⟨b, hb⟩ : ∃ b, x.fields.all (okV ns.length) = b := ⟨_, rfl⟩
    have HB := Lib.hid hb
    have hok : okN x = true := by simp [okN]; omega
    go_wp2_with fail
    refine (refsound_is ⟨some ⟨nb, noff, none⟩, ncap, ns, rA, rcap, rs⟩ x.fA x.fcap x.fields b HB.out _ hn hfl (HS.out.ext (HK.out _ (Ext.refl _)))).mono ?_
    rintro e w1 ⟨rfl, hx⟩
    cases b
    · have HR := Lib.hid (HN.out (by simp only [hok, hb]; rfl))
      clear hb HN HU h1 h2 hok
      go_wp2_with fail
      go_ret
      exact ⟨ret_bool HR.out.symm, HK.out _ hx⟩
    · have HR := Lib.hid (HU.out (by simp only [hok, hb]; rfl))
      clear hb HN HU h1 h2 hok
      go_wp2_with fail
      go_roundw
      case rel => exact ⟨k + 1, by omega, by go_num, HX.out.trans (((Ext.refl _).alloc _).trans hx), HR⟩
      case measure => simp [intOf]; omega
theorem grefright_any (G : GraphD) (V : World) (hG : GraphAt V G) (hn : G.ns.length ≤ 9223372036854775807) (hr : G.rs.length ≤ 9223372036854775807) (hf : ∀ x ∈ G.ns, x.fields.length ≤ 9223372036854775807) :
    Calls Try.prog 34 #[.agg #[.slice G.nA G.ns.length G.ncap, .slice G.rA G.rs.length G.rcap]] V fun e w' => e = .returned (.bool (rightG G)) ∧ Ext V w' := refright_x _ _ _ _ _ _ V hG.nodes hG.roots hn hr hf
end Go.Proofs.Ytphpppjfogpohaa

