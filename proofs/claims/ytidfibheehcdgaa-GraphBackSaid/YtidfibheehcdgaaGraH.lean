/- Whether values, and a graph, may be: the program's sound, and the reference. -/
import Derived.Test.YtidfibheehcdgaaGraG
import Derived.Test.YtidfibheehcdgaaGraV
set_option linter.unusedSimpArgs false
set_option linter.unusedVariables false
namespace Go.Proofs.Ytidfibheehcdgaa
open Go.RowKit Go.Shelf

def okV (n : Nat) (x : Int × Int) : Bool := vmayB x.1 x.2 && (decide (x.1 ≠ 2) || decide (x.2 < n))
theorem enc_is (k x u er : Int) (h1 : encW k x = u) (h2 : encE k x = er) (w : World) :
    Calls Try.prog 41 #[.agg #[.int .i64 k, .int .i64 x]] w fun e w' => e = .returned (.tuple #[.int .u64 u, .int .i64 er]) ∧ Ext w w' := by
  subst h1 h2; exact enc_any k x w
theorem okV_no {n : Nat} {k x : Int} (h : vmayB k x = false) : okV n (k, x) = false := by simp [okV, h]
theorem okV_val {n : Nat} {k x : Int} (h : vmayB k x = true) (hk : k ≠ 2) : okV n (k, x) = true := by simp [okV, h, hk]
theorem okV_ref {n : Nat} {x : Int} (h : vmayB 2 x = true) : okV n (2, x) = decide (x < n) := by simp [okV, h]

set_option maxRecDepth 100000
set_option maxHeartbeats 4000000
theorem sound_any (G : GraphD) (k x : Int) (V : World) (hn : G.ns.length ≤ 9223372036854775807) :
    Calls Try.prog 25 #[.agg #[.slice G.nA G.ns.length G.ncap, .slice G.rA G.rs.length G.rcap], .agg #[.int .i64 k, .int .i64 x]] V fun e w' => e = .returned (.bool (okV G.ns.length (k, x))) ∧ Ext V w' := by
  have hV : Ext V ((V.alloc (.cells #[.slice G.nA G.ns.length G.ncap, .slice G.rA G.rs.length G.rcap] 25)).alloc (.cells #[.int .i64 k, .int .i64 x] 46)) := ((Ext.refl V).alloc _).alloc _
  have k0 := fun w' (h : Ext ((V.alloc (.cells #[.slice G.nA G.ns.length G.ncap, .slice G.rA G.rs.length G.rcap] 25)).alloc (.cells #[.int .i64 k, .int .i64 x] 46)) w') => boxed V #[.slice G.nA G.ns.length G.ncap, .slice G.rA G.rs.length G.rcap] 25 0 (.slice G.nA G.ns.length G.ncap) rfl w' (((Ext.refl _).alloc _).trans h)
  have k1 := fun w' => boxed (V.alloc (.cells #[.slice G.nA G.ns.length G.ncap, .slice G.rA G.rs.length G.rcap] 25)) #[.int .i64 k, .int .i64 x] 46 0 (.int .i64 k) rfl w'
  have k2 := fun w' => boxed (V.alloc (.cells #[.slice G.nA G.ns.length G.ncap, .slice G.rA G.rs.length G.rcap] 25)) #[.int .i64 k, .int .i64 x] 46 1 (.int .i64 x) rfl w'
  simp only [World.size_alloc] at k1 k2
  go_enter Try.func25, Try.ntmps25
  go_wp2_with fail
  generalize ((V.alloc (.cells #[.slice G.nA G.ns.length G.ncap, .slice G.rA G.rs.length G.rcap] 25)).alloc (.cells #[.int .i64 k, .int .i64 x] 46)) = W at *
  obtain ⟨b, hb⟩ : ∃ b, vmayB k x = b := ⟨_, rfl⟩
  cases b
  · have HR := Lib.hid (okV_no (n := G.ns.length) hb)
    refine (enc_is k x 0 1 (enc_no hb).1 (enc_no hb).2 _).mono ?_
    rintro e w1 ⟨rfl, hx⟩
    have HX := Lib.hid (hV.trans hx)
    clear hb
    go_wp2_with fail
    go_ret
    exact ⟨ret_bool HR.out.symm, HX.out⟩
  · refine (enc_is k x _ 0 rfl (by simp [encE, hb]) _).mono ?_
    rintro e w1 ⟨rfl, hx⟩
    have HX := Lib.hid (hV.trans hx)
    have c0 := k0 w1 hx
    have c1 := k1 w1 hx
    have c2 := k2 w1 hx
    generalize encW k x = u at *
    clear k0 k1 k2 hx hV
    by_cases hk : k = 2
    · subst hk
      have HR := Lib.hid (okV_ref (n := G.ns.length) hb)
      clear hb
      by_cases hx : x < G.ns.length
      · have hd : decide (x < (G.ns.length : Int)) = true := by simpa using hx
        go_wp2_with fail
        go_ret
        exact ⟨ret_bool (by rw [HR.out, hd]), HX.out⟩
      · have hd : decide (x < (G.ns.length : Int)) = false := by simpa using hx
        go_wp2_with fail
        go_ret
        exact ⟨ret_bool (by rw [HR.out, hd]), HX.out⟩
    · have HR := Lib.hid (okV_val (n := G.ns.length) hb hk)
      have hd : (k != 2) = true := by simpa using hk
      clear hb hk
      go_wp2_with fail
      go_ret
      exact ⟨ret_bool HR.out.symm, HX.out⟩
theorem all_ofD {α : Type} {d : α} {p : α → Bool} {l : List α} (h : ∀ i, i < l.length → p (l.getD i d) = true) : l.all p = true := by
  rw [List.all_eq_true]
  intro x hx
  obtain ⟨i, hi, rfl⟩ := List.getElem_of_mem hx
  have := h i hi
  simpa [List.getElem?_eq_getElem hi] using this
theorem all_notD {α : Type} {d : α} {p : α → Bool} {l : List α} {k : Nat} (hk : k < l.length) (h : p (l.getD k d) = false) : l.all p = false := by
  rw [List.all_eq_false]
  exact ⟨_, getD_mem hk, by rw [h]; simp⟩
theorem upTo {α : Type} {d : α} {p : α → Bool} {l : List α} {k : Nat} (hq : ∀ i, i < k → p (l.getD i d) = true) (h : p (l.getD k d) = true) : ∀ i, i < k + 1 → p (l.getD i d) = true := fun i hi => by
  rcases Nat.lt_or_ge i k with h' | h'
  · exact hq i h'
  · obtain rfl : i = k := by omega
    exact h
theorem refsound_any (G : GraphD) (A : Option Addr) (cap : Nat) (l : List (Int × Int)) (V : World) (hn : G.ns.length ≤ 9223372036854775807) (hlen : l.length ≤ 9223372036854775807) (hl : SpansAt V A l) :
    Calls Try.prog 26 #[.agg #[.slice G.nA G.ns.length G.ncap, .slice G.rA G.rs.length G.rcap], .slice A l.length cap] V fun e w' => e = .returned (.bool (l.all (okV G.ns.length))) ∧ Ext V w' := by
  have k0 := fun w' => boxed V #[.slice G.nA G.ns.length G.ncap, .slice G.rA G.rs.length G.rcap] 25 0 (.slice G.nA G.ns.length G.ncap) rfl w'
  have HL := Lib.hid hl
  have hV : Ext V (V.alloc (.cells #[.slice G.nA G.ns.length G.ncap, .slice G.rA G.rs.length G.rcap] 25)) := (Ext.refl V).alloc _
  have HV := Lib.hid hV
  clear hl hV
  go_enter Try.func26, Try.ntmps26
  go_wp2_with fail
  go_loopw [5] (fun i wr => ∃ k : Nat, k ≤ l.length ∧ i = .int .i64 k ∧ Ext (V.alloc (.cells #[.slice G.nA G.ns.length G.ncap, .slice G.rA G.rs.length G.rcap] 25)) wr ∧ Hid (∀ i, i < k → okV G.ns.length (l.getD i (0, 0)) = true)) (fun i _ => l.length - (intOf i).toNat)
  case atStart => exact ⟨0, by omega, rfl, Ext.refl _, Lib.hid (by omega)⟩
  case round =>
    obtain ⟨k, hk, rfl, hxr, hq⟩ := hrel
    by_cases hlt : k < l.length
    rotate_left
    · have HR := Lib.hid (all_ofD (p := okV G.ns.length) (l := l) (d := (0, 0)) (fun i hi => hq.out i (by omega)))
      clear hq
      go_wp2_with fail
      go_ret
      exact ⟨ret_bool HR.out.symm, HV.out.trans hxr⟩
    obtain ⟨lb, off, rfl, hc⟩ := HL.out.get (by omega)
    obtain ⟨f1, f2⟩ := spans_cell hc hlt
    have c1 := hxr.cell (HV.out.cell f1)
    have c2 := hxr.cell (HV.out.cell f2)
    have b0 := k0 _ hxr
    have HX := Lib.hid hxr
    have HU := Lib.hid (fun h => upTo (p := okV G.ns.length) (l := l) (d := (0, 0)) hq.out h)
    have HF := Lib.hid (fun h => all_notD (p := okV G.ns.length) (l := l) (d := (0, 0)) hlt h)
    have ib1 : (k : Int) < (l.length : Int) := by omega
    have ib0 : (0 : Int) ≤ (k : Int) := by omega
    have hs0 : Ext wr wr := Ext.refl wr
    clear hc f1 f2 hq HL k0 hxr
    generalize l.getD k (0, 0) = y at *
    obtain ⟨p, q⟩ := y
    simp only at c1 c2
    have l0 : ∀ u : ExtOf wr, u.1.cell? ⟨V.heap.size, 0, none⟩ = some (.slice G.nA G.ns.length G.ncap) := fun u => u.2.cell b0
    have l1 : ∀ u : ExtOf wr, u.1.cell? ⟨lb, off + k * 2, none⟩ = some (.int .i64 p) := fun u => u.2.cell c1
    have l2 : ∀ u : ExtOf wr, u.1.cell? ⟨lb, off + k * 2 + 1, none⟩ = some (.int .i64 q) := fun u => u.2.cell c2
    obtain ⟨b, hb⟩ : ∃ b, vmayB p q = b := ⟨_, rfl⟩
    have HB := Lib.hid hb
    cases b
    · have HR := Lib.hid (HF.out (okV_no hb))
      clear hb HF HU
      go_wp2_with fail
      (refine wp_region_ext (W := wr) (by kernel_rfl) (by kernel_rfl) (by with_reducible assumption) ?_; (repeat (go_big_quiet_step (first | (go_at_call 42; with_reducible exact Calls.ext_of (refvmay_is p q false HB.out _))))); refine wpQuiet_nil ?_; intro w1 hx)
      go_wp2_with fail
      go_ret
      exact ⟨ret_bool HR.out.symm, HV.out.trans (HX.out.trans hx)⟩
    by_cases hk2 : p = 2
    · subst hk2
      have HR := Lib.hid (okV_ref (n := G.ns.length) hb)
      clear hb
      by_cases hx : q < G.ns.length
      · have hd : decide (q < (G.ns.length : Int)) = true := by simpa using hx
        have hd2 : decide ((G.ns.length : Int) ≤ q) = false := by simpa using hx
        have HQ := Lib.hid (HU.out (HR.out.trans hd))
        clear hx HF HU
        go_wp2_with fail
        (refine wp_region_ext (W := wr) (by kernel_rfl) (by kernel_rfl) (by with_reducible assumption) ?_; (repeat (go_big_quiet_step (first | (go_at_call 42; with_reducible exact Calls.ext_of (refvmay_is 2 q true HB.out _))))); refine wpQuiet_nil ?_; intro w1 hx)
        go_wp2_with fail
        go_roundw
        case rel => exact ⟨k + 1, by omega, by go_num, HX.out.trans hx, HQ⟩
        case measure => simp [intOf]; omega
      · have hd : decide (q < (G.ns.length : Int)) = false := by simpa using hx
        have hd2 : decide ((G.ns.length : Int) ≤ q) = true := by simpa using hx
        have HQ := Lib.hid (HF.out (HR.out.trans hd))
        clear hx HF HU
        go_wp2_with fail
        (refine wp_region_ext (W := wr) (by kernel_rfl) (by kernel_rfl) (by with_reducible assumption) ?_; (repeat (go_big_quiet_step (first | (go_at_call 42; with_reducible exact Calls.ext_of (refvmay_is 2 q true HB.out _))))); refine wpQuiet_nil ?_; intro w1 hx)
        go_wp2_with fail
        go_ret
        exact ⟨ret_bool HQ.out.symm, HV.out.trans (HX.out.trans hx)⟩
    · have HQ := Lib.hid (HU.out (okV_val hb hk2))
      have hd : (p == 2) = false := by simpa using hk2
      clear hb HF HU hk2
      go_wp2_with fail
      (refine wp_region_ext (W := wr) (by kernel_rfl) (by kernel_rfl) (by with_reducible assumption) ?_; (repeat (go_big_quiet_step (first | (go_at_call 42; with_reducible exact Calls.ext_of (refvmay_is p q true HB.out _))))); refine wpQuiet_nil ?_; intro w1 hx)
      go_wp2_with fail
      go_roundw
      case rel => exact ⟨k + 1, by omega, by go_num, HX.out.trans hx, HQ⟩
      case measure => simp [intOf]; omega
end Go.Proofs.Ytidfibheehcdgaa
