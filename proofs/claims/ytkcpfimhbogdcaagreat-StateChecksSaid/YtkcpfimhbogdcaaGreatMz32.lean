/- Merged by program (merge.py) out of: LedK. -/
import Derived.Test.YtkcpfimhbogdcaaGreatMz28
import Derived.Test.YtkcpfimhbogdcaaGreatMz31
import Derived.Test.YtkcpfimhbogdcaaGreatMz13
/- The reference of ledger.Right. -/
set_option linter.unusedSimpArgs false
set_option linter.unusedVariables false
namespace Go.Proofs.YtkcpfimhbogdcaaGreat
open Go.RowKit Go.Shelf

def RiseTo (a s : Int) (xs : List (Int × Int)) (k : Nat) : Prop := ∀ i, i < k → withinB (xs.getD i (0, 0)).1 (xs.getD i (0, 0)).2 a s = true ∧ ∀ j, j + 1 = i → (xs.getD j (0, 0)).1 < (xs.getD i (0, 0)).1
theorem RiseTo.step {a s : Int} {xs : List (Int × Int)} {k : Nat} (h : RiseTo a s xs k) (h1 : withinB (xs.getD k (0, 0)).1 (xs.getD k (0, 0)).2 a s = true) (h2 : ∀ j, j + 1 = k → (xs.getD j (0, 0)).1 < (xs.getD k (0, 0)).1) : RiseTo a s xs (k + 1) := fun i hi => by
  rcases Nat.lt_or_ge i k with h' | h'
  · exact h i h'
  · obtain rfl : i = k := by omega
    exact ⟨h1, h2⟩
theorem rise_lt {xs : List (Int × Int)} (h : ∀ i, i + 1 < xs.length → (xs.getD i (0, 0)).1 < (xs.getD (i + 1) (0, 0)).1) : ∀ d i, i + d + 1 < xs.length → (xs.getD i (0, 0)).1 < (xs.getD (i + d + 1) (0, 0)).1 := by
  intro d
  induction d with
  | zero => intro i hi; exact h i (by omega)
  | succ d ih =>
    intro i hi
    have h1 := ih i (by omega)
    have h2 := h (i + d + 1) (by omega)
    rw [show i + (d + 1) + 1 = i + d + 1 + 1 from by omega]
    omega
theorem rise_sort {xs : List (Int × Int)} (h : ∀ i, i + 1 < xs.length → (xs.getD i (0, 0)).1 < (xs.getD (i + 1) (0, 0)).1) : sortS xs = xs := by
  refine (sortS_unique (List.Perm.refl _) ?_).symm
  rw [List.pairwise_iff_getElem]
  intro i j hi hj hij
  have := rise_lt h (j - i - 1) i (by omega)
  rw [show i + (j - i - 1) + 1 = j from by omega] at this
  simp only [List.getD_eq_getElem?_getD, List.getElem?_eq_getElem hi, List.getElem?_eq_getElem hj, Option.getD_some] at this
  rw [leS_iff]
  exact .inl this
theorem rise_chain {xs : List (Int × Int)} (h : ∀ i, i + 1 < xs.length → (xs.getD i (0, 0)).1 < (xs.getD (i + 1) (0, 0)).1) : apartB xs = chainB xs := by
  rw [← chain_sort, rise_sort h]
theorem led_rise {a s : Int} {xs : List (Int × Int)} (h : RiseTo a s xs xs.length) : ledB a s xs = apartB xs := by
  rw [ledB, all_within fun i hi => (h i hi).1, Bool.true_and, rise_chain fun i hi => (h (i + 1) hi).2 i rfl]
theorem chain_lt {xs : List (Int × Int)} (h : chainB xs = true) {j : Nat} (hj : j + 1 < xs.length) : (xs.getD j (0, 0)).1 < (xs.getD (j + 1) (0, 0)).1 := by
  have h2 := of_decide_eq_true h
  have h3 := (h2 (j + 1) hj).2 j (by omega) rfl
  have h4 := may_bd (h2 j (by omega)).1
  omega
theorem led_no3 {a s : Int} {xs : List (Int × Int)} {j : Nat} (hj : j + 1 < xs.length) (h : (xs.getD (j + 1) (0, 0)).1 ≤ (xs.getD j (0, 0)).1) : ledB a s xs = false := by
  have : chainB xs = false := by
    cases hc : chainB xs
    · rfl
    · have := chain_lt hc hj
      omega
  rw [ledB, this, Bool.and_false]

set_option maxRecDepth 100000 in
set_option maxHeartbeats 4000000 in
theorem refledright_any (a s : Int) (A A2 : Option Addr) (cap cap2 : Nat) (xs fs : List (Int × Int)) (w : World) (hA : A = none → cap = 0) (hlen : xs.length ≤ 100000) (hlen2 : fs.length ≤ 400000) (hl : SpansAt w A xs) (hl2 : SpansAt w A2 fs) :
    Calls Tryz.prog 55 #[.agg #[.int .i64 (a), .int .i64 (s)], .slice A xs.length cap, .slice A2 fs.length cap2] w fun e w' => e = .returned (.bool (ledR a s xs fs)) ∧ Ext w w' := by
  have hW : Ext w (w.alloc (.cells #[.int .i64 a, .int .i64 s] 50)) := (Ext.refl w).alloc _
  have HL := Lib.hid (hl.ext hW)
  have HF := Lib.hid (hl2.ext hW)
  have HA := Lib.hid hA
  have b0 := boxed w #[.int .i64 a, .int .i64 s] 50 0 (.int .i64 a) rfl
  have b1 := boxed w #[.int .i64 a, .int .i64 s] 50 1 (.int .i64 s) rfl
  clear hl hl2 hA
  go_enter Tryz.func55, Tryz.ntmps55
  go_wp2_with fail
  generalize w.alloc (.cells #[.int .i64 a, .int .i64 s] 50) = W at *
  go_loopw [7] (fun i wr => ∃ k : Nat, k ≤ xs.length ∧ i = .int .i64 k ∧ Ext W wr ∧ Hid (RiseTo a s xs k)) (fun i _ => xs.length - (intOf i).toNat)
  case atStart => exact ⟨0, by omega, rfl, Ext.refl _, Lib.hid (fun i hi => absurd hi (by omega))⟩
  case round =>
    obtain ⟨k, hk, rfl, hxr, hq⟩ := hrel
    by_cases hlt : k < xs.length
    rotate_left
    · have HR := Lib.hid (led_rise (a := a) (s := s) (xs := xs) (fun i hi => hq.out i (by omega)))
      obtain ⟨p, hp⟩ : ∃ p, apartB xs = p := ⟨_, rfl⟩
      have HP := Lib.hid hp
      clear hq hp
      go_wp2_with fail
      refine (refapart_any A cap xs _ (by omega) (HL.out.ext hxr)).mono ?_
      rintro e W8 ⟨rfl, hx8⟩
      rw [HP.out]
      replace hxr := hxr.trans hx8
      have c0 := b0 W8 hxr
      have c1 := b1 W8 hxr
      clear hx8
      cases p
      · go_wp2_with fail
        go_ret
        exact ⟨ret_bool (by rw [ledR_no (by rw [HR.out, HP.out])]), hW.trans hxr⟩
      · go_wp2_with fail
        refine (refgaps_any a s A cap xs _ HA.out (by omega) (HL.out.ext hxr)).mono ?_
        rintro e W9 ⟨ys, hg, h8⟩
        obtain ⟨A8, cap8, rfl, hj8, hx8⟩ := h8.open
        have HJ := Lib.hid hj8
        have hys := gaps_len hg
        have HG := Lib.hid (ledR_of (fs := fs) (HR.out.trans HP.out) hg)
        replace hxr := hxr.trans hx8
        clear hj8 hx8 h8 c0 c1
        go_wp2_with fail
        refine (refsame_any A8 A2 cap8 cap2 ys fs W9 (by omega) (by omega) HJ.out (HF.out.ext hxr)).mono ?_
        rintro e W10 ⟨rfl, hx9⟩
        replace hxr := hxr.trans hx9
        go_wp2_with fail
        go_ret
        exact ⟨ret_bool (by rw [HG.out]), hW.trans hxr⟩
    obtain ⟨lb, off, rfl, hc⟩ := HL.out.get (by omega)
    have HC := Lib.hid hc
    obtain ⟨e1, e2⟩ := spans_cell hc hlt
    have HN1 := Lib.hid (fun h => led_no1 (a := a) (s := s) hlt h)
    have HP := Lib.hid (fun h1 h2 => hq.out.step h1 h2)
    have ib1 : (k : Int) < (xs.length : Int) := by omega
    have l1 := fun u : ExtOf wr => u.2.cell (hxr.cell e1)
    have l2 := fun u : ExtOf wr => u.2.cell (hxr.cell e2)
    have m1 := fun u : ExtOf wr => b0 u.1 (hxr.trans u.2)
    have m2 := fun u : ExtOf wr => b1 u.1 (hxr.trans u.2)
    have hs0 : Ext wr wr := Ext.refl wr
    clear e1 e2 hc HL HF
    rcases k with _ | m
    · generalize xs.getD 0 (0, 0) = x at *
      obtain ⟨x1, x2⟩ := x
      simp only [Nat.zero_mul, Nat.add_zero] at l1 l2
      clear hq HC
      cases hb : withinB x1 x2 a s
      · go_wp2_with fail
        (refine wp_region_ext (W := wr) (by kernel_rfl) (by kernel_rfl) (by with_reducible assumption) ?_; (repeat (go_big_quiet_step (first | (go_at_call 72; with_reducible exact Calls.ext_of (refwithin_is x1 x2 a s _ hb _))))); refine wpQuiet_nil ?_; intro w1 hx)
        go_wp2_with fail
        go_ret
        exact ⟨ret_bool (by rw [ledR_no (HN1.out hb)]), hW.trans (hxr.trans hx)⟩
      · go_wp2_with fail
        (refine wp_region_ext (W := wr) (by kernel_rfl) (by kernel_rfl) (by with_reducible assumption) ?_; (repeat (go_big_quiet_step (first | (go_at_call 72; with_reducible exact Calls.ext_of (refwithin_is x1 x2 a s _ hb _))))); refine wpQuiet_nil ?_; intro w1 hx)
        go_wp2_with fail
        (refine wp_region_ext (W := wr) (by kernel_rfl) (by kernel_rfl) (by with_reducible assumption) ?_; (repeat (go_big_quiet_step (fail))); refine wpQuiet_nil ?_; intro w1 hx)
        go_wp2_with fail
        go_roundw
        case rel => exact ⟨0 + 1, by omega, by go_num, hxr.trans (by assumption), Lib.hid (HP.out hb (by omega))⟩
        case measure => simp [intOf]; omega
    · obtain ⟨e3, e4⟩ := spans_cell HC.out (show m < xs.length by omega)
      have l3 := fun u : ExtOf wr => u.2.cell (hxr.cell e3)
      have HN2 := Lib.hid (fun h => led_no3 (a := a) (s := s) (xs := xs) (j := m) hlt h)
      have HP2 := Lib.hid (fun h1 (h2 : (xs.getD m (0, 0)).1 < (xs.getD (m + 1) (0, 0)).1) => HP.out h1 (fun j (hj : j + 1 = m + 1) => (show j = m by omega) ▸ h2))
      clear e3 e4 hq HC HP
      generalize xs.getD (m + 1) (0, 0) = x at *
      generalize xs.getD m (0, 0) = y at *
      obtain ⟨x1, x2⟩ := x
      obtain ⟨c, d⟩ := y
      simp only at l1 l2 l3
      have hcast : ((m + 1 : Nat) : Int) = (m : Int) + 1 := by omega
      rw [hcast]
      rw [hcast] at ib1
      clear hcast
      have hp : decide ((0 : Int) < (m : Int) + 1) = true := by simp; try omega
      have s1 : IntKind.i64.wrap ((m : Int) + 1 - 1) = (m : Int) := by rw [show (m : Int) + 1 - 1 = (m : Int) from by omega]; exact IntWalk.i64_in _ (by omega)
      have ib2 : (m : Int) < (xs.length : Int) := by omega
      have ib3 : (0 : Int) ≤ (m : Int) := by omega
      cases hb : withinB x1 x2 a s
      · go_wp2_with fail
        (refine wp_region_ext (W := wr) (by kernel_rfl) (by kernel_rfl) (by with_reducible assumption) ?_; (repeat (go_big_quiet_step (first | (go_at_call 72; with_reducible exact Calls.ext_of (refwithin_is x1 x2 a s _ hb _))))); refine wpQuiet_nil ?_; intro w1 hx)
        go_wp2_with fail
        go_ret
        exact ⟨ret_bool (by rw [ledR_no (HN1.out hb)]), hW.trans (hxr.trans hx)⟩
      · by_cases ht : x1 ≤ c
        · have ht' : decide (x1 ≤ c) = true := by simpa using ht
          have HT := Lib.hid ht
          clear ht
          go_wp2_with fail
          (refine wp_region_ext (W := wr) (by kernel_rfl) (by kernel_rfl) (by with_reducible assumption) ?_; (repeat (go_big_quiet_step (first | (go_at_call 72; with_reducible exact Calls.ext_of (refwithin_is x1 x2 a s _ hb _))))); refine wpQuiet_nil ?_; intro w1 hx)
          go_wp2_with fail
          (refine wp_region_ext (W := wr) (by kernel_rfl) (by kernel_rfl) (by with_reducible assumption) ?_; (repeat (go_big_quiet_step (fail))); refine wpQuiet_nil ?_; intro w1 hx)
          go_wp2_with fail
          go_ret
          exact ⟨ret_bool (by rw [ledR_no (HN2.out HT.out)]), hW.trans (hxr.trans (by assumption))⟩
        · have ht' : decide (x1 ≤ c) = false := by simpa using ht
          have HT := Lib.hid ht
          clear ht
          go_wp2_with fail
          (refine wp_region_ext (W := wr) (by kernel_rfl) (by kernel_rfl) (by with_reducible assumption) ?_; (repeat (go_big_quiet_step (first | (go_at_call 72; with_reducible exact Calls.ext_of (refwithin_is x1 x2 a s _ hb _))))); refine wpQuiet_nil ?_; intro w1 hx)
          go_wp2_with fail
          (refine wp_region_ext (W := wr) (by kernel_rfl) (by kernel_rfl) (by with_reducible assumption) ?_; (repeat (go_big_quiet_step (fail))); refine wpQuiet_nil ?_; intro w1 hx)
          go_wp2_with fail
          go_roundw
          case rel => exact ⟨m + 1 + 1, by omega, by go_num, hxr.trans (by assumption), Lib.hid (HP2.out hb (by have := HT.out; omega))⟩
          case measure => simp [intOf]; omega
end Go.Proofs.YtkcpfimhbogdcaaGreat

