/- Merged by program (merge.py) out of: LedK, LedL, LedM, LedN, LedO. -/
import Derived.Test.YtllcekmbcmhckaaMg18
import Derived.Test.YtllcekmbcmhckaaMg20
import Derived.Test.YtllcekmbcmhckaaMg16
import Derived.Test.YtllcekmbcmhckaaMg19
/- The reference of ledger.Right. -/
set_option linter.unusedSimpArgs false
set_option linter.unusedVariables false
namespace Go.Proofs.Ytllcekmbcmhckaa
open Go.RowKit Go.Shelf

def RiseTo (a s : Int) (xs : List (Int × Int)) (k : Nat) : Prop := ∀ i, i < k → withinB (xs.getD i (0, 0)).1 (xs.getD i (0, 0)).2 a s = true ∧ ∀ j, j + 1 = i → (xs.getD j (0, 0)).1 < (xs.getD i (0, 0)).1
theorem RiseTo.step {a s : Int} {xs : List (Int × Int)} {k : Nat} (h : RiseTo a s xs k) (h1 : withinB (xs.getD k (0, 0)).1 (xs.getD k (0, 0)).2 a s = true) (h2 : ∀ j, j + 1 = k → (xs.getD j (0, 0)).1 < (xs.getD k (0, 0)).1) : RiseTo a s xs (k + 1) := fun i hi => by
  rcases Nat.lt_or_ge i k with h' | h'
  · exact h i h'
  · obtain rfl : i = k := by omega
    exact ⟨h1, h2⟩
theorem rise_lt {xs : List (Int × Int)} (h : ∀ i, i + 1 < xs.length → (xs.getD i (0, 0)).1 < (xs.getD (i + 1) (0, 0)).1) : ∀ d i, i + d + 1 < xs.length → (xs.getD i (0, 0)).1 < (xs.getD (i + d + 1) (0, 0)).1 := by
  intro d
  induction d with
  | zero => intro i hi; exact h i (by omega)
  | succ d ih =>
    intro i hi
    have h1 := ih i (by omega)
    have h2 := h (i + d + 1) (by omega)
    rw [show i + (d + 1) + 1 = i + d + 1 + 1 from by omega]
    omega
theorem rise_sort {xs : List (Int × Int)} (h : ∀ i, i + 1 < xs.length → (xs.getD i (0, 0)).1 < (xs.getD (i + 1) (0, 0)).1) : sortS xs = xs := by
  refine (sortS_unique (List.Perm.refl _) ?_).symm
  rw [List.pairwise_iff_getElem]
  intro i j hi hj hij
  have := rise_lt h (j - i - 1) i (by omega)
  rw [show i + (j - i - 1) + 1 = j from by omega] at this
  simp only [List.getD_eq_getElem?_getD, List.getElem?_eq_getElem hi, List.getElem?_eq_getElem hj, Option.getD_some] at this
  rw [leS_iff]
  exact .inl this
theorem rise_chain {xs : List (Int × Int)} (h : ∀ i, i + 1 < xs.length → (xs.getD i (0, 0)).1 < (xs.getD (i + 1) (0, 0)).1) : apartB xs = chainB xs := by
  rw [← chain_sort, rise_sort h]
theorem led_rise {a s : Int} {xs : List (Int × Int)} (h : RiseTo a s xs xs.length) : ledB a s xs = apartB xs := by
  rw [ledB, all_within fun i hi => (h i hi).1, Bool.true_and, rise_chain fun i hi => (h (i + 1) hi).2 i rfl]
theorem chain_lt {xs : List (Int × Int)} (h : chainB xs = true) {j : Nat} (hj : j + 1 < xs.length) : (xs.getD j (0, 0)).1 < (xs.getD (j + 1) (0, 0)).1 := by
  have h2 := of_decide_eq_true h
  have h3 := (h2 (j + 1) hj).2 j (by omega) rfl
  have h4 := may_bd (h2 j (by omega)).1
  omega
theorem led_no3 {a s : Int} {xs : List (Int × Int)} {j : Nat} (hj : j + 1 < xs.length) (h : (xs.getD (j + 1) (0, 0)).1 ≤ (xs.getD j (0, 0)).1) : ledB a s xs = false := by
  have : chainB xs = false := by
    cases hc : chainB xs
    · rfl
    · have := chain_lt hc hj
      omega
  rw [ledB, this, Bool.and_false]

set_option maxRecDepth 100000 in
set_option maxHeartbeats 4000000 in
theorem refledright_any (a s : Int) (A A2 : Option Addr) (cap cap2 : Nat) (xs fs : List (Int × Int)) (w : World) (hA : A = none → cap = 0) (hlen : xs.length ≤ 100000) (hlen2 : fs.length ≤ 400000) (hl : SpansAt w A xs) (hl2 : SpansAt w A2 fs) :
    Calls Try.prog 57 #[.agg #[.int .i64 (a), .int .i64 (s)], .slice A xs.length cap, .slice A2 fs.length cap2] w fun e w' => e = .returned (.bool (ledR a s xs fs)) ∧ Ext w w' := by
  have hW : Ext w (w.alloc (.cells #[.int .i64 a, .int .i64 s] 23)) := (Ext.refl w).alloc _
  have HL := Lib.hid (hl.ext hW)
  have HF := Lib.hid (hl2.ext hW)
  have HA := Lib.hid hA
  have b0 := boxed w #[.int .i64 a, .int .i64 s] 23 0 (.int .i64 a) rfl
  have b1 := boxed w #[.int .i64 a, .int .i64 s] 23 1 (.int .i64 s) rfl
  clear hl hl2 hA
  go_enter Try.func57, Try.ntmps57
  go_wp2_with fail
  generalize w.alloc (.cells #[.int .i64 a, .int .i64 s] 23) = W at *
  go_loopw [7] (fun i wr => ∃ k : Nat, k ≤ xs.length ∧ i = .int .i64 k ∧ Ext W wr ∧ Hid (RiseTo a s xs k)) (fun i _ => xs.length - (intOf i).toNat)
  case atStart => exact ⟨0, by omega, rfl, Ext.refl _, Lib.hid (fun i hi => absurd hi (by omega))⟩
  case round =>
    obtain ⟨k, hk, rfl, hxr, hq⟩ := hrel
    by_cases hlt : k < xs.length
    rotate_left
    · have HR := Lib.hid (led_rise (a := a) (s := s) (xs := xs) (fun i hi => hq.out i (by omega)))
      obtain ⟨p, hp⟩ : ∃ p, apartB xs = p := ⟨_, rfl⟩
      have HP := Lib.hid hp
      clear hq hp
      go_wp2_with fail
      refine (refapart_any A cap xs _ (by omega) (HL.out.ext hxr)).mono ?_
      rintro e W8 ⟨rfl, hx8⟩
      rw [HP.out]
      replace hxr := hxr.trans hx8
      have c0 := b0 W8 hxr
      have c1 := b1 W8 hxr
      clear hx8
      cases p
      · go_wp2_with fail
        go_ret
        exact ⟨ret_bool (by rw [ledR_no (by rw [HR.out, HP.out])]), hW.trans hxr⟩
      · go_wp2_with fail
        refine (refgaps_any a s A cap xs _ HA.out (by omega) (HL.out.ext hxr)).mono ?_
        rintro e W9 ⟨ys, hg, h8⟩
        obtain ⟨A8, cap8, rfl, hj8, hx8⟩ := h8.open
        have HJ := Lib.hid hj8
        have hys := gaps_len hg
        have HG := Lib.hid (ledR_of (fs := fs) (HR.out.trans HP.out) hg)
        replace hxr := hxr.trans hx8
        clear hj8 hx8 h8 c0 c1
        go_wp2_with fail
        refine (refsame_any A8 A2 cap8 cap2 ys fs W9 (by omega) (by omega) HJ.out (HF.out.ext hxr)).mono ?_
        rintro e W10 ⟨rfl, hx9⟩
        replace hxr := hxr.trans hx9
        go_wp2_with fail
        go_ret
        exact ⟨ret_bool (by rw [HG.out]), hW.trans hxr⟩
    obtain ⟨lb, off, rfl, hc⟩ := HL.out.get (by omega)
    have HC := Lib.hid hc
    obtain ⟨e1, e2⟩ := spans_cell hc hlt
    have HN1 := Lib.hid (fun h => led_no1 (a := a) (s := s) hlt h)
    have HP := Lib.hid (fun h1 h2 => hq.out.step h1 h2)
    have ib1 : (k : Int) < (xs.length : Int) := by omega
    have l1 := fun u : ExtOf wr => u.2.cell (hxr.cell e1)
    have l2 := fun u : ExtOf wr => u.2.cell (hxr.cell e2)
    have m1 := fun u : ExtOf wr => b0 u.1 (hxr.trans u.2)
    have m2 := fun u : ExtOf wr => b1 u.1 (hxr.trans u.2)
    have hs0 : Ext wr wr := Ext.refl wr
    clear e1 e2 hc HL HF
    rcases k with _ | m
    · generalize xs.getD 0 (0, 0) = x at *
      obtain ⟨x1, x2⟩ := x
      simp only [Nat.zero_mul, Nat.add_zero] at l1 l2
      clear hq HC
      cases hb : withinB x1 x2 a s
      · go_wp2_with fail
        (refine wp_region_ext (W := wr) (by kernel_rfl) (by kernel_rfl) (by with_reducible assumption) ?_; (repeat (go_big_quiet_step (first | (go_at_call 20; with_reducible exact Calls.ext_of (refwithin_is x1 x2 a s _ hb _))))); refine wpQuiet_nil ?_; intro w1 hx)
        go_wp2_with fail
        go_ret
        exact ⟨ret_bool (by rw [ledR_no (HN1.out hb)]), hW.trans (hxr.trans hx)⟩
      · go_wp2_with fail
        (refine wp_region_ext (W := wr) (by kernel_rfl) (by kernel_rfl) (by with_reducible assumption) ?_; (repeat (go_big_quiet_step (first | (go_at_call 20; with_reducible exact Calls.ext_of (refwithin_is x1 x2 a s _ hb _))))); refine wpQuiet_nil ?_; intro w1 hx)
        go_wp2_with fail
        (refine wp_region_ext (W := wr) (by kernel_rfl) (by kernel_rfl) (by with_reducible assumption) ?_; (repeat (go_big_quiet_step (fail))); refine wpQuiet_nil ?_; intro w1 hx)
        go_wp2_with fail
        go_roundw
        case rel => exact ⟨0 + 1, by omega, by go_num, hxr.trans (by assumption), Lib.hid (HP.out hb (by omega))⟩
        case measure => simp [intOf]; omega
    · obtain ⟨e3, e4⟩ := spans_cell HC.out (show m < xs.length by omega)
      have l3 := fun u : ExtOf wr => u.2.cell (hxr.cell e3)
      have HN2 := Lib.hid (fun h => led_no3 (a := a) (s := s) (xs := xs) (j := m) hlt h)
      have HP2 := Lib.hid (fun h1 (h2 : (xs.getD m (0, 0)).1 < (xs.getD (m + 1) (0, 0)).1) => HP.out h1 (fun j (hj : j + 1 = m + 1) => (show j = m by omega) ▸ h2))
      clear e3 e4 hq HC HP
      generalize xs.getD (m + 1) (0, 0) = x at *
      generalize xs.getD m (0, 0) = y at *
      obtain ⟨x1, x2⟩ := x
      obtain ⟨c, d⟩ := y
      simp only at l1 l2 l3
      have hcast : ((m + 1 : Nat) : Int) = (m : Int) + 1 := by omega
      rw [hcast]
      rw [hcast] at ib1
      clear hcast
      have hp : decide ((0 : Int) < (m : Int) + 1) = true := by simp; try omega
      have s1 : IntKind.i64.wrap ((m : Int) + 1 - 1) = (m : Int) := by rw [show (m : Int) + 1 - 1 = (m : Int) from by omega]; exact IntWalk.i64_in _ (by omega)
      have ib2 : (m : Int) < (xs.length : Int) := by omega
      have ib3 : (0 : Int) ≤ (m : Int) := by omega
      cases hb : withinB x1 x2 a s
      · go_wp2_with fail
        (refine wp_region_ext (W := wr) (by kernel_rfl) (by kernel_rfl) (by with_reducible assumption) ?_; (repeat (go_big_quiet_step (first | (go_at_call 20; with_reducible exact Calls.ext_of (refwithin_is x1 x2 a s _ hb _))))); refine wpQuiet_nil ?_; intro w1 hx)
        go_wp2_with fail
        go_ret
        exact ⟨ret_bool (by rw [ledR_no (HN1.out hb)]), hW.trans (hxr.trans hx)⟩
      · by_cases ht : x1 ≤ c
        · have ht' : decide (x1 ≤ c) = true := by simpa using ht
          have HT := Lib.hid ht
          clear ht
          go_wp2_with fail
          (refine wp_region_ext (W := wr) (by kernel_rfl) (by kernel_rfl) (by with_reducible assumption) ?_; (repeat (go_big_quiet_step (first | (go_at_call 20; with_reducible exact Calls.ext_of (refwithin_is x1 x2 a s _ hb _))))); refine wpQuiet_nil ?_; intro w1 hx)
          go_wp2_with fail
          (refine wp_region_ext (W := wr) (by kernel_rfl) (by kernel_rfl) (by with_reducible assumption) ?_; (repeat (go_big_quiet_step (fail))); refine wpQuiet_nil ?_; intro w1 hx)
          go_wp2_with fail
          go_ret
          exact ⟨ret_bool (by rw [ledR_no (HN2.out HT.out)]), hW.trans (hxr.trans (by assumption))⟩
        · have ht' : decide (x1 ≤ c) = false := by simpa using ht
          have HT := Lib.hid ht
          clear ht
          go_wp2_with fail
          (refine wp_region_ext (W := wr) (by kernel_rfl) (by kernel_rfl) (by with_reducible assumption) ?_; (repeat (go_big_quiet_step (first | (go_at_call 20; with_reducible exact Calls.ext_of (refwithin_is x1 x2 a s _ hb _))))); refine wpQuiet_nil ?_; intro w1 hx)
          go_wp2_with fail
          (refine wp_region_ext (W := wr) (by kernel_rfl) (by kernel_rfl) (by with_reducible assumption) ?_; (repeat (go_big_quiet_step (fail))); refine wpQuiet_nil ?_; intro w1 hx)
          go_wp2_with fail
          go_roundw
          case rel => exact ⟨m + 1 + 1, by omega, by go_num, hxr.trans (by assumption), Lib.hid (HP2.out hb (by have := HT.out; omega))⟩
          case measure => simp [intOf]; omega
end Go.Proofs.Ytllcekmbcmhckaa

/- awake of the laws of the ledger; the law LedgerTells. -/
set_option linter.unusedSimpArgs false
set_option linter.unusedVariables false
namespace Go.Proofs.Ytllcekmbcmhckaa
open Go.RowKit Go.Shelf

theorem add_c (A : Option Addr) (cap : Nat) (xs ys : List (Int × Int)) (a s er : Int) (k m : Nat) (V : World) (hn : xs.length = k) (hr : ∀ ys' er', AddRes a s xs ys' er' → ys' = ys ∧ er' = er) (hm : ys.length = m) (hlen : k ≤ 400000) (hl : SpansAt V A xs) :
    Calls Try.prog 48 #[.slice A k cap, .agg #[.int .i64 (a), .int .i64 (s)]] V fun e w' => ∃ A2 cap2, e = .returned (.tuple #[.slice A2 m cap2, .int .i64 er]) ∧ SpansAt w' A2 ys ∧ Ext V w' := by
  subst hn hm
  refine (add_any A cap xs a s V hlen hl).mono ?_
  rintro e w' ⟨ys', er', m, A2, cap2, h, rfl, rfl, h1, h2⟩
  obtain ⟨rfl, rfl⟩ := hr _ _ h
  exact ⟨A2, cap2, rfl, h1, h2⟩
theorem drop_c (A : Option Addr) (cap : Nat) (xs ys : List (Int × Int)) (q a s er : Int) (k m : Nat) (V : World) (hn : xs.length = k) (hr : ∀ ys' x' er', DropRes q xs ys' x' er' → ys' = ys ∧ x' = (a, s) ∧ er' = er) (hm : ys.length = m) (hlen : k ≤ 400000) (hl : SpansAt V A xs) :
    Calls Try.prog 50 #[.slice A k cap, .int .i64 q] V fun e w' => ∃ A2 cap2, e = .returned (.tuple #[.slice A2 m cap2, .agg #[.int .i64 (a), .int .i64 (s)], .int .i64 er]) ∧ SpansAt w' A2 ys ∧ Ext V w' := by
  subst hn hm
  refine (drop_any A cap xs q V hlen hl).mono ?_
  rintro e w' ⟨ys', a', s', er', m, A2, cap2, h, rfl, rfl, h1, h2⟩
  obtain ⟨rfl, h3, rfl⟩ := hr _ _ _ h
  injection h3 with h3 h4
  subst h3 h4
  exact ⟨A2, cap2, rfl, h1, h2⟩
theorem ledright_c (a s : Int) (A A2 : Option Addr) (cap cap2 : Nat) (xs fs : List (Int × Int)) (k m : Nat) (b : Bool) (w : World) (hk : xs.length = k) (hm : fs.length = m) (hb : ledR a s xs fs = b) (hlen : k ≤ 400000) (hlen2 : m ≤ 9223372036854775807) (hl : SpansAt w A xs) (hl2 : SpansAt w A2 fs) :
    Calls Try.prog 56 #[.agg #[.int .i64 (a), .int .i64 (s)], .slice A k cap, .slice A2 m cap2] w fun e w' => e = .returned (.bool b) ∧ Ext w w' := by
  subst hk hm hb
  exact ledright_any a s A A2 cap cap2 xs fs w hlen hlen2 hl hl2

def aw11 : List (Int × Int) := [(0, 3), (4, 2)]
theorem aw11_add : ∀ ys' er', AddRes 0 3 [(4, 2)] ys' er' → ys' = aw11 ∧ er' = 0 := by
  rintro ys' er' (⟨h, _⟩ | ⟨_, h, _⟩ | ⟨_, _, rfl, rfl⟩)
  · exact absurd h (by decide)
  · exact absurd h (by decide)
  · exact ⟨by decide, rfl⟩
theorem aw11_twice : ∀ ys' er', AddRes 5 1 aw11 ys' er' → ys' = aw11 ∧ er' = 16 := by
  rintro ys' er' (⟨h, _⟩ | ⟨_, h, rfl, rfl⟩ | ⟨_, h, _, rfl⟩)
  · exact absurd h (by decide)
  · exact ⟨rfl, rfl⟩
  · exact absurd h (by decide)
theorem aw11_drop : ∀ ys' x' er', DropRes 4 aw11 ys' x' er' → ys' = [(0, 3)] ∧ x' = (4, 2) ∧ er' = 0 := by
  rintro ys' x' er' (⟨h, _⟩ | ⟨k, hk, hi, rfl, rfl, rfl⟩)
  · exact absurd h (by decide)
  · have hi' : idxZ (findP 4) aw11 = 1 := by decide
    obtain rfl : k = 1 := by rw [hi'] at hi; omega
    decide
theorem aw11_none : ∀ ys' x' er', DropRes 5 aw11 ys' x' er' → ys' = aw11 ∧ x' = (0, 0) ∧ er' = 2 := by
  rintro ys' x' er' (⟨h, rfl, rfl, rfl⟩ | ⟨k, hk, hi, rfl, rfl, rfl⟩)
  · exact ⟨rfl, rfl, rfl⟩
  · have hi' : idxZ (findP 5) aw11 = -1 := by decide
    rw [hi'] at hi; omega
theorem aw11_gaps : GapsOf 0 6 aw11 [(3, 1)] := by
  refine ⟨by decide, by decide, fun p => ?_⟩
  simp [LeftB, aw11, coveredB, hasB, mayB]
  omega
theorem aw11_led : ledB 0 6 aw11 = true := by decide
theorem aw11_right : ledR 0 6 aw11 [(3, 1)] = true := by rw [ledR_of aw11_led aw11_gaps]; decide
theorem aw11_right0 : ledR 0 6 aw11 [] = false := by rw [ledR_of aw11_led aw11_gaps]; decide

set_option maxRecDepth 100000 in
set_option maxHeartbeats 4000000 in
theorem awake11_any (w : World) : Calls Try.prog 47 #[] w fun e w' => e = .returned (.bool true) ∧ Ext w w' := by
  go_enter Try.func47, Try.ntmps47
  go_wp2_with fail
  have hL : SpansAt (w.alloc (.cells #[.int .i64 4, .int .i64 2] 23)) (some ⟨w.heap.size, 0, none⟩) [(4, 2)] := row_lit w _ rfl spanCells (by decide)
  have hW : Ext w (w.alloc (.cells #[.int .i64 4, .int .i64 2] 23)) := (Ext.refl w).alloc _
  generalize w.alloc (.cells #[.int .i64 4, .int .i64 2] 23) = W at *
  refine (add_c _ 1 [(4, 2)] aw11 0 3 0 1 2 W rfl aw11_add rfl (by omega) hL).mono ?_
  rintro e W1 ⟨A1, cap1, rfl, hj, hx1⟩
  obtain ⟨b1, o1, rfl, hc⟩ := hj.at (by decide)
  have d1 := fun w' h => (hc 0 (by decide) w' h).2
  simp only [aw11, List.getD_cons_zero, List.getD_cons_succ, Nat.zero_mul, Nat.add_zero, Nat.reduceMul] at d1
  have HJ := Lib.hid hj
  have HW1 := Lib.hid (hW.trans hx1)
  clear hj hc hL hW hx1
  go_wp2_with fail
  refine (add_c _ cap1 aw11 aw11 5 1 16 2 2 W1 rfl aw11_twice rfl (by omega) HJ.out).mono ?_
  rintro e W2 ⟨A2, cap2, rfl, _, hx2⟩
  go_wp2_with fail
  refine (drop_c _ cap1 aw11 [(0, 3)] 4 4 2 0 2 1 W2 rfl aw11_drop rfl (by omega) (HJ.out.ext hx2)).mono ?_
  rintro e W3 ⟨A3, cap3, rfl, _, hx3⟩
  replace hx3 := hx2.trans hx3
  clear hx2
  go_wp2_with fail
  have q1 := boxed W3 #[.int .i64 4, .int .i64 2] 23 1 (.int .i64 2) rfl
  have hx4 := hx3.alloc (.cells #[.int .i64 4, .int .i64 2] 23)
  generalize W3.alloc (.cells #[.int .i64 4, .int .i64 2] 23) = W4 at *
  generalize W3.heap.size = H3 at *
  refine (drop_c _ cap1 aw11 aw11 5 0 0 2 2 2 W4 rfl aw11_none rfl (by omega) (HJ.out.ext hx4)).mono ?_
  rintro e W5 ⟨A5, cap5, rfl, _, hx5⟩
  replace q1 := fun w' (h : Ext W5 w') => q1 w' (hx5.trans h)
  replace hx5 := hx4.trans hx5
  clear hx4 hx3
  have hx6 := hx5.alloc (.cells #[.int .i64 0, .int .i64 0] 23)
  have e1 := d1 _ hx6
  have e2 := q1 _ ((Ext.refl W5).alloc (.cells #[.int .i64 0, .int .i64 0] 23))
  clear d1 q1 hx5
  go_wp2_with fail
  generalize W5.alloc (.cells #[.int .i64 0, .int .i64 0] 23) = W6 at *
  clear e1 e2
  refine (of_c _ cap1 aw11 5 1 2 W6 rfl (by decide) (by omega) (HJ.out.ext hx6)).mono ?_
  rintro e W7 ⟨rfl, hx7⟩
  replace hx7 := hx6.trans hx7
  clear hx6
  go_wp2_with fail
  refine (find_c _ cap1 aw11 5 (-1) 2 W7 rfl (by decide) (by omega) (HJ.out.ext hx7)).mono ?_
  rintro e W8 ⟨rfl, hx8⟩
  replace hx8 := hx7.trans hx8
  clear hx7
  go_wp2_with fail
  have hF : SpansAt (W8.alloc (.cells #[.int .i64 3, .int .i64 1] 23)) (some ⟨W8.heap.size, 0, none⟩) [(3, 1)] := row_lit W8 _ rfl spanCells (by decide)
  replace hx8 := hx8.alloc (.cells #[.int .i64 3, .int .i64 1] 23)
  generalize W8.alloc (.cells #[.int .i64 3, .int .i64 1] 23) = W9 at *
  refine (ledright_c 0 6 _ _ cap1 1 aw11 [(3, 1)] 2 1 true W9 rfl rfl aw11_right (by omega) (by omega) (HJ.out.ext hx8) hF).mono ?_
  rintro e W10 ⟨rfl, hx10⟩
  replace hx10 := hx8.trans hx10
  clear hx8 hF
  go_wp2_with fail
  refine (ledright_c 0 6 _ none cap1 0 aw11 [] 2 0 false W10 rfl rfl aw11_right0 (by omega) (by omega) (HJ.out.ext hx10) (RowAt.none _ _ _)).mono ?_
  rintro e W11 ⟨rfl, hx11⟩
  replace hx11 := hx10.trans hx11
  clear hx10
  go_wp2_with fail
  go_ret
  exact ⟨rfl, HW1.out.trans hx11⟩

theorem refledright_c (a s : Int) (A A2 : Option Addr) (cap cap2 : Nat) (xs fs : List (Int × Int)) (k m : Nat) (b : Bool) (w : World) (hk : xs.length = k) (hm : fs.length = m) (hb : ledR a s xs fs = b) (hA : A = none → cap = 0) (hlen : k ≤ 100000) (hlen2 : m ≤ 400000) (hl : SpansAt w A xs) (hl2 : SpansAt w A2 fs) :
    Calls Try.prog 57 #[.agg #[.int .i64 (a), .int .i64 (s)], .slice A k cap, .slice A2 m cap2] w fun e w' => e = .returned (.bool b) ∧ Ext w w' := by
  subst hk hm hb
  exact refledright_any a s A A2 cap cap2 xs fs w hA hlen hlen2 hl hl2

set_option maxRecDepth 100000 in
set_option maxHeartbeats 4000000 in
theorem ledgerTells_any (a s : Int) (A A2 : Option Addr) (cap cap2 : Nat) (xs fs : List (Int × Int)) (w : World) (hA : A = none → cap = 0) (hlen : xs.length ≤ 9223372036854775807) (hlen2 : fs.length ≤ 9223372036854775807) (hl : SpansAt w A xs) (hl2 : SpansAt w A2 fs) :
    Calls Try.prog 11 #[.agg #[.int .i64 (a), .int .i64 (s)], .slice A xs.length cap, .slice A2 fs.length cap2] w fun e w' => e = .returned (.bool true) ∧ Ext w w' := by
  have hW : Ext w (w.alloc (.cells #[.int .i64 a, .int .i64 s] 23)) := (Ext.refl w).alloc _
  have HL := Lib.hid (hl.ext hW)
  have HF := Lib.hid (hl2.ext hW)
  have HA := Lib.hid hA
  have b0 := boxed w #[.int .i64 a, .int .i64 s] 23 0 (.int .i64 a) rfl
  have b1 := boxed w #[.int .i64 a, .int .i64 s] 23 1 (.int .i64 s) rfl
  clear hl hl2 hA
  by_cases hbig : 100 < xs.length ∨ 100 < fs.length
  · have h0 : (decide ((100 : Int) < (xs.length : Int)) = true) ∨ (decide ((100 : Int) < (xs.length : Int)) = false ∧ decide ((100 : Int) < (fs.length : Int)) = true) := by
      simp; omega
    rcases h0 with h1 | ⟨h1, h2⟩
    all_goals
      go_enter Try.func11, Try.ntmps11
      go_wp2_with fail
      refine (awake11_any _).mono ?_
      rintro e w1 ⟨rfl, hx⟩
      go_wp2_with fail
      go_ret
      exact ⟨rfl, hW.trans hx⟩
  · have h1 : decide ((100 : Int) < (xs.length : Int)) = false := by simp; omega
    have h2 : decide ((100 : Int) < (fs.length : Int)) = false := by simp; omega
    have hlen' : xs.length ≤ 100000 := by omega
    have hlen2' : fs.length ≤ 400000 := by omega
    obtain ⟨r, hr⟩ : ∃ r, ledR a s xs fs = r := ⟨_, rfl⟩
    obtain ⟨k, hk⟩ : ∃ k, xs.length = k := ⟨_, rfl⟩
    obtain ⟨m, hm⟩ : ∃ m, fs.length = m := ⟨_, rfl⟩
    have HR := Lib.hid hr
    have HK := Lib.hid hk
    have HM := Lib.hid hm
    clear hr
    rw [hk] at hlen' h1 ⊢
    rw [hm] at hlen2' h2 ⊢
    clear hk hm hlen hlen2 hbig
    go_enter Try.func11, Try.ntmps11
    go_wp2_with fail
    generalize w.alloc (.cells #[.int .i64 a, .int .i64 s] 23) = W at *
    have hs0 : Ext W W := Ext.refl W
    have l0 := fun u : ExtOf W => b0 u.1 u.2
    have l1 := fun u : ExtOf W => b1 u.1 u.2
    have HL2 : Hid (∀ u : ExtOf W, SpansAt u.1 A xs) := Lib.hid fun u => HL.out.ext u.2
    have HF2 : Hid (∀ u : ExtOf W, SpansAt u.1 A2 fs) := Lib.hid fun u => HF.out.ext u.2
    cases r
    all_goals
      (refine wp_region_ext (W := W) (by kernel_rfl) (by kernel_rfl) (by with_reducible assumption) ?_; (repeat (go_big_quiet_step (first | (go_at_call 56; with_reducible exact Calls.ext_of (ledright_c a s A A2 cap cap2 xs fs k m _ _ HK.out HM.out HR.out (by omega) (by omega) (HL2.out _) (HF2.out _))) | (go_at_call 57; with_reducible exact Calls.ext_of (refledright_c a s A A2 cap cap2 xs fs k m _ _ HK.out HM.out HR.out HA.out hlen' hlen2' (HL2.out _) (HF2.out _))) | (go_at_call 47; with_reducible exact Calls.ext_of (awake11_any _))))); refine wpQuiet_nil ?_; intro w1 hx)
      go_wp2_with fail
      go_ret
      exact ⟨rfl, hW.trans hx⟩
theorem ledgerTells_fin {v0 v1 v2 : Value} {w : World} (h0 : IsSpan v0) (h1 : IsSpans w v1) (hz : IsSpans w v2) :
    Calls Try.prog 11 #[v0, v1, v2] w fun e w' => e = .returned (.bool true) ∧ Ext w w' := by
  obtain ⟨a, s, rfl, _, _⟩ := h0
  obtain ⟨A, cap, xs, rfl, h1, h2, h3, h4⟩ := h1
  obtain ⟨A2, cap2, fs, rfl, k1, k2, k3, k4⟩ := hz
  exact ledgerTells_any a s A A2 cap cap2 xs fs w h2 h1 k1 h4 k4
end Go.Proofs.Ytllcekmbcmhckaa

/- The law LedgerMoves. -/
set_option linter.unusedSimpArgs false
set_option linter.unusedVariables false
namespace Go.Proofs.Ytllcekmbcmhckaa
open Go.RowKit Go.Shelf

theorem add_uniq {a s : Int} {xs y1 y2 : List (Int × Int)} {e1 e2 : Int} (h1 : AddRes a s xs y1 e1) (h2 : AddRes a s xs y2 e2) : y1 = y2 ∧ e1 = e2 := by
  rcases h1 with ⟨p1, rfl, rfl⟩ | ⟨p1, q1, rfl, rfl⟩ | ⟨p1, q1, rfl, rfl⟩ <;> rcases h2 with ⟨p2, rfl, rfl⟩ | ⟨p2, q2, rfl, rfl⟩ | ⟨p2, q2, rfl, rfl⟩ <;> simp_all
theorem drop_uniq {q : Int} {xs y1 y2 : List (Int × Int)} {x1 x2 : Int × Int} {e1 e2 : Int} (h1 : DropRes q xs y1 x1 e1) (h2 : DropRes q xs y2 x2 e2) : y1 = y2 ∧ x1 = x2 ∧ e1 = e2 := by
  rcases h1 with ⟨p1, rfl, rfl, rfl⟩ | ⟨k1, hk1, p1, rfl, rfl, rfl⟩ <;> rcases h2 with ⟨p2, rfl, rfl, rfl⟩ | ⟨k2, hk2, p2, rfl, rfl, rfl⟩
  · simp
  · omega
  · omega
  · obtain rfl : k1 = k2 := by omega
    simp
theorem add_len {a s : Int} {xs y : List (Int × Int)} {e : Int} (h : AddRes a s xs y e) : y.length ≤ xs.length + 1 := by
  rcases h with ⟨_, rfl, _⟩ | ⟨_, _, rfl, _⟩ | ⟨_, _, rfl, _⟩
  · omega
  · omega
  · rw [addL_length]; omega
theorem drop_len {q : Int} {xs y : List (Int × Int)} {x : Int × Int} {e : Int} (h : DropRes q xs y x e) : y.length ≤ xs.length := by
  rcases h with ⟨_, rfl, _⟩ | ⟨k, _, _, rfl, _⟩
  · omega
  · rw [List.length_eraseIdx]; split <;> omega
theorem refsame_c (A A2 : Option Addr) (cap cap2 n m : Nat) (xs ys : List (Int × Int)) (W : World) (hn : xs.length = n) (hm : ys.length = m) (hb : xs = ys) (hlen : n ≤ 1000000) (hl : SpansAt W A xs) (hl2 : SpansAt W A2 ys) :
    Calls Try.prog 22 #[.slice A n cap, .slice A2 m cap2] W fun e w' => e = .returned (.bool true) ∧ Ext W w' := by
  subst hb hn hm
  refine (refsame_any A A2 cap cap2 xs xs W (by omega) (by omega) hl hl2).mono ?_
  rintro e w' ⟨rfl, hx⟩
  exact ⟨by simp, hx⟩

set_option maxRecDepth 100000 in
set_option maxHeartbeats 4000000 in
theorem ledgerMoves_any (A : Option Addr) (cap : Nat) (xs : List (Int × Int)) (a s q : Int) (w : World) (hA : A = none → cap = 0) (hcap : xs.length ≤ cap) (hlen : xs.length ≤ 9223372036854775807) (hl : SpansAt w A xs) :
    Calls Try.prog 10 #[.slice A xs.length cap, .agg #[.int .i64 (a), .int .i64 (s)], .int .i64 q] w fun e w' => e = .returned (.bool true) ∧ Ext w w' := by
  have hW : Ext w (w.alloc (.cells #[.int .i64 a, .int .i64 s] 23)) := (Ext.refl w).alloc _
  have HL := Lib.hid (hl.ext hW)
  have HA := Lib.hid hA
  have HC := Lib.hid hcap
  have b0 := boxed w #[.int .i64 a, .int .i64 s] 23 0 (.int .i64 a) rfl
  have b1 := boxed w #[.int .i64 a, .int .i64 s] 23 1 (.int .i64 s) rfl
  clear hl hA hcap
  by_cases hbig : 100 < xs.length
  · have h1 : decide ((100 : Int) < (xs.length : Int)) = true := by simp; omega
    go_enter Try.func10, Try.ntmps10
    go_wp2_with fail
    refine (awake11_any _).mono ?_
    rintro e w1 ⟨rfl, hx⟩
    go_wp2_with fail
    go_ret
    exact ⟨rfl, hW.trans hx⟩
  · have h1 : decide ((100 : Int) < (xs.length : Int)) = false := by simp; omega
    have hlen' : xs.length ≤ 100 := by omega
    clear hbig hlen
    obtain ⟨n, hn⟩ : ∃ n, xs.length = n := ⟨_, rfl⟩
    have HN := Lib.hid hn
    rw [hn] at hlen' h1 HC ⊢
    clear hn
    have he0 := Own.empty 23 2 spanC (w.alloc (.cells #[.int .i64 a, .int .i64 s] 23)) (w.alloc (.cells #[.int .i64 a, .int .i64 s] 23)).heap.size (Nat.le_refl _)
    have hsz : (w.alloc (.cells #[.int .i64 a, .int .i64 s] 23)).heap.size = w.heap.size + 1 := by simp
    have hb0 : Below (w.alloc (.cells #[.int .i64 a, .int .i64 s] 23)).heap.size (w.alloc (.cells #[.int .i64 a, .int .i64 s] 23)) ((w.alloc (.cells #[.int .i64 a, .int .i64 s] 23)).alloc (.cells #[] 23)) := (Ext.refl _).alloc _
    rw [hsz] at he0 hb0
    have HB := Lib.hid hb0
    have HE := Lib.hid he0
    have HSZ := Lib.hid hsz
    clear he0 hsz hb0
    go_enter Try.func10, Try.ntmps10
    go_wp2_with (at_builtin; refine wpList_app_src rfl (.tmp 23) (.tmp 24) 29 rfl spanInfo spanCells rfl (by exact HE.out) xs A cap HA.out n n (by rw [HN.out]; simp) HN.out rfl (by exact RowAt.ext HL.out ((Ext.refl _).alloc _)) (by omega) (by simp [maxLen]; omega) (by simp) ?_; intro A3 cap3 W hown3 hgr3 hat3; have HO : Hid (SpansAt W A3 xs) := Lib.hid (by have h := hown3.spans; rwa [List.nil_append] at h); have HX : Hid (Ext (w.alloc (.cells #[.int .i64 a, .int .i64 s] 23)) W) := Lib.hid (by have h := Own.below HE.out HB.out hgr3 (by simp); rw [← HSZ.out] at h; exact h); have c0 := b0 W HX.out; have c1 := b1 W HX.out; clear hown3 hgr3 hat3 b0 b1; refine Hid.out ?_)
    refine Lib.hid ?_
    replace HL := Lib.hid (HL.out.ext HX.out)
    have HW := Lib.hid (hW.trans HX.out)
    clear hW HX
    have C0 := Lib.hid c0
    have C1 := Lib.hid c1
    go_wp2_with fail
    have hadd := add_any A3 cap3 xs a s W (by rw [HN.out]; omega) HO.out
    rw [HN.out] at hadd
    refine hadd.mono ?_
    rintro e W1 ⟨y1, e1, m1, B1, k1, hr1, hm1, rfl, hs1, hx1⟩
    clear hadd
    have HR1 := Lib.hid hr1
    have HM1 := Lib.hid hm1
    have HS1 := Lib.hid hs1
    have hx01 := hx1
    clear c0 c1 hr1 hm1 hs1 hx1
    have c0 := hx01.cell C0.out
    have c1 := hx01.cell C1.out
    go_wp2_with fail
    have hadd := refadd_any A cap xs a s W1 HA.out (by rw [HN.out]; exact HC.out) (by rw [HN.out]; omega) (HL.out.ext hx01)
    rw [HN.out] at hadd
    refine hadd.mono ?_
    rintro e W2 ⟨y2, e2, m2, B2, k2, hr2, hm2, rfl, hs2, hx2⟩
    clear hadd
    obtain ⟨hy, he⟩ := add_uniq HR1.out hr2
    have HY := Lib.hid hy
    subst he
    have HM2 := Lib.hid hm2
    have HS2 := Lib.hid hs2
    have hx02 := hx01.trans hx2
    replace HS1 := Lib.hid (HS1.out.ext hx2)
    clear c0 c1 hr2 hm2 hs2 hx2 hx01 hy
    go_wp2_with fail
    have hdrop := drop_any A3 cap3 xs q W2 (by rw [HN.out]; omega) (HO.out.ext hx02)
    rw [HN.out] at hdrop
    refine hdrop.mono ?_
    rintro e W3 ⟨y3, a3, s3, e3, m3, B3, k3, hr3, hm3, rfl, hs3, hx3⟩
    clear hdrop
    have HR3 := Lib.hid hr3
    have HM3 := Lib.hid hm3
    have HS3 := Lib.hid hs3
    have hx03 := hx02.trans hx3
    replace HS1 := Lib.hid (HS1.out.ext hx3)
    replace HS2 := Lib.hid (HS2.out.ext hx3)
    clear hr3 hm3 hs3 hx3 hx02
    have p0 := boxed W3 #[.int .i64 a3, .int .i64 s3] 23 0 (.int .i64 a3) rfl
    have p1 := boxed W3 #[.int .i64 a3, .int .i64 s3] 23 1 (.int .i64 s3) rfl
    have hz3 : Ext W3 (W3.alloc (.cells #[.int .i64 a3, .int .i64 s3] 23)) := (Ext.refl _).alloc _
    go_wp2_with fail
    generalize W3.alloc (.cells #[.int .i64 a3, .int .i64 s3] 23) = W4 at *
    generalize W3.heap.size = H3 at *
    have hdrop := refdrop_any A cap xs q W4 HA.out (by rw [HN.out]; exact HC.out) (by rw [HN.out]; omega) (HL.out.ext (hx03.trans hz3))
    rw [HN.out] at hdrop
    refine hdrop.mono ?_
    rintro e W5 ⟨y5, a5, s5, e5, m5, B5, k5, hr5, hm5, rfl, hs5, hx5⟩
    clear hdrop
    obtain ⟨hy3, hxx, he3⟩ := drop_uniq HR3.out hr5
    have HY3 := Lib.hid hy3
    injection hxx with ha3 hs3
    subst he3 ha3 hs3
    have HM5 := Lib.hid hm5
    have HZ := hz3.trans hx5
    have HS5 := Lib.hid hs5
    replace HS3 := Lib.hid (HS3.out.ext HZ)
    replace HS1 := Lib.hid (HS1.out.ext HZ)
    replace HS2 := Lib.hid (HS2.out.ext HZ)
    have hx05 := hx03.trans HZ
    have P0 := Lib.hid (p0 W5 hx5)
    have P1 := Lib.hid (p1 W5 hx5)
    clear hr5 hm5 hs5 hx5 hz3 p0 p1 HZ hx03 hy3
    have p0 := P0.out
    have p1 := P1.out
    have q0 := boxed W5 #[.int .i64 a3, .int .i64 s3] 23 0 (.int .i64 a3) rfl
    have q1 := boxed W5 #[.int .i64 a3, .int .i64 s3] 23 1 (.int .i64 s3) rfl
    have hz5 : Ext W5 (W5.alloc (.cells #[.int .i64 a3, .int .i64 s3] 23)) := (Ext.refl _).alloc _
    go_wp2_with fail
    generalize W5.alloc (.cells #[.int .i64 a3, .int .i64 s3] 23) = W6 at *
    generalize W5.heap.size = H5 at *
    have hl1 := add_len HR1.out
    have hl3 := drop_len HR3.out
    have HN' := HN.out
    refine (refsame_c B1 B2 k1 k2 m1 m2 y1 y2 W6 HM1.out.symm HM2.out.symm HY.out (by have := HM1.out; omega) (HS1.out.ext hz5) (HS2.out.ext hz5)).mono ?_
    rintro e W7 ⟨rfl, hx7⟩
    have P0' := Lib.hid (hz5.cell p0)
    have P1' := Lib.hid (hz5.cell p1)
    clear p0 p1
    have p0 := hx7.cell P0'.out
    have p1 := hx7.cell P1'.out
    have Q0 := Lib.hid (q0 W7 hx7)
    have Q1 := Lib.hid (q1 W7 hx7)
    have hz7 := hz5.trans hx7
    clear hx7 hz5 q0 q1 HN' hl1
    clear p0 p1
    go_wp2_with fail
    refine (refsame_c B3 B5 k3 k5 m3 m5 y3 y5 W7 HM3.out.symm HM5.out.symm HY3.out (by have := HM3.out; have := HN.out; omega) (HS3.out.ext hz7) (HS5.out.ext hz7)).mono ?_
    rintro e W8 ⟨rfl, hx8⟩
    have r0 := hx8.cell (hz7.cell P0.out)
    have r1 := hx8.cell (hz7.cell P1.out)
    have r2 := hx8.cell Q0.out
    have r3 := hx8.cell Q1.out
    have hz8 := (hx05.trans hz7).trans hx8
    clear hx8 hz7 hx05 hl3
    go_wp2_with fail
    clear r0 r1 r2 r3
    refine (find_c A cap xs q _ n W8 HN.out rfl (by omega) (HL.out.ext hz8)).mono ?_
    rintro e W9 ⟨rfl, hx9⟩
    replace hz8 := hz8.trans hx9
    clear hx9
    go_wp2_with fail
    refine (reffind_c A cap xs q _ n W9 HN.out rfl (by omega) (HL.out.ext hz8)).mono ?_
    rintro e W10 ⟨rfl, hx9⟩
    replace hz8 := hz8.trans hx9
    clear hx9
    go_wp2_with fail
    refine (of_c A cap xs q _ n W10 HN.out rfl (by omega) (HL.out.ext hz8)).mono ?_
    rintro e W11 ⟨rfl, hx9⟩
    replace hz8 := hz8.trans hx9
    clear hx9
    go_wp2_with fail
    refine (refof_c A cap xs q _ n W11 HN.out rfl (by omega) (HL.out.ext hz8)).mono ?_
    rintro e W12 ⟨rfl, hx9⟩
    replace hz8 := hz8.trans hx9
    clear hx9
    go_wp2_with fail
    refine (refsame_c A3 A cap3 cap n n xs xs W12 HN.out HN.out rfl (by omega) (HO.out.ext hz8) (HL.out.ext hz8)).mono ?_
    rintro e W13 ⟨rfl, hx9⟩
    replace hz8 := hz8.trans hx9
    clear hx9
    go_wp2_with fail
    refine (awake11_any W13).mono ?_
    rintro e W14 ⟨rfl, hx9⟩
    replace hz8 := hz8.trans hx9
    go_wp2_with fail
    go_ret
    exact ⟨rfl, HW.out.trans hz8⟩

abbrev IsSpansC (w : World) (v : Value) : Prop := ∃ (A : Option Addr) (cap : Nat) (xs : List (Int × Int)), v = .slice A xs.length cap ∧ xs.length ≤ 9223372036854775807 ∧ (A = none → cap = 0) ∧ xs.length ≤ cap ∧ (∀ x ∈ xs, (-9223372036854775808 ≤ x.1 ∧ x.1 ≤ 9223372036854775807) ∧ (-9223372036854775808 ≤ x.2 ∧ x.2 ≤ 9223372036854775807)) ∧ SpansAt w A xs
theorem ledgerMoves_fin {v0 v1 : Value} {q : Int} {w : World} (h0 : IsSpansC w v0) (h1 : IsSpan v1) (hq : (Lit.int .i64 q).wf = true) :
    Calls Try.prog 10 #[v0, v1, .int .i64 q] w fun e w' => e = .returned (.bool true) ∧ Ext w w' := by
  obtain ⟨a, s, rfl, _, _⟩ := h1
  obtain ⟨A, cap, xs, rfl, h1, h2, h3, h4, h5⟩ := h0
  exact ledgerMoves_any A cap xs a s q w h2 h3 h1 h5
end Go.Proofs.Ytllcekmbcmhckaa

/- Plain laws: a table and free words that may be stay so. -/
set_option linter.unusedSimpArgs false
set_option linter.unusedVariables false
namespace Go.Proofs.Ytllcekmbcmhckaa
open Go.RowKit Go.Shelf

theorem chain_iff {xs : List (Int × Int)} : chainB xs = true ↔ (∀ x ∈ xs, mayB x.1 x.2 = true) ∧ xs.Pairwise fun x y => x.1 + x.2 ≤ y.1 := by
  constructor
  · intro h
    have h2 := of_decide_eq_true h
    have hm : ∀ x ∈ xs, mayB x.1 x.2 = true := by
      intro x hx
      obtain ⟨i, hi, rfl⟩ := List.getElem_of_mem hx
      simpa [List.getElem?_eq_getElem hi] using (h2 i hi).1
    refine ⟨hm, ?_⟩
    have key : ∀ d i, i + d + 1 < xs.length → (xs.getD i (0, 0)).1 + (xs.getD i (0, 0)).2 ≤ (xs.getD (i + d + 1) (0, 0)).1 := by
      intro d
      induction d with
      | zero => intro i hi; exact (h2 (i + 0 + 1) hi).2 i (by omega) rfl
      | succ d ih =>
        intro i hi
        have h3 := ih i (by omega)
        have h4 := (h2 (i + d + 1 + 1) (by omega)).2 (i + d + 1) (by omega) rfl
        have h5 := may_bd (h2 (i + d + 1) (by omega)).1
        rw [show i + (d + 1) + 1 = i + d + 1 + 1 from by omega]
        omega
    rw [List.pairwise_iff_getElem]
    intro i j hi hj hij
    have := key (j - i - 1) i (by omega)
    rw [show i + (j - i - 1) + 1 = j from by omega] at this
    simpa [List.getElem?_eq_getElem hi, List.getElem?_eq_getElem hj] using this
  · rintro ⟨h1, h2⟩
    rw [List.pairwise_iff_getElem] at h2
    refine chain_yes fun i hi => ⟨?_, fun j hj he => ?_⟩
    · have := h1 xs[i] (List.getElem_mem hi)
      simpa [List.getElem?_eq_getElem hi] using this
    · have := h2 j i (by omega) hi hj
      simpa [List.getElem?_eq_getElem hi, List.getElem?_eq_getElem (show j < xs.length by omega)] using this
theorem led_iff {a s : Int} {xs : List (Int × Int)} : ledB a s xs = true ↔ (∀ x ∈ xs, withinB x.1 x.2 a s = true) ∧ xs.Pairwise fun x y => x.1 + x.2 ≤ y.1 := by
  rw [ledB, Bool.and_eq_true, List.all_eq_true, chain_iff]
  exact ⟨fun ⟨h1, _, h2⟩ => ⟨h1, h2⟩, fun ⟨h1, h2⟩ => ⟨h1, fun x hx => within_may (h1 x hx), h2⟩⟩
theorem ledR_iff {a s : Int} {xs fs : List (Int × Int)} : ledR a s xs fs = true ↔ ledB a s xs = true ∧ GapsOf a s xs fs := by
  unfold ledR
  rw [Bool.and_eq_true]
  simp only [decide_eq_true_eq]

theorem has_iff {a s p : Int} : hasB a s p = true ↔ mayB a s = true ∧ a ≤ p ∧ p < a + s := by simp [hasB]
theorem gap_within {a s : Int} {xs fs : List (Int × Int)} (h : GapsOf a s xs fs) {z : Int × Int} (hz : z ∈ fs) : withinB z.1 z.2 a s = true := by
  have hm := gap_may h hz
  obtain ⟨m1, m2, m3, m4⟩ := may_bd hm
  have h1 := ((h.mem z.1).1 ⟨z, hz, by unfold InS; omega⟩).1
  have h2 := ((h.mem (z.1 + z.2 - 1)).1 ⟨z, hz, by unfold InS; omega⟩).1
  rw [has_iff] at h1 h2
  exact within_iff.2 ⟨hm, h1.1, by omega, by omega⟩
theorem gap_right {a s : Int} {xs fs : List (Int × Int)} (h : GapsOf a s xs fs) : rightB a s fs = true :=
  right_iff.2 ⟨fun z hz => gap_within h hz, h.apart⟩
theorem gap_covered {a s : Int} {xs fs : List (Int × Int)} (h : GapsOf a s xs fs) (q : Int) : coveredB fs q = true ↔ hasB a s q = true ∧ coveredB xs q = false := by
  rw [covered_iff]
  refine ⟨fun ⟨x, hx, _, hq⟩ => (h.mem q).1 ⟨x, hx, hq⟩, fun hl => ?_⟩
  obtain ⟨x, hx, hq⟩ := (h.mem q).2 hl
  exact ⟨x, hx, gap_may h hx, hq⟩
/-- Canonical spans within, by what they cover. -/
theorem gaps_of_right {a s : Int} {xs fs : List (Int × Int)} (h : rightB a s fs = true) (hc : ∀ q, coveredB fs q = true ↔ hasB a s q = true ∧ coveredB xs q = false) : GapsOf a s xs fs := by
  obtain ⟨h1, h2⟩ := right_iff.1 h
  refine ⟨fun x hx => (may_bd (within_may (h1 x hx))).2.2.1, h2, fun q => ?_⟩
  rw [LeftB, ← hc q, covered_iff]
  exact ⟨fun ⟨x, hx, hq⟩ => ⟨x, hx, within_may (h1 x hx), hq⟩, fun ⟨x, hx, _, hq⟩ => ⟨x, hx, hq⟩⟩

/-- What does not meet what is covered. -/
theorem meets_of_not {c d : Int} {xs : List (Int × Int)} (hm : mayB c d = true) (h : ∀ q, hasB c d q = true → coveredB xs q = false) {x : Int × Int} (hx : x ∈ xs) : meetsB x.1 x.2 c d = false := by
  cases hb : meetsB x.1 x.2 c d
  · rfl
  · exfalso
    unfold meetsB at hb
    simp only [Bool.and_eq_true, Bool.or_eq_true] at hb
    obtain ⟨⟨b1, b2⟩, b3 | b3⟩ := hb
    · have h1 := h c (has_iff.2 ⟨hm, by have := may_bd hm; omega⟩)
      have h2 : coveredB xs c = true := List.any_eq_true.2 ⟨x, hx, b3⟩
      rw [h1] at h2; cases h2
    · have h1 := h x.1 b3
      have h2 : coveredB xs x.1 = true := List.any_eq_true.2 ⟨x, hx, has_iff.2 ⟨b1, by have := may_bd b1; omega⟩⟩
      rw [h1] at h2; cases h2
theorem apart_of {a s c d : Int} (h1 : mayB a s = true) (h2 : mayB c d = true) (h : meetsB a s c d = false) : a + s ≤ c ∨ c + d ≤ a := by
  rw [meets_alt h1 h2] at h
  simp only [Bool.and_eq_false_iff, decide_eq_false_iff_not] at h
  omega
theorem addI_lo {a : Int} {xs : List (Int × Int)} {x : Int × Int} (h : x ∈ xs.take (addI a xs)) : x.1 ≤ a := by
  unfold addI at h
  cases hf : xs.findIdx? (addP a) with
  | none =>
    have := List.findIdx?_eq_none_iff.1 hf x (List.mem_of_mem_take h)
    simpa [addP] using this
  | some k =>
    rw [hf, Option.getD_some] at h
    obtain ⟨hk, _, hno⟩ := List.findIdx?_eq_some_iff_getElem.1 hf
    obtain ⟨i, hi, rfl⟩ := List.getElem_of_mem h
    rw [List.length_take] at hi
    have := hno i (by omega)
    simpa [addP, List.getElem_take] using this
theorem addI_hi {a : Int} {xs : List (Int × Int)} (hp : xs.Pairwise fun x y => x.1 < y.1) {x : Int × Int} (h : x ∈ xs.drop (addI a xs)) : a < x.1 := by
  unfold addI at h
  cases hf : xs.findIdx? (addP a) with
  | none => rw [hf, Option.getD_none, List.drop_length] at h; simp at h
  | some k =>
    rw [hf, Option.getD_some] at h
    obtain ⟨hk, hyes, _⟩ := List.findIdx?_eq_some_iff_getElem.1 hf
    have h1 : a < xs[k].1 := by simpa [addP] using hyes
    obtain ⟨i, hi, rfl⟩ := List.getElem_of_mem h
    rw [List.length_drop] at hi
    rw [List.getElem_drop]
    rcases Nat.eq_zero_or_pos i with rfl | hpos
    · simpa using h1
    · have := (List.pairwise_iff_getElem.1 hp) k (k + i) hk (by omega) (by omega)
      omega
theorem mem_addL {a s : Int} {xs : List (Int × Int)} {x : Int × Int} : x ∈ addL a s xs ↔ x = (a, s) ∨ x ∈ xs := by
  rw [addL, List.mem_append, List.mem_cons]
  have : x ∈ xs ↔ x ∈ xs.take (addI a xs) ∨ x ∈ xs.drop (addI a xs) := by rw [← List.mem_append, List.take_append_drop]
  rw [this]
  constructor
  · rintro (h | h | h)
    · exact .inr (.inl h)
    · exact .inl h
    · exact .inr (.inr h)
  · rintro (h | h | h)
    · exact .inr (.inl h)
    · exact .inl h
    · exact .inr (.inr h)
theorem covered_addL {a s q : Int} {xs : List (Int × Int)} : coveredB (addL a s xs) q = (hasB a s q || coveredB xs q) := by
  have : coveredB xs q = (coveredB (xs.take (addI a xs)) q || coveredB (xs.drop (addI a xs)) q) := by rw [← covered_append, List.take_append_drop]
  rw [this, addL, covered_append, covered_cons]
  cases coveredB (xs.take (addI a xs)) q <;> cases hasB a s q <;> simp
theorem led_add {a s p n : Int} {xs : List (Int × Int)} (h : ledB a s xs = true) (hw : withinB p n a s = true) (hd : ∀ x ∈ xs, meetsB x.1 x.2 p n = false) : ledB a s (addL p n xs) = true := by
  obtain ⟨h1, h2⟩ := led_iff.1 h
  have hm := within_may hw
  have hrise : xs.Pairwise fun x y => x.1 < y.1 := by
    refine List.Pairwise.imp_of_mem (fun {x y} hx hy hxy => ?_) h2
    have := may_bd (within_may (h1 x hx))
    omega
  have hap : ∀ x ∈ xs, x.1 + x.2 ≤ p ∨ p + n ≤ x.1 := fun x hx => apart_of (within_may (h1 x hx)) hm (hd x hx)
  refine led_iff.2 ⟨fun x hx => ?_, ?_⟩
  · rcases mem_addL.1 hx with rfl | hx
    · exact hw
    · exact h1 x hx
  · rw [addL, List.pairwise_append, List.pairwise_cons]
    have hcut : (xs.take (addI p xs) ++ xs.drop (addI p xs)).Pairwise fun x y => x.1 + x.2 ≤ y.1 := by rw [List.take_append_drop]; exact h2
    rw [List.pairwise_append] at hcut
    obtain ⟨c1, c2, c3⟩ := hcut
    have lo : ∀ x ∈ xs.take (addI p xs), x.1 + x.2 ≤ p := fun x hx => by
      have h3 := addI_lo hx
      have h4 := hap x (List.mem_of_mem_take hx)
      have h5 := may_bd hm
      omega
    have hi : ∀ y ∈ xs.drop (addI p xs), p + n ≤ y.1 := fun y hy => by
      have h3 := addI_hi hrise hy
      have h4 := hap y (List.mem_of_mem_drop hy)
      have h5 := may_bd (within_may (h1 y (List.mem_of_mem_drop hy)))
      omega
    refine ⟨c1, ⟨fun y hy => hi y hy, c2⟩, fun x hx y hy => ?_⟩
    rcases List.mem_cons.1 hy with rfl | hy
    · exact lo x hx
    · exact c3 x hx y hy

/-- Words that are taken, and added. -/
theorem stays_add {a s n p : Int} {xs fs f t : List (Int × Int)} {g : Int} (hR : ledR a s xs fs = true) (hT : TakeRes n fs f p 0) (hA : AddRes p n xs t g) : g = 0 ∧ ledR a s t f = true ∧ (0 ≤ idxZ (findP p) t) := by
  obtain ⟨hl, hg⟩ := ledR_iff.1 hR
  have hn : 1 ≤ n := by rcases hT with ⟨_, _, _, h⟩ | ⟨_, _, _, _, h⟩ | ⟨h, _⟩ <;> omega
  have hbig : n ≤ largestL fs := by
    rcases hT with ⟨_, _, _, h⟩ | ⟨_, _, _, _, h⟩ | ⟨_, k, hk, _, hy, _⟩
    · omega
    · omega
    · have h2 : mayB (gt fs k).1 (gt fs k).2 = true ∧ n ≤ (gt fs k).2 := by simpa [takeP] using hy
      have h3 := (largest_ge fs 0).2 (gt fs k) (by rw [gt_eq hk]; exact List.getElem_mem hk) h2.1
      unfold largestL
      omega
  obtain ⟨a0, s0, pre, post, hK⟩ := take_yes hT hn hbig
  have hr := gap_right hg
  have hpa := hK.hp
  subst hpa
  obtain ⟨_, _, hw0, _⟩ := hK.facts hr
  have hmay := hK.span_may
  have hw : withinB p n a s = true := by
    obtain ⟨w1, w2, w3, w4⟩ := within_iff.1 hw0
    have := hK.hn
    exact within_iff.2 ⟨hmay, w2, w3, by omega⟩
  have hin : ∀ q, hasB p n q = true → coveredB fs q = true := fun q hq => by
    rw [covered_iff]
    obtain ⟨_, q1, q2⟩ := has_iff.1 hq
    have := hK.hn
    exact ⟨(p, s0), by rw [hK.hx]; simp, hK.hm, by unfold InS; show p ≤ q ∧ q < p + s0; omega⟩
  have hd : ∀ x ∈ xs, meetsB x.1 x.2 p n = false := fun x hx => meets_of_not hmay (fun q hq => ((gap_covered hg q).1 (hin q hq)).2) hx
  have hany : xs.any (giveP p n) = false := by
    rw [List.any_eq_false]
    intro x hx
    simp [giveP, hd x hx]
  rcases hA with ⟨h1, _⟩ | ⟨_, h1, _⟩ | ⟨_, _, rfl, rfl⟩
  · rw [hmay] at h1; cases h1
  · rw [hany] at h1; cases h1
  · refine ⟨rfl, ledR_iff.2 ⟨led_add hl hw hd, gaps_of_right (hK.right hr) fun q => ?_⟩, ?_⟩
    · rw [hK.covered hr q, covered_addL]
      have := gap_covered hg q
      cases h1 : coveredB fs q <;> cases h2 : hasB p n q <;> cases h3 : coveredB xs q <;> cases h4 : hasB a s q <;> simp_all
    · have := idx_any (findP p) (addL p n xs)
      have h2 : (addL p n xs).any (findP p) = true := List.any_eq_true.2 ⟨(p, n), mem_addL.2 (.inl rfl), by simp [findP]⟩
      rw [h2] at this
      simpa using this

/-- A span that is dropped, and given back. -/
theorem stays_drop {a s q c d : Int} {xs fs t more : List (Int × Int)} {h : Int} (hR : ledR a s xs fs = true) (hD : DropRes q xs t (c, d) 0) (hG : GiveRes c d fs more h) : h = 0 ∧ ledR a s t more = true ∧ idxZ (findP q) t = -1 := by
  obtain ⟨hl, hg⟩ := ledR_iff.1 hR
  obtain ⟨h1, h2⟩ := led_iff.1 hl
  rcases hD with ⟨_, _, _, h0⟩ | ⟨k, hk, hi, rfl, hx, _⟩
  · omega
  have hxe : xs[k] = (c, d) := by rw [← gt_eq hk, ← hx]
  have hcd : withinB c d a s = true := by have := h1 xs[k] (List.getElem_mem hk); rwa [hxe] at this
  have hmay := within_may hcd
  have hyes : findP q (xs.getD k (0, 0)) = true := by
    rcases idx_cases (findP q) xs with ⟨hz, _⟩ | ⟨j, hj, hz, hy, _⟩
    · omega
    · obtain rfl : j = k := by omega
      exact hy
  have hq : c = q := by
    have : xs.getD k (0, 0) = (c, d) := by rw [← hxe]; simp [List.getElem?_eq_getElem hk]
    rw [this] at hyes
    simpa [findP] using hyes
  subst hq
  have hsplit : xs = xs.take k ++ (c, d) :: xs.drop (k + 1) := by rw [← hxe, List.getElem_cons_drop, List.take_append_drop]
  have hcov : ∀ p, coveredB xs p = (hasB c d p || coveredB (xs.eraseIdx k) p) := fun p => by
    conv => lhs; rw [hsplit]
    rw [covered_append, covered_cons, List.eraseIdx_eq_take_drop_succ, covered_append]
    cases coveredB (xs.take k) p <;> cases hasB c d p <;> simp
  have hpw := h2
  rw [hsplit, List.pairwise_append, List.pairwise_cons] at hpw
  obtain ⟨w1, ⟨w2, w3⟩, w4⟩ := hpw
  have hne : ∀ y ∈ xs.eraseIdx k, y.1 + y.2 ≤ c ∨ c + d ≤ y.1 := fun y hy => by
    rw [List.eraseIdx_eq_take_drop_succ, List.mem_append] at hy
    rcases hy with hy | hy
    · exact .inl (w4 y hy (c, d) (by simp))
    · exact .inr (w2 y hy)
  have hsub : ∀ y ∈ xs.eraseIdx k, y ∈ xs := fun y hy => List.mem_of_mem_eraseIdx hy
  have hdis : ∀ p, hasB c d p = true → coveredB (xs.eraseIdx k) p = false := fun p hp => by
    cases hc : coveredB (xs.eraseIdx k) p
    · rfl
    · obtain ⟨y, hy, _, hyp⟩ := covered_iff.1 hc
      have := hne y hy
      obtain ⟨_, q1, q2⟩ := has_iff.1 hp
      unfold InS at hyp
      omega
  have hins : ∀ p, hasB c d p = true → hasB a s p = true := fun p hp => by
    obtain ⟨_, q1, q2⟩ := has_iff.1 hp
    obtain ⟨_, v1, v2, v3⟩ := within_iff.1 hcd
    exact has_iff.2 ⟨v1, by omega⟩
  have hnog : fs.any (giveP c d) = false := by
    rw [List.any_eq_false]
    intro x hx
    have := meets_of_not (xs := fs) hmay (fun p hp => by
      cases hc : coveredB fs p
      · rfl
      · have := ((gap_covered hg p).1 hc).2
        rw [hcov p, hp] at this
        simp at this) hx
    simp [giveP, this]
  rcases hG with ⟨h3, _⟩ | ⟨_, h3, _⟩ | ⟨_, _, rfl, rfl⟩
  · rw [hmay] at h3; cases h3
  · rw [hnog] at h3; cases h3
  · refine ⟨rfl, ledR_iff.2 ⟨led_iff.2 ⟨fun x hx => h1 x (hsub x hx), ?_⟩, ?_⟩, ?_⟩
    · exact h2.sublist (List.eraseIdx_sublist _ _)
    · refine Canon.congr (join_canon _) fun p => ?_
      rw [covered_append, covered_cons]
      have e0 : coveredB [] p = false := rfl
      rw [e0, LeftB]
      have g1 := gap_covered hg p
      have g2 := hcov p
      have g3 := hdis p
      have g4 := hins p
      revert g1 g2 g3 g4
      generalize coveredB fs p = F
      generalize coveredB xs p = X
      generalize hasB c d p = H
      generalize coveredB (xs.eraseIdx k) p = T
      generalize hasB a s p = S
      cases F <;> cases H <;> cases T <;> cases S <;> cases X <;> simp
    · refine idx_miss fun i hi => ?_
      have hy : (xs.eraseIdx k).getD i (0, 0) ∈ xs.eraseIdx k := by simp [List.getElem?_eq_getElem hi]
      generalize (xs.eraseIdx k).getD i (0, 0) = y at hy
      have h3 := hne y hy
      have h4 := may_bd (within_may (h1 y (hsub y hy)))
      have h5 := may_bd hmay
      simp only [findP, beq_eq_false_iff_ne]
      omega
end Go.Proofs.Ytllcekmbcmhckaa

/- The law LedgerStays. -/
set_option linter.unusedSimpArgs false
set_option linter.unusedVariables false
namespace Go.Proofs.Ytllcekmbcmhckaa
open Go.RowKit Go.Shelf

set_option maxRecDepth 100000 in
set_option maxHeartbeats 8000000 in
theorem ledgerStays_any (a s : Int) (A A2 : Option Addr) (cap cap2 : Nat) (xs fs : List (Int × Int)) (n q : Int) (w : World) (hlen : xs.length ≤ 9223372036854775807) (hlen2 : fs.length ≤ 9223372036854775807) (hl : SpansAt w A xs) (hl2 : SpansAt w A2 fs) :
    Calls Try.prog 12 #[.agg #[.int .i64 (a), .int .i64 (s)], .slice A xs.length cap, .slice A2 fs.length cap2, .int .i64 n, .int .i64 q] w fun e w' => e = .returned (.bool true) ∧ Ext w w' := by
  have hW : Ext w (w.alloc (.cells #[.int .i64 a, .int .i64 s] 23)) := (Ext.refl w).alloc _
  have HL := Lib.hid (hl.ext hW)
  have HF := Lib.hid (hl2.ext hW)
  have b0 := boxed w #[.int .i64 a, .int .i64 s] 23 0 (.int .i64 a) rfl
  have b1 := boxed w #[.int .i64 a, .int .i64 s] 23 1 (.int .i64 s) rfl
  clear hl hl2
  by_cases hbig : 100 < xs.length
  · have h1 : decide ((100 : Int) < (xs.length : Int)) = true := by simp; omega
    go_enter Try.func12, Try.ntmps12
    go_wp2_with fail
    refine (awake11_any _).mono ?_
    rintro e w1 ⟨rfl, hx⟩
    go_wp2_with fail
    go_ret
    exact ⟨rfl, hW.trans hx⟩
  have h1 : decide ((100 : Int) < (xs.length : Int)) = false := by simp; omega
  have hlen' : xs.length ≤ 100 := by omega
  clear hbig hlen
  obtain ⟨r, hr⟩ : ∃ r, ledR a s xs fs = r := ⟨_, rfl⟩
  have HR := Lib.hid hr
  clear hr
  have c0 := b0 _ (Ext.refl _)
  have c1 := b1 _ (Ext.refl _)
  go_enter Try.func12, Try.ntmps12
  go_wp2_with fail
  generalize w.alloc (.cells #[.int .i64 a, .int .i64 s] 23) = W at *
  refine (ledright_c a s A A2 cap cap2 xs fs _ _ r W rfl rfl HR.out (by omega) hlen2 HL.out HF.out).mono ?_
  rintro e W1 ⟨rfl, hX⟩
  clear c0 c1
  cases r
  · go_wp2_with fail
    refine (awake11_any _).mono ?_
    rintro e w1 ⟨rfl, hx⟩
    go_wp2_with fail
    go_ret
    exact ⟨rfl, hW.trans (hX.trans hx)⟩
  have hfl : fs.length ≤ 101 := by
    have := gaps_len (ledR_iff.1 HR.out).2
    omega
  clear hlen2
  go_wp2_with fail
  refine (take_any A2 cap2 fs n W1 (by omega) (HF.out.ext hX)).mono ?_
  rintro e W2 ⟨f, p, er, m, B, kb, hT, hm, rfl, hs2, hx2⟩
  replace hX := hX.trans hx2
  clear hx2
  have hcase : (er ≠ 0 ∧ (er = 7 ∨ er = 9)) ∨ er = 0 := by
    rcases hT with ⟨_, _, _, h⟩ | ⟨_, _, _, _, h⟩ | ⟨_, _, _, _, _, _, _, h⟩ <;> omega
  rcases hcase with ⟨_, rfl | rfl⟩ | rfl
  · clear hT hm hs2
    go_wp2_with fail
    refine (drop_any A cap xs q W2 (by omega) (HL.out.ext hX)).mono ?_
    rintro e W3 ⟨y3, c3, d3, e3, m3, B3, k3, hr3, hm3, rfl, hs3, hx3⟩
    replace hX := hX.trans hx3
    clear hx3
    have p0 := boxed W3 #[.int .i64 c3, .int .i64 d3] 23 0 (.int .i64 c3) rfl
    have p1 := boxed W3 #[.int .i64 c3, .int .i64 d3] 23 1 (.int .i64 d3) rfl
    have hz3 : Ext W3 (W3.alloc (.cells #[.int .i64 c3, .int .i64 d3] 23)) := (Ext.refl _).alloc _
    have HM3 := Lib.hid hm3
    have HS3 := Lib.hid (hs3.ext hz3)
    have HD3 := Lib.hid hr3
    have hcase : (idxZ (findP q) xs = -1 ∧ e3 = 2) ∨ (0 ≤ idxZ (findP q) xs ∧ e3 = 0) := by
      rcases hr3 with ⟨h1, _, _, h2⟩ | ⟨k, _, h1, _, _, h2⟩
      · exact .inl ⟨h1, h2⟩
      · exact .inr ⟨by omega, h2⟩
    clear hs3 hr3 hm3
    rcases hcase with ⟨hi3, rfl⟩ | ⟨hi3, rfl⟩
    · have HI := Lib.hid hi3
      clear hi3
      go_wp2_with fail
      generalize W3.alloc (.cells #[.int .i64 c3, .int .i64 d3] 23) = W4 at *
      replace hX := hX.trans hz3
      refine (find_c A cap xs q (-1) xs.length W4 rfl HI.out (by omega) (HL.out.ext hX)).mono ?_
      rintro e W5 ⟨rfl, hx5⟩
      replace hX := hX.trans hx5
      go_wp2_with fail
      refine (awake11_any W5).mono ?_
      rintro e W6 ⟨rfl, hx6⟩
      go_wp2_with fail
      go_ret
      exact ⟨rfl, hW.trans (hX.trans hx6)⟩
    · have HI := Lib.hid hi3
      have hi4 : decide (0 ≤ idxZ (findP q) xs) = true := by simpa using hi3
      have HI4 := Lib.hid hi4
      clear hi3 hi4
      have p0' := p0 _ (Ext.refl _)
      have p1' := p1 _ (Ext.refl _)
      clear p0 p1
      go_wp2_with fail
      generalize W3.alloc (.cells #[.int .i64 c3, .int .i64 d3] 23) = W4 at *
      clear p0' p1'
      replace hX := hX.trans hz3
      refine (give_any A2 cap2 fs c3 d3 W4 (by omega) (HF.out.ext hX)).mono ?_
      rintro e W5 ⟨y5, e5, m5, B5, k5, hr5, hm5, rfl, hs5, hx5⟩
      obtain ⟨he5, hR5, hf5⟩ := stays_drop HR.out HD3.out hr5
      subst he5
      have HR5 := Lib.hid hR5
      have HF5 := Lib.hid hf5
      have hl5 : y5.length ≤ 400 := by
        have := gaps_len (ledR_iff.1 hR5).2
        have := drop_len HD3.out
        omega
      have HM5 := Lib.hid hm5
      have HS5 := Lib.hid hs5
      replace HS3 := Lib.hid (HS3.out.ext hx5)
      replace hX := hX.trans hx5
      have hl3 := drop_len HD3.out
      clear hr5 hR5 hf5 hm5 hs5 hx5
      have c0 := b0 W5 hX
      have c1 := b1 W5 hX
      go_wp2_with fail
      refine (ledright_c a s B3 B5 k3 k5 y3 y5 m3 m5 true W5 HM3.out.symm HM5.out.symm HR5.out (by have := HM3.out; omega) (by have := HM5.out; omega) HS3.out HS5.out).mono ?_
      rintro e W6 ⟨rfl, hx6⟩
      replace hX := hX.trans hx6
      clear c0 c1
      go_wp2_with fail
      refine (find_c B3 k3 y3 q (-1) m3 W6 HM3.out.symm HF5.out (by have := HM3.out; omega) (HS3.out.ext hx6)).mono ?_
      rintro e W7 ⟨rfl, hx7⟩
      replace hX := hX.trans hx7
      clear hx6 hx7
      go_wp2_with fail
      obtain ⟨z, hz⟩ : ∃ z, idxZ (findP q) xs = z := ⟨_, rfl⟩
      have HZ := Lib.hid hz
      have hz0 : 0 ≤ z := by rw [← hz]; exact HI.out
      have hz1 : decide (0 ≤ z) = true := by simpa using hz0
      clear hz hz0
      refine (find_c A cap xs q z xs.length W7 rfl HZ.out (by omega) (HL.out.ext hX)).mono ?_
      rintro e W8 ⟨rfl, hx8⟩
      replace hX := hX.trans hx8
      go_wp2_with fail
      refine (awake11_any W8).mono ?_
      rintro e W9 ⟨rfl, hx9⟩
      go_wp2_with fail
      go_ret
      exact ⟨rfl, hW.trans (hX.trans hx9)⟩
  · clear hT hm hs2
    go_wp2_with fail
    refine (drop_any A cap xs q W2 (by omega) (HL.out.ext hX)).mono ?_
    rintro e W3 ⟨y3, c3, d3, e3, m3, B3, k3, hr3, hm3, rfl, hs3, hx3⟩
    replace hX := hX.trans hx3
    clear hx3
    have p0 := boxed W3 #[.int .i64 c3, .int .i64 d3] 23 0 (.int .i64 c3) rfl
    have p1 := boxed W3 #[.int .i64 c3, .int .i64 d3] 23 1 (.int .i64 d3) rfl
    have hz3 : Ext W3 (W3.alloc (.cells #[.int .i64 c3, .int .i64 d3] 23)) := (Ext.refl _).alloc _
    have HM3 := Lib.hid hm3
    have HS3 := Lib.hid (hs3.ext hz3)
    have HD3 := Lib.hid hr3
    have hcase : (idxZ (findP q) xs = -1 ∧ e3 = 2) ∨ (0 ≤ idxZ (findP q) xs ∧ e3 = 0) := by
      rcases hr3 with ⟨h1, _, _, h2⟩ | ⟨k, _, h1, _, _, h2⟩
      · exact .inl ⟨h1, h2⟩
      · exact .inr ⟨by omega, h2⟩
    clear hs3 hr3 hm3
    rcases hcase with ⟨hi3, rfl⟩ | ⟨hi3, rfl⟩
    · have HI := Lib.hid hi3
      clear hi3
      go_wp2_with fail
      generalize W3.alloc (.cells #[.int .i64 c3, .int .i64 d3] 23) = W4 at *
      replace hX := hX.trans hz3
      refine (find_c A cap xs q (-1) xs.length W4 rfl HI.out (by omega) (HL.out.ext hX)).mono ?_
      rintro e W5 ⟨rfl, hx5⟩
      replace hX := hX.trans hx5
      go_wp2_with fail
      refine (awake11_any W5).mono ?_
      rintro e W6 ⟨rfl, hx6⟩
      go_wp2_with fail
      go_ret
      exact ⟨rfl, hW.trans (hX.trans hx6)⟩
    · have HI := Lib.hid hi3
      have hi4 : decide (0 ≤ idxZ (findP q) xs) = true := by simpa using hi3
      have HI4 := Lib.hid hi4
      clear hi3 hi4
      have p0' := p0 _ (Ext.refl _)
      have p1' := p1 _ (Ext.refl _)
      clear p0 p1
      go_wp2_with fail
      generalize W3.alloc (.cells #[.int .i64 c3, .int .i64 d3] 23) = W4 at *
      clear p0' p1'
      replace hX := hX.trans hz3
      refine (give_any A2 cap2 fs c3 d3 W4 (by omega) (HF.out.ext hX)).mono ?_
      rintro e W5 ⟨y5, e5, m5, B5, k5, hr5, hm5, rfl, hs5, hx5⟩
      obtain ⟨he5, hR5, hf5⟩ := stays_drop HR.out HD3.out hr5
      subst he5
      have HR5 := Lib.hid hR5
      have HF5 := Lib.hid hf5
      have hl5 : y5.length ≤ 400 := by
        have := gaps_len (ledR_iff.1 hR5).2
        have := drop_len HD3.out
        omega
      have HM5 := Lib.hid hm5
      have HS5 := Lib.hid hs5
      replace HS3 := Lib.hid (HS3.out.ext hx5)
      replace hX := hX.trans hx5
      have hl3 := drop_len HD3.out
      clear hr5 hR5 hf5 hm5 hs5 hx5
      have c0 := b0 W5 hX
      have c1 := b1 W5 hX
      go_wp2_with fail
      refine (ledright_c a s B3 B5 k3 k5 y3 y5 m3 m5 true W5 HM3.out.symm HM5.out.symm HR5.out (by have := HM3.out; omega) (by have := HM5.out; omega) HS3.out HS5.out).mono ?_
      rintro e W6 ⟨rfl, hx6⟩
      replace hX := hX.trans hx6
      clear c0 c1
      go_wp2_with fail
      refine (find_c B3 k3 y3 q (-1) m3 W6 HM3.out.symm HF5.out (by have := HM3.out; omega) (HS3.out.ext hx6)).mono ?_
      rintro e W7 ⟨rfl, hx7⟩
      replace hX := hX.trans hx7
      clear hx6 hx7
      go_wp2_with fail
      obtain ⟨z, hz⟩ : ∃ z, idxZ (findP q) xs = z := ⟨_, rfl⟩
      have HZ := Lib.hid hz
      have hz0 : 0 ≤ z := by rw [← hz]; exact HI.out
      have hz1 : decide (0 ≤ z) = true := by simpa using hz0
      clear hz hz0
      refine (find_c A cap xs q z xs.length W7 rfl HZ.out (by omega) (HL.out.ext hX)).mono ?_
      rintro e W8 ⟨rfl, hx8⟩
      replace hX := hX.trans hx8
      go_wp2_with fail
      refine (awake11_any W8).mono ?_
      rintro e W9 ⟨rfl, hx9⟩
      go_wp2_with fail
      go_ret
      exact ⟨rfl, hW.trans (hX.trans hx9)⟩
  · have HT := Lib.hid hT
    have HM := Lib.hid hm
    have HS2 := Lib.hid hs2
    clear hT hm hs2
    go_wp2_with fail
    refine (add_any A cap xs p n W2 (by omega) (HL.out.ext hX)).mono ?_
    rintro e Wa ⟨t, g, mt, Bt, kt, hA, hmt, rfl, hst, hxa⟩
    obtain ⟨hg, hRt, hft⟩ := stays_add HR.out HT.out hA
    subst hg
    have HRt := Lib.hid hRt
    have hlt := add_len hA
    have hlf : f.length ≤ 102 := by have := gaps_len (ledR_iff.1 hRt).2; omega
    have HMt := Lib.hid hmt
    have HSt := Lib.hid hst
    replace HS2 := Lib.hid (HS2.out.ext hxa)
    replace hX := hX.trans hxa
    obtain ⟨z, hz⟩ : ∃ z, idxZ (findP p) t = z := ⟨_, rfl⟩
    have HZ := Lib.hid hz
    rw [hz] at hft
    have hz1 : decide (z < 0) = false := by simpa using hft
    clear hz hft hA hmt hst hxa hRt
    have c0 := b0 Wa hX
    have c1 := b1 Wa hX
    go_wp2_with fail
    refine (ledright_c a s Bt B kt kb t f mt m true Wa HMt.out.symm HM.out.symm HRt.out (by have := HMt.out; omega) (by have := HM.out; omega) HSt.out HS2.out).mono ?_
    rintro e Wb ⟨rfl, hxb⟩
    replace hX := hX.trans hxb
    clear c0 c1
    go_wp2_with fail
    refine (find_c Bt kt t p z mt Wb HMt.out.symm HZ.out (by have := HMt.out; omega) (HSt.out.ext hxb)).mono ?_
    rintro e Wc ⟨rfl, hxc⟩
    replace hX := hX.trans hxc
    clear hxb hxc
    go_wp2_with fail
    refine (drop_any A cap xs q Wc (by omega) (HL.out.ext hX)).mono ?_
    rintro e W3 ⟨y3, c3, d3, e3, m3, B3, k3, hr3, hm3, rfl, hs3, hx3⟩
    replace hX := hX.trans hx3
    clear hx3
    have p0 := boxed W3 #[.int .i64 c3, .int .i64 d3] 23 0 (.int .i64 c3) rfl
    have p1 := boxed W3 #[.int .i64 c3, .int .i64 d3] 23 1 (.int .i64 d3) rfl
    have hz3 : Ext W3 (W3.alloc (.cells #[.int .i64 c3, .int .i64 d3] 23)) := (Ext.refl _).alloc _
    have HM3 := Lib.hid hm3
    have HS3 := Lib.hid (hs3.ext hz3)
    have HD3 := Lib.hid hr3
    have hcase : (idxZ (findP q) xs = -1 ∧ e3 = 2) ∨ (0 ≤ idxZ (findP q) xs ∧ e3 = 0) := by
      rcases hr3 with ⟨h1, _, _, h2⟩ | ⟨k, _, h1, _, _, h2⟩
      · exact .inl ⟨h1, h2⟩
      · exact .inr ⟨by omega, h2⟩
    clear hs3 hr3 hm3
    rcases hcase with ⟨hi3, rfl⟩ | ⟨hi3, rfl⟩
    · have HI := Lib.hid hi3
      clear hi3
      go_wp2_with fail
      generalize W3.alloc (.cells #[.int .i64 c3, .int .i64 d3] 23) = W4 at *
      replace hX := hX.trans hz3
      refine (find_c A cap xs q (-1) xs.length W4 rfl HI.out (by omega) (HL.out.ext hX)).mono ?_
      rintro e W5 ⟨rfl, hx5⟩
      replace hX := hX.trans hx5
      go_wp2_with fail
      refine (awake11_any W5).mono ?_
      rintro e W6 ⟨rfl, hx6⟩
      go_wp2_with fail
      go_ret
      exact ⟨rfl, hW.trans (hX.trans hx6)⟩
    · have HI := Lib.hid hi3
      have hi4 : decide (0 ≤ idxZ (findP q) xs) = true := by simpa using hi3
      have HI4 := Lib.hid hi4
      clear hi3 hi4
      have p0' := p0 _ (Ext.refl _)
      have p1' := p1 _ (Ext.refl _)
      clear p0 p1
      go_wp2_with fail
      generalize W3.alloc (.cells #[.int .i64 c3, .int .i64 d3] 23) = W4 at *
      clear p0' p1'
      replace hX := hX.trans hz3
      refine (give_any A2 cap2 fs c3 d3 W4 (by omega) (HF.out.ext hX)).mono ?_
      rintro e W5 ⟨y5, e5, m5, B5, k5, hr5, hm5, rfl, hs5, hx5⟩
      obtain ⟨he5, hR5, hf5⟩ := stays_drop HR.out HD3.out hr5
      subst he5
      have HR5 := Lib.hid hR5
      have HF5 := Lib.hid hf5
      have hl5 : y5.length ≤ 400 := by
        have := gaps_len (ledR_iff.1 hR5).2
        have := drop_len HD3.out
        omega
      have HM5 := Lib.hid hm5
      have HS5 := Lib.hid hs5
      replace HS3 := Lib.hid (HS3.out.ext hx5)
      replace hX := hX.trans hx5
      have hl3 := drop_len HD3.out
      clear hr5 hR5 hf5 hm5 hs5 hx5
      have c0 := b0 W5 hX
      have c1 := b1 W5 hX
      go_wp2_with fail
      refine (ledright_c a s B3 B5 k3 k5 y3 y5 m3 m5 true W5 HM3.out.symm HM5.out.symm HR5.out (by have := HM3.out; omega) (by have := HM5.out; omega) HS3.out HS5.out).mono ?_
      rintro e W6 ⟨rfl, hx6⟩
      replace hX := hX.trans hx6
      clear c0 c1
      go_wp2_with fail
      refine (find_c B3 k3 y3 q (-1) m3 W6 HM3.out.symm HF5.out (by have := HM3.out; omega) (HS3.out.ext hx6)).mono ?_
      rintro e W7 ⟨rfl, hx7⟩
      replace hX := hX.trans hx7
      clear hx6 hx7
      go_wp2_with fail
      obtain ⟨z, hz⟩ : ∃ z, idxZ (findP q) xs = z := ⟨_, rfl⟩
      have HZ := Lib.hid hz
      have hz0 : 0 ≤ z := by rw [← hz]; exact HI.out
      have hz1 : decide (0 ≤ z) = true := by simpa using hz0
      clear hz hz0
      refine (find_c A cap xs q z xs.length W7 rfl HZ.out (by omega) (HL.out.ext hX)).mono ?_
      rintro e W8 ⟨rfl, hx8⟩
      replace hX := hX.trans hx8
      go_wp2_with fail
      refine (awake11_any W8).mono ?_
      rintro e W9 ⟨rfl, hx9⟩
      go_wp2_with fail
      go_ret
      exact ⟨rfl, hW.trans (hX.trans hx9)⟩
theorem ledgerStays_fin {v0 v1 v2 : Value} {n q : Int} {w : World} (h0 : IsSpan v0) (h1 : IsSpans w v1) (hz : IsSpans w v2) (hn : (Lit.int .i64 n).wf = true) (hq : (Lit.int .i64 q).wf = true) :
    Calls Try.prog 12 #[v0, v1, v2, .int .i64 n, .int .i64 q] w fun e w' => e = .returned (.bool true) ∧ Ext w w' := by
  obtain ⟨a, s, rfl, _, _⟩ := h0
  obtain ⟨A, cap, xs, rfl, h1, h2, h3, h4⟩ := h1
  obtain ⟨A2, cap2, fs, rfl, k1, k2, k3, k4⟩ := hz
  exact ledgerStays_any a s A A2 cap cap2 xs fs n q w h1 k1 h4 k4
end Go.Proofs.Ytllcekmbcmhckaa

