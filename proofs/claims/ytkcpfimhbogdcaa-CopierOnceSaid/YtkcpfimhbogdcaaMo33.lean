/- Merged by program (merge.py) out of: LedK, LedL, LedM, LedN. -/
import Derived.Test.YtkcpfimhbogdcaaMo26
import Derived.Test.YtkcpfimhbogdcaaMo32
import Derived.Test.YtkcpfimhbogdcaaMo23
import Derived.Test.YtkcpfimhbogdcaaMo31
/- The reference of ledger.Right. -/
set_option linter.unusedSimpArgs false
set_option linter.unusedVariables false
namespace Go.Proofs.Ytkcpfimhbogdcaa
open Go.RowKit Go.Shelf

def RiseTo (a s : Int) (xs : List (Int × Int)) (k : Nat) : Prop := ∀ i, i < k → withinB (xs.getD i (0, 0)).1 (xs.getD i (0, 0)).2 a s = true ∧ ∀ j, j + 1 = i → (xs.getD j (0, 0)).1 < (xs.getD i (0, 0)).1
theorem RiseTo.step {a s : Int} {xs : List (Int × Int)} {k : Nat} (h : RiseTo a s xs k) (h1 : withinB (xs.getD k (0, 0)).1 (xs.getD k (0, 0)).2 a s = true) (h2 : ∀ j, j + 1 = k → (xs.getD j (0, 0)).1 < (xs.getD k (0, 0)).1) : RiseTo a s xs (k + 1) := fun i hi => by
  rcases Nat.lt_or_ge i k with h' | h'
  · exact h i h'
  · obtain rfl : i = k := by omega
    exact ⟨h1, h2⟩
theorem rise_lt {xs : List (Int × Int)} (h : ∀ i, i + 1 < xs.length → (xs.getD i (0, 0)).1 < (xs.getD (i + 1) (0, 0)).1) : ∀ d i, i + d + 1 < xs.length → (xs.getD i (0, 0)).1 < (xs.getD (i + d + 1) (0, 0)).1 := by
  intro d
  induction d with
  | zero => intro i hi; exact h i (by omega)
  | succ d ih =>
    intro i hi
    have h1 := ih i (by omega)
    have h2 := h (i + d + 1) (by omega)
    rw [show i + (d + 1) + 1 = i + d + 1 + 1 from by omega]
    omega
theorem rise_sort {xs : List (Int × Int)} (h : ∀ i, i + 1 < xs.length → (xs.getD i (0, 0)).1 < (xs.getD (i + 1) (0, 0)).1) : sortS xs = xs := by
  refine (sortS_unique (List.Perm.refl _) ?_).symm
  rw [List.pairwise_iff_getElem]
  intro i j hi hj hij
  have := rise_lt h (j - i - 1) i (by omega)
  rw [show i + (j - i - 1) + 1 = j from by omega] at this
  simp only [List.getD_eq_getElem?_getD, List.getElem?_eq_getElem hi, List.getElem?_eq_getElem hj, Option.getD_some] at this
  rw [leS_iff]
  exact .inl this
theorem rise_chain {xs : List (Int × Int)} (h : ∀ i, i + 1 < xs.length → (xs.getD i (0, 0)).1 < (xs.getD (i + 1) (0, 0)).1) : apartB xs = chainB xs := by
  rw [← chain_sort, rise_sort h]
theorem led_rise {a s : Int} {xs : List (Int × Int)} (h : RiseTo a s xs xs.length) : ledB a s xs = apartB xs := by
  rw [ledB, all_within fun i hi => (h i hi).1, Bool.true_and, rise_chain fun i hi => (h (i + 1) hi).2 i rfl]
theorem chain_lt {xs : List (Int × Int)} (h : chainB xs = true) {j : Nat} (hj : j + 1 < xs.length) : (xs.getD j (0, 0)).1 < (xs.getD (j + 1) (0, 0)).1 := by
  have h2 := of_decide_eq_true h
  have h3 := (h2 (j + 1) hj).2 j (by omega) rfl
  have h4 := may_bd (h2 j (by omega)).1
  omega
theorem led_no3 {a s : Int} {xs : List (Int × Int)} {j : Nat} (hj : j + 1 < xs.length) (h : (xs.getD (j + 1) (0, 0)).1 ≤ (xs.getD j (0, 0)).1) : ledB a s xs = false := by
  have : chainB xs = false := by
    cases hc : chainB xs
    · rfl
    · have := chain_lt hc hj
      omega
  rw [ledB, this, Bool.and_false]

set_option maxRecDepth 100000 in
set_option maxHeartbeats 4000000 in
theorem refledright_any (a s : Int) (A A2 : Option Addr) (cap cap2 : Nat) (xs fs : List (Int × Int)) (w : World) (hA : A = none → cap = 0) (hlen : xs.length ≤ 100000) (hlen2 : fs.length ≤ 400000) (hl : SpansAt w A xs) (hl2 : SpansAt w A2 fs) :
    Calls Try.prog 54 #[.agg #[.int .i64 (a), .int .i64 (s)], .slice A xs.length cap, .slice A2 fs.length cap2] w fun e w' => e = .returned (.bool (ledR a s xs fs)) ∧ Ext w w' := by
  have hW : Ext w (w.alloc (.cells #[.int .i64 a, .int .i64 s] 23)) := (Ext.refl w).alloc _
  have HL := Lib.hid (hl.ext hW)
  have HF := Lib.hid (hl2.ext hW)
  have HA := Lib.hid hA
  have b0 := boxed w #[.int .i64 a, .int .i64 s] 23 0 (.int .i64 a) rfl
  have b1 := boxed w #[.int .i64 a, .int .i64 s] 23 1 (.int .i64 s) rfl
  clear hl hl2 hA
  go_enter Try.func54, Try.ntmps54
  go_wp2_with fail
  generalize w.alloc (.cells #[.int .i64 a, .int .i64 s] 23) = W at *
  go_loopw [7] (fun i wr => ∃ k : Nat, k ≤ xs.length ∧ i = .int .i64 k ∧ Ext W wr ∧ Hid (RiseTo a s xs k)) (fun i _ => xs.length - (intOf i).toNat)
  case atStart => exact ⟨0, by omega, rfl, Ext.refl _, Lib.hid (fun i hi => absurd hi (by omega))⟩
  case round =>
    obtain ⟨k, hk, rfl, hxr, hq⟩ := hrel
    by_cases hlt : k < xs.length
    rotate_left
    · have HR := Lib.hid (led_rise (a := a) (s := s) (xs := xs) (fun i hi => hq.out i (by omega)))
      obtain ⟨p, hp⟩ : ∃ p, apartB xs = p := ⟨_, rfl⟩
      have HP := Lib.hid hp
      clear hq hp
      go_wp2_with fail
      refine (refapart_any A cap xs _ (by omega) (HL.out.ext hxr)).mono ?_
      rintro e W8 ⟨rfl, hx8⟩
      rw [HP.out]
      replace hxr := hxr.trans hx8
      have c0 := b0 W8 hxr
      have c1 := b1 W8 hxr
      clear hx8
      cases p
      · go_wp2_with fail
        go_ret
        exact ⟨ret_bool (by rw [ledR_no (by rw [HR.out, HP.out])]), hW.trans hxr⟩
      · go_wp2_with fail
        refine (refgaps_any a s A cap xs _ HA.out (by omega) (HL.out.ext hxr)).mono ?_
        rintro e W9 ⟨ys, hg, h8⟩
        obtain ⟨A8, cap8, rfl, hj8, hx8⟩ := h8.open
        have HJ := Lib.hid hj8
        have hys := gaps_len hg
        have HG := Lib.hid (ledR_of (fs := fs) (HR.out.trans HP.out) hg)
        replace hxr := hxr.trans hx8
        clear hj8 hx8 h8 c0 c1
        go_wp2_with fail
        refine (refsame_any A8 A2 cap8 cap2 ys fs W9 (by omega) (by omega) HJ.out (HF.out.ext hxr)).mono ?_
        rintro e W10 ⟨rfl, hx9⟩
        replace hxr := hxr.trans hx9
        go_wp2_with fail
        go_ret
        exact ⟨ret_bool (by rw [HG.out]), hW.trans hxr⟩
    obtain ⟨lb, off, rfl, hc⟩ := HL.out.get (by omega)
    have HC := Lib.hid hc
    obtain ⟨e1, e2⟩ := spans_cell hc hlt
    have HN1 := Lib.hid (fun h => led_no1 (a := a) (s := s) hlt h)
    have HP := Lib.hid (fun h1 h2 => hq.out.step h1 h2)
    have ib1 : (k : Int) < (xs.length : Int) := by omega
    have l1 := fun u : ExtOf wr => u.2.cell (hxr.cell e1)
    have l2 := fun u : ExtOf wr => u.2.cell (hxr.cell e2)
    have m1 := fun u : ExtOf wr => b0 u.1 (hxr.trans u.2)
    have m2 := fun u : ExtOf wr => b1 u.1 (hxr.trans u.2)
    have hs0 : Ext wr wr := Ext.refl wr
    clear e1 e2 hc HL HF
    rcases k with _ | m
    · generalize xs.getD 0 (0, 0) = x at *
      obtain ⟨x1, x2⟩ := x
      simp only [Nat.zero_mul, Nat.add_zero] at l1 l2
      clear hq HC
      cases hb : withinB x1 x2 a s
      · go_wp2_with fail
        (refine wp_region_ext (W := wr) (by kernel_rfl) (by kernel_rfl) (by with_reducible assumption) ?_; (repeat (go_big_quiet_step (first | (go_at_call 112; with_reducible exact Calls.ext_of (refwithin_is x1 x2 a s _ hb _))))); refine wpQuiet_nil ?_; intro w1 hx)
        go_wp2_with fail
        go_ret
        exact ⟨ret_bool (by rw [ledR_no (HN1.out hb)]), hW.trans (hxr.trans hx)⟩
      · go_wp2_with fail
        (refine wp_region_ext (W := wr) (by kernel_rfl) (by kernel_rfl) (by with_reducible assumption) ?_; (repeat (go_big_quiet_step (first | (go_at_call 112; with_reducible exact Calls.ext_of (refwithin_is x1 x2 a s _ hb _))))); refine wpQuiet_nil ?_; intro w1 hx)
        go_wp2_with fail
        (refine wp_region_ext (W := wr) (by kernel_rfl) (by kernel_rfl) (by with_reducible assumption) ?_; (repeat (go_big_quiet_step (fail))); refine wpQuiet_nil ?_; intro w1 hx)
        go_wp2_with fail
        go_roundw
        case rel => exact ⟨0 + 1, by omega, by go_num, hxr.trans (by assumption), Lib.hid (HP.out hb (by omega))⟩
        case measure => simp [intOf]; omega
    · obtain ⟨e3, e4⟩ := spans_cell HC.out (show m < xs.length by omega)
      have l3 := fun u : ExtOf wr => u.2.cell (hxr.cell e3)
      have HN2 := Lib.hid (fun h => led_no3 (a := a) (s := s) (xs := xs) (j := m) hlt h)
      have HP2 := Lib.hid (fun h1 (h2 : (xs.getD m (0, 0)).1 < (xs.getD (m + 1) (0, 0)).1) => HP.out h1 (fun j (hj : j + 1 = m + 1) => (show j = m by omega) ▸ h2))
      clear e3 e4 hq HC HP
      generalize xs.getD (m + 1) (0, 0) = x at *
      generalize xs.getD m (0, 0) = y at *
      obtain ⟨x1, x2⟩ := x
      obtain ⟨c, d⟩ := y
      simp only at l1 l2 l3
      have hcast : ((m + 1 : Nat) : Int) = (m : Int) + 1 := by omega
      rw [hcast]
      rw [hcast] at ib1
      clear hcast
      have hp : decide ((0 : Int) < (m : Int) + 1) = true := by simp; try omega
      have s1 : IntKind.i64.wrap ((m : Int) + 1 - 1) = (m : Int) := by rw [show (m : Int) + 1 - 1 = (m : Int) from by omega]; exact IntWalk.i64_in _ (by omega)
      have ib2 : (m : Int) < (xs.length : Int) := by omega
      have ib3 : (0 : Int) ≤ (m : Int) := by omega
      cases hb : withinB x1 x2 a s
      · go_wp2_with fail
        (refine wp_region_ext (W := wr) (by kernel_rfl) (by kernel_rfl) (by with_reducible assumption) ?_; (repeat (go_big_quiet_step (first | (go_at_call 112; with_reducible exact Calls.ext_of (refwithin_is x1 x2 a s _ hb _))))); refine wpQuiet_nil ?_; intro w1 hx)
        go_wp2_with fail
        go_ret
        exact ⟨ret_bool (by rw [ledR_no (HN1.out hb)]), hW.trans (hxr.trans hx)⟩
      · by_cases ht : x1 ≤ c
        · have ht' : decide (x1 ≤ c) = true := by simpa using ht
          have HT := Lib.hid ht
          clear ht
          go_wp2_with fail
          (refine wp_region_ext (W := wr) (by kernel_rfl) (by kernel_rfl) (by with_reducible assumption) ?_; (repeat (go_big_quiet_step (first | (go_at_call 112; with_reducible exact Calls.ext_of (refwithin_is x1 x2 a s _ hb _))))); refine wpQuiet_nil ?_; intro w1 hx)
          go_wp2_with fail
          (refine wp_region_ext (W := wr) (by kernel_rfl) (by kernel_rfl) (by with_reducible assumption) ?_; (repeat (go_big_quiet_step (fail))); refine wpQuiet_nil ?_; intro w1 hx)
          go_wp2_with fail
          go_ret
          exact ⟨ret_bool (by rw [ledR_no (HN2.out HT.out)]), hW.trans (hxr.trans (by assumption))⟩
        · have ht' : decide (x1 ≤ c) = false := by simpa using ht
          have HT := Lib.hid ht
          clear ht
          go_wp2_with fail
          (refine wp_region_ext (W := wr) (by kernel_rfl) (by kernel_rfl) (by with_reducible assumption) ?_; (repeat (go_big_quiet_step (first | (go_at_call 112; with_reducible exact Calls.ext_of (refwithin_is x1 x2 a s _ hb _))))); refine wpQuiet_nil ?_; intro w1 hx)
          go_wp2_with fail
          (refine wp_region_ext (W := wr) (by kernel_rfl) (by kernel_rfl) (by with_reducible assumption) ?_; (repeat (go_big_quiet_step (fail))); refine wpQuiet_nil ?_; intro w1 hx)
          go_wp2_with fail
          go_roundw
          case rel => exact ⟨m + 1 + 1, by omega, by go_num, hxr.trans (by assumption), Lib.hid (HP2.out hb (by have := HT.out; omega))⟩
          case measure => simp [intOf]; omega
end Go.Proofs.Ytkcpfimhbogdcaa

/- awake of the laws of the ledger; the law LedgerTells. -/
set_option linter.unusedSimpArgs false
set_option linter.unusedVariables false
namespace Go.Proofs.Ytkcpfimhbogdcaa
open Go.RowKit Go.Shelf

theorem add_c (A : Option Addr) (cap : Nat) (xs ys : List (Int × Int)) (a s er : Int) (k m : Nat) (V : World) (hn : xs.length = k) (hr : ∀ ys' er', AddRes a s xs ys' er' → ys' = ys ∧ er' = er) (hm : ys.length = m) (hlen : k ≤ 400000) (hl : SpansAt V A xs) :
    Calls Try.prog 104 #[.slice A k cap, .agg #[.int .i64 (a), .int .i64 (s)]] V fun e w' => ∃ A2 cap2, e = .returned (.tuple #[.slice A2 m cap2, .int .i64 er]) ∧ SpansAt w' A2 ys ∧ Ext V w' := by
  subst hn hm
  refine (add_any A cap xs a s V hlen hl).mono ?_
  rintro e w' ⟨ys', er', m, A2, cap2, h, rfl, rfl, h1, h2⟩
  obtain ⟨rfl, rfl⟩ := hr _ _ h
  exact ⟨A2, cap2, rfl, h1, h2⟩
theorem drop_c (A : Option Addr) (cap : Nat) (xs ys : List (Int × Int)) (q a s er : Int) (k m : Nat) (V : World) (hn : xs.length = k) (hr : ∀ ys' x' er', DropRes q xs ys' x' er' → ys' = ys ∧ x' = (a, s) ∧ er' = er) (hm : ys.length = m) (hlen : k ≤ 400000) (hl : SpansAt V A xs) :
    Calls Try.prog 109 #[.slice A k cap, .int .i64 q] V fun e w' => ∃ A2 cap2, e = .returned (.tuple #[.slice A2 m cap2, .agg #[.int .i64 (a), .int .i64 (s)], .int .i64 er]) ∧ SpansAt w' A2 ys ∧ Ext V w' := by
  subst hn hm
  refine (drop_any A cap xs q V hlen hl).mono ?_
  rintro e w' ⟨ys', a', s', er', m, A2, cap2, h, rfl, rfl, h1, h2⟩
  obtain ⟨rfl, h3, rfl⟩ := hr _ _ _ h
  injection h3 with h3 h4
  subst h3 h4
  exact ⟨A2, cap2, rfl, h1, h2⟩
theorem ledright_c (a s : Int) (A A2 : Option Addr) (cap cap2 : Nat) (xs fs : List (Int × Int)) (k m : Nat) (b : Bool) (w : World) (hk : xs.length = k) (hm : fs.length = m) (hb : ledR a s xs fs = b) (hlen : k ≤ 400000) (hlen2 : m ≤ 9223372036854775807) (hl : SpansAt w A xs) (hl2 : SpansAt w A2 fs) :
    Calls Try.prog 92 #[.agg #[.int .i64 (a), .int .i64 (s)], .slice A k cap, .slice A2 m cap2] w fun e w' => e = .returned (.bool b) ∧ Ext w w' := by
  subst hk hm hb
  exact ledright_any a s A A2 cap cap2 xs fs w hlen hlen2 hl hl2

def aw11 : List (Int × Int) := [(0, 3), (4, 2)]
theorem aw11_add : ∀ ys' er', AddRes 0 3 [(4, 2)] ys' er' → ys' = aw11 ∧ er' = 0 := by
  rintro ys' er' (⟨h, _⟩ | ⟨_, h, _⟩ | ⟨_, _, rfl, rfl⟩)
  · exact absurd h (by decide)
  · exact absurd h (by decide)
  · exact ⟨by decide, rfl⟩
theorem aw11_twice : ∀ ys' er', AddRes 5 1 aw11 ys' er' → ys' = aw11 ∧ er' = 16 := by
  rintro ys' er' (⟨h, _⟩ | ⟨_, h, rfl, rfl⟩ | ⟨_, h, _, rfl⟩)
  · exact absurd h (by decide)
  · exact ⟨rfl, rfl⟩
  · exact absurd h (by decide)
theorem aw11_drop : ∀ ys' x' er', DropRes 4 aw11 ys' x' er' → ys' = [(0, 3)] ∧ x' = (4, 2) ∧ er' = 0 := by
  rintro ys' x' er' (⟨h, _⟩ | ⟨k, hk, hi, rfl, rfl, rfl⟩)
  · exact absurd h (by decide)
  · have hi' : idxZ (findP 4) aw11 = 1 := by decide
    obtain rfl : k = 1 := by rw [hi'] at hi; omega
    decide
theorem aw11_none : ∀ ys' x' er', DropRes 5 aw11 ys' x' er' → ys' = aw11 ∧ x' = (0, 0) ∧ er' = 2 := by
  rintro ys' x' er' (⟨h, rfl, rfl, rfl⟩ | ⟨k, hk, hi, rfl, rfl, rfl⟩)
  · exact ⟨rfl, rfl, rfl⟩
  · have hi' : idxZ (findP 5) aw11 = -1 := by decide
    rw [hi'] at hi; omega
theorem aw11_gaps : GapsOf 0 6 aw11 [(3, 1)] := by
  refine ⟨by decide, by decide, fun p => ?_⟩
  simp [LeftB, aw11, coveredB, hasB, mayB]
  omega
theorem aw11_led : ledB 0 6 aw11 = true := by decide
theorem aw11_right : ledR 0 6 aw11 [(3, 1)] = true := by rw [ledR_of aw11_led aw11_gaps]; decide
theorem aw11_right0 : ledR 0 6 aw11 [] = false := by rw [ledR_of aw11_led aw11_gaps]; decide

theorem refledright_c (a s : Int) (A A2 : Option Addr) (cap cap2 : Nat) (xs fs : List (Int × Int)) (k m : Nat) (b : Bool) (w : World) (hk : xs.length = k) (hm : fs.length = m) (hb : ledR a s xs fs = b) (hA : A = none → cap = 0) (hlen : k ≤ 100000) (hlen2 : m ≤ 400000) (hl : SpansAt w A xs) (hl2 : SpansAt w A2 fs) :
    Calls Try.prog 54 #[.agg #[.int .i64 (a), .int .i64 (s)], .slice A k cap, .slice A2 m cap2] w fun e w' => e = .returned (.bool b) ∧ Ext w w' := by
  subst hk hm hb
  exact refledright_any a s A A2 cap cap2 xs fs w hA hlen hlen2 hl hl2

end Go.Proofs.Ytkcpfimhbogdcaa

/- The law LedgerMoves. -/
set_option linter.unusedSimpArgs false
set_option linter.unusedVariables false
namespace Go.Proofs.Ytkcpfimhbogdcaa
open Go.RowKit Go.Shelf

theorem add_uniq {a s : Int} {xs y1 y2 : List (Int × Int)} {e1 e2 : Int} (h1 : AddRes a s xs y1 e1) (h2 : AddRes a s xs y2 e2) : y1 = y2 ∧ e1 = e2 := by
  rcases h1 with ⟨p1, rfl, rfl⟩ | ⟨p1, q1, rfl, rfl⟩ | ⟨p1, q1, rfl, rfl⟩ <;> rcases h2 with ⟨p2, rfl, rfl⟩ | ⟨p2, q2, rfl, rfl⟩ | ⟨p2, q2, rfl, rfl⟩ <;> simp_all
theorem drop_uniq {q : Int} {xs y1 y2 : List (Int × Int)} {x1 x2 : Int × Int} {e1 e2 : Int} (h1 : DropRes q xs y1 x1 e1) (h2 : DropRes q xs y2 x2 e2) : y1 = y2 ∧ x1 = x2 ∧ e1 = e2 := by
  rcases h1 with ⟨p1, rfl, rfl, rfl⟩ | ⟨k1, hk1, p1, rfl, rfl, rfl⟩ <;> rcases h2 with ⟨p2, rfl, rfl, rfl⟩ | ⟨k2, hk2, p2, rfl, rfl, rfl⟩
  · simp
  · omega
  · omega
  · obtain rfl : k1 = k2 := by omega
    simp
theorem add_len {a s : Int} {xs y : List (Int × Int)} {e : Int} (h : AddRes a s xs y e) : y.length ≤ xs.length + 1 := by
  rcases h with ⟨_, rfl, _⟩ | ⟨_, _, rfl, _⟩ | ⟨_, _, rfl, _⟩
  · omega
  · omega
  · rw [addL_length]; omega
theorem drop_len {q : Int} {xs y : List (Int × Int)} {x : Int × Int} {e : Int} (h : DropRes q xs y x e) : y.length ≤ xs.length := by
  rcases h with ⟨_, rfl, _⟩ | ⟨k, _, _, rfl, _⟩
  · omega
  · rw [List.length_eraseIdx]; split <;> omega
theorem refsame_c (A A2 : Option Addr) (cap cap2 n m : Nat) (xs ys : List (Int × Int)) (W : World) (hn : xs.length = n) (hm : ys.length = m) (hb : xs = ys) (hlen : n ≤ 1000000) (hl : SpansAt W A xs) (hl2 : SpansAt W A2 ys) :
    Calls Try.prog 52 #[.slice A n cap, .slice A2 m cap2] W fun e w' => e = .returned (.bool true) ∧ Ext W w' := by
  subst hb hn hm
  refine (refsame_any A A2 cap cap2 xs xs W (by omega) (by omega) hl hl2).mono ?_
  rintro e w' ⟨rfl, hx⟩
  exact ⟨by simp, hx⟩

abbrev IsSpansC (w : World) (v : Value) : Prop := ∃ (A : Option Addr) (cap : Nat) (xs : List (Int × Int)), v = .slice A xs.length cap ∧ xs.length ≤ 9223372036854775807 ∧ (A = none → cap = 0) ∧ xs.length ≤ cap ∧ (∀ x ∈ xs, (-9223372036854775808 ≤ x.1 ∧ x.1 ≤ 9223372036854775807) ∧ (-9223372036854775808 ≤ x.2 ∧ x.2 ≤ 9223372036854775807)) ∧ SpansAt w A xs
end Go.Proofs.Ytkcpfimhbogdcaa

/- Plain laws: a table and free words that may be stay so. -/
set_option linter.unusedSimpArgs false
set_option linter.unusedVariables false
namespace Go.Proofs.Ytkcpfimhbogdcaa
open Go.RowKit Go.Shelf

theorem chain_iff {xs : List (Int × Int)} : chainB xs = true ↔ (∀ x ∈ xs, mayB x.1 x.2 = true) ∧ xs.Pairwise fun x y => x.1 + x.2 ≤ y.1 := by
  constructor
  · intro h
    have h2 := of_decide_eq_true h
    have hm : ∀ x ∈ xs, mayB x.1 x.2 = true := by
      intro x hx
      obtain ⟨i, hi, rfl⟩ := List.getElem_of_mem hx
      simpa [List.getElem?_eq_getElem hi] using (h2 i hi).1
    refine ⟨hm, ?_⟩
    have key : ∀ d i, i + d + 1 < xs.length → (xs.getD i (0, 0)).1 + (xs.getD i (0, 0)).2 ≤ (xs.getD (i + d + 1) (0, 0)).1 := by
      intro d
      induction d with
      | zero => intro i hi; exact (h2 (i + 0 + 1) hi).2 i (by omega) rfl
      | succ d ih =>
        intro i hi
        have h3 := ih i (by omega)
        have h4 := (h2 (i + d + 1 + 1) (by omega)).2 (i + d + 1) (by omega) rfl
        have h5 := may_bd (h2 (i + d + 1) (by omega)).1
        rw [show i + (d + 1) + 1 = i + d + 1 + 1 from by omega]
        omega
    rw [List.pairwise_iff_getElem]
    intro i j hi hj hij
    have := key (j - i - 1) i (by omega)
    rw [show i + (j - i - 1) + 1 = j from by omega] at this
    simpa [List.getElem?_eq_getElem hi, List.getElem?_eq_getElem hj] using this
  · rintro ⟨h1, h2⟩
    rw [List.pairwise_iff_getElem] at h2
    refine chain_yes fun i hi => ⟨?_, fun j hj he => ?_⟩
    · have := h1 xs[i] (List.getElem_mem hi)
      simpa [List.getElem?_eq_getElem hi] using this
    · have := h2 j i (by omega) hi hj
      simpa [List.getElem?_eq_getElem hi, List.getElem?_eq_getElem (show j < xs.length by omega)] using this
theorem led_iff {a s : Int} {xs : List (Int × Int)} : ledB a s xs = true ↔ (∀ x ∈ xs, withinB x.1 x.2 a s = true) ∧ xs.Pairwise fun x y => x.1 + x.2 ≤ y.1 := by
  rw [ledB, Bool.and_eq_true, List.all_eq_true, chain_iff]
  exact ⟨fun ⟨h1, _, h2⟩ => ⟨h1, h2⟩, fun ⟨h1, h2⟩ => ⟨h1, fun x hx => within_may (h1 x hx), h2⟩⟩
theorem ledR_iff {a s : Int} {xs fs : List (Int × Int)} : ledR a s xs fs = true ↔ ledB a s xs = true ∧ GapsOf a s xs fs := by
  unfold ledR
  rw [Bool.and_eq_true]
  simp only [decide_eq_true_eq]

theorem has_iff {a s p : Int} : hasB a s p = true ↔ mayB a s = true ∧ a ≤ p ∧ p < a + s := by simp [hasB]
theorem gap_within {a s : Int} {xs fs : List (Int × Int)} (h : GapsOf a s xs fs) {z : Int × Int} (hz : z ∈ fs) : withinB z.1 z.2 a s = true := by
  have hm := gap_may h hz
  obtain ⟨m1, m2, m3, m4⟩ := may_bd hm
  have h1 := ((h.mem z.1).1 ⟨z, hz, by unfold InS; omega⟩).1
  have h2 := ((h.mem (z.1 + z.2 - 1)).1 ⟨z, hz, by unfold InS; omega⟩).1
  rw [has_iff] at h1 h2
  exact within_iff.2 ⟨hm, h1.1, by omega, by omega⟩
theorem gap_right {a s : Int} {xs fs : List (Int × Int)} (h : GapsOf a s xs fs) : rightB a s fs = true :=
  right_iff.2 ⟨fun z hz => gap_within h hz, h.apart⟩
theorem gap_covered {a s : Int} {xs fs : List (Int × Int)} (h : GapsOf a s xs fs) (q : Int) : coveredB fs q = true ↔ hasB a s q = true ∧ coveredB xs q = false := by
  rw [covered_iff]
  refine ⟨fun ⟨x, hx, _, hq⟩ => (h.mem q).1 ⟨x, hx, hq⟩, fun hl => ?_⟩
  obtain ⟨x, hx, hq⟩ := (h.mem q).2 hl
  exact ⟨x, hx, gap_may h hx, hq⟩
/-- Canonical spans within, by what they cover. -/
theorem gaps_of_right {a s : Int} {xs fs : List (Int × Int)} (h : rightB a s fs = true) (hc : ∀ q, coveredB fs q = true ↔ hasB a s q = true ∧ coveredB xs q = false) : GapsOf a s xs fs := by
  obtain ⟨h1, h2⟩ := right_iff.1 h
  refine ⟨fun x hx => (may_bd (within_may (h1 x hx))).2.2.1, h2, fun q => ?_⟩
  rw [LeftB, ← hc q, covered_iff]
  exact ⟨fun ⟨x, hx, hq⟩ => ⟨x, hx, within_may (h1 x hx), hq⟩, fun ⟨x, hx, _, hq⟩ => ⟨x, hx, hq⟩⟩

/-- What does not meet what is covered. -/
theorem meets_of_not {c d : Int} {xs : List (Int × Int)} (hm : mayB c d = true) (h : ∀ q, hasB c d q = true → coveredB xs q = false) {x : Int × Int} (hx : x ∈ xs) : meetsB x.1 x.2 c d = false := by
  cases hb : meetsB x.1 x.2 c d
  · rfl
  · exfalso
    unfold meetsB at hb
    simp only [Bool.and_eq_true, Bool.or_eq_true] at hb
    obtain ⟨⟨b1, b2⟩, b3 | b3⟩ := hb
    · have h1 := h c (has_iff.2 ⟨hm, by have := may_bd hm; omega⟩)
      have h2 : coveredB xs c = true := List.any_eq_true.2 ⟨x, hx, b3⟩
      rw [h1] at h2; cases h2
    · have h1 := h x.1 b3
      have h2 : coveredB xs x.1 = true := List.any_eq_true.2 ⟨x, hx, has_iff.2 ⟨b1, by have := may_bd b1; omega⟩⟩
      rw [h1] at h2; cases h2
theorem apart_of {a s c d : Int} (h1 : mayB a s = true) (h2 : mayB c d = true) (h : meetsB a s c d = false) : a + s ≤ c ∨ c + d ≤ a := by
  rw [meets_alt h1 h2] at h
  simp only [Bool.and_eq_false_iff, decide_eq_false_iff_not] at h
  omega
theorem addI_lo {a : Int} {xs : List (Int × Int)} {x : Int × Int} (h : x ∈ xs.take (addI a xs)) : x.1 ≤ a := by
  unfold addI at h
  cases hf : xs.findIdx? (addP a) with
  | none =>
    have := List.findIdx?_eq_none_iff.1 hf x (List.mem_of_mem_take h)
    simpa [addP] using this
  | some k =>
    rw [hf, Option.getD_some] at h
    obtain ⟨hk, _, hno⟩ := List.findIdx?_eq_some_iff_getElem.1 hf
    obtain ⟨i, hi, rfl⟩ := List.getElem_of_mem h
    rw [List.length_take] at hi
    have := hno i (by omega)
    simpa [addP, List.getElem_take] using this
theorem addI_hi {a : Int} {xs : List (Int × Int)} (hp : xs.Pairwise fun x y => x.1 < y.1) {x : Int × Int} (h : x ∈ xs.drop (addI a xs)) : a < x.1 := by
  unfold addI at h
  cases hf : xs.findIdx? (addP a) with
  | none => rw [hf, Option.getD_none, List.drop_length] at h; simp at h
  | some k =>
    rw [hf, Option.getD_some] at h
    obtain ⟨hk, hyes, _⟩ := List.findIdx?_eq_some_iff_getElem.1 hf
    have h1 : a < xs[k].1 := by simpa [addP] using hyes
    obtain ⟨i, hi, rfl⟩ := List.getElem_of_mem h
    rw [List.length_drop] at hi
    rw [List.getElem_drop]
    rcases Nat.eq_zero_or_pos i with rfl | hpos
    · simpa using h1
    · have := (List.pairwise_iff_getElem.1 hp) k (k + i) hk (by omega) (by omega)
      omega
theorem mem_addL {a s : Int} {xs : List (Int × Int)} {x : Int × Int} : x ∈ addL a s xs ↔ x = (a, s) ∨ x ∈ xs := by
  rw [addL, List.mem_append, List.mem_cons]
  have : x ∈ xs ↔ x ∈ xs.take (addI a xs) ∨ x ∈ xs.drop (addI a xs) := by rw [← List.mem_append, List.take_append_drop]
  rw [this]
  constructor
  · rintro (h | h | h)
    · exact .inr (.inl h)
    · exact .inl h
    · exact .inr (.inr h)
  · rintro (h | h | h)
    · exact .inr (.inl h)
    · exact .inl h
    · exact .inr (.inr h)
theorem covered_addL {a s q : Int} {xs : List (Int × Int)} : coveredB (addL a s xs) q = (hasB a s q || coveredB xs q) := by
  have : coveredB xs q = (coveredB (xs.take (addI a xs)) q || coveredB (xs.drop (addI a xs)) q) := by rw [← covered_append, List.take_append_drop]
  rw [this, addL, covered_append, covered_cons]
  cases coveredB (xs.take (addI a xs)) q <;> cases hasB a s q <;> simp
theorem led_add {a s p n : Int} {xs : List (Int × Int)} (h : ledB a s xs = true) (hw : withinB p n a s = true) (hd : ∀ x ∈ xs, meetsB x.1 x.2 p n = false) : ledB a s (addL p n xs) = true := by
  obtain ⟨h1, h2⟩ := led_iff.1 h
  have hm := within_may hw
  have hrise : xs.Pairwise fun x y => x.1 < y.1 := by
    refine List.Pairwise.imp_of_mem (fun {x y} hx hy hxy => ?_) h2
    have := may_bd (within_may (h1 x hx))
    omega
  have hap : ∀ x ∈ xs, x.1 + x.2 ≤ p ∨ p + n ≤ x.1 := fun x hx => apart_of (within_may (h1 x hx)) hm (hd x hx)
  refine led_iff.2 ⟨fun x hx => ?_, ?_⟩
  · rcases mem_addL.1 hx with rfl | hx
    · exact hw
    · exact h1 x hx
  · rw [addL, List.pairwise_append, List.pairwise_cons]
    have hcut : (xs.take (addI p xs) ++ xs.drop (addI p xs)).Pairwise fun x y => x.1 + x.2 ≤ y.1 := by rw [List.take_append_drop]; exact h2
    rw [List.pairwise_append] at hcut
    obtain ⟨c1, c2, c3⟩ := hcut
    have lo : ∀ x ∈ xs.take (addI p xs), x.1 + x.2 ≤ p := fun x hx => by
      have h3 := addI_lo hx
      have h4 := hap x (List.mem_of_mem_take hx)
      have h5 := may_bd hm
      omega
    have hi : ∀ y ∈ xs.drop (addI p xs), p + n ≤ y.1 := fun y hy => by
      have h3 := addI_hi hrise hy
      have h4 := hap y (List.mem_of_mem_drop hy)
      have h5 := may_bd (within_may (h1 y (List.mem_of_mem_drop hy)))
      omega
    refine ⟨c1, ⟨fun y hy => hi y hy, c2⟩, fun x hx y hy => ?_⟩
    rcases List.mem_cons.1 hy with rfl | hy
    · exact lo x hx
    · exact c3 x hx y hy

/-- Words that are taken, and added. -/
theorem stays_add {a s n p : Int} {xs fs f t : List (Int × Int)} {g : Int} (hR : ledR a s xs fs = true) (hT : TakeRes n fs f p 0) (hA : AddRes p n xs t g) : g = 0 ∧ ledR a s t f = true ∧ (0 ≤ idxZ (findP p) t) := by
  obtain ⟨hl, hg⟩ := ledR_iff.1 hR
  have hn : 1 ≤ n := by rcases hT with ⟨_, _, _, h⟩ | ⟨_, _, _, _, h⟩ | ⟨h, _⟩ <;> omega
  have hbig : n ≤ largestL fs := by
    rcases hT with ⟨_, _, _, h⟩ | ⟨_, _, _, _, h⟩ | ⟨_, k, hk, _, hy, _⟩
    · omega
    · omega
    · have h2 : mayB (gt fs k).1 (gt fs k).2 = true ∧ n ≤ (gt fs k).2 := by simpa [takeP] using hy
      have h3 := (largest_ge fs 0).2 (gt fs k) (by rw [gt_eq hk]; exact List.getElem_mem hk) h2.1
      unfold largestL
      omega
  obtain ⟨a0, s0, pre, post, hK⟩ := take_yes hT hn hbig
  have hr := gap_right hg
  have hpa := hK.hp
  subst hpa
  obtain ⟨_, _, hw0, _⟩ := hK.facts hr
  have hmay := hK.span_may
  have hw : withinB p n a s = true := by
    obtain ⟨w1, w2, w3, w4⟩ := within_iff.1 hw0
    have := hK.hn
    exact within_iff.2 ⟨hmay, w2, w3, by omega⟩
  have hin : ∀ q, hasB p n q = true → coveredB fs q = true := fun q hq => by
    rw [covered_iff]
    obtain ⟨_, q1, q2⟩ := has_iff.1 hq
    have := hK.hn
    exact ⟨(p, s0), by rw [hK.hx]; simp, hK.hm, by unfold InS; show p ≤ q ∧ q < p + s0; omega⟩
  have hd : ∀ x ∈ xs, meetsB x.1 x.2 p n = false := fun x hx => meets_of_not hmay (fun q hq => ((gap_covered hg q).1 (hin q hq)).2) hx
  have hany : xs.any (giveP p n) = false := by
    rw [List.any_eq_false]
    intro x hx
    simp [giveP, hd x hx]
  rcases hA with ⟨h1, _⟩ | ⟨_, h1, _⟩ | ⟨_, _, rfl, rfl⟩
  · rw [hmay] at h1; cases h1
  · rw [hany] at h1; cases h1
  · refine ⟨rfl, ledR_iff.2 ⟨led_add hl hw hd, gaps_of_right (hK.right hr) fun q => ?_⟩, ?_⟩
    · rw [hK.covered hr q, covered_addL]
      have := gap_covered hg q
      cases h1 : coveredB fs q <;> cases h2 : hasB p n q <;> cases h3 : coveredB xs q <;> cases h4 : hasB a s q <;> simp_all
    · have := idx_any (findP p) (addL p n xs)
      have h2 : (addL p n xs).any (findP p) = true := List.any_eq_true.2 ⟨(p, n), mem_addL.2 (.inl rfl), by simp [findP]⟩
      rw [h2] at this
      simpa using this

/-- A span that is dropped, and given back. -/
theorem stays_drop {a s q c d : Int} {xs fs t more : List (Int × Int)} {h : Int} (hR : ledR a s xs fs = true) (hD : DropRes q xs t (c, d) 0) (hG : GiveRes c d fs more h) : h = 0 ∧ ledR a s t more = true ∧ idxZ (findP q) t = -1 := by
  obtain ⟨hl, hg⟩ := ledR_iff.1 hR
  obtain ⟨h1, h2⟩ := led_iff.1 hl
  rcases hD with ⟨_, _, _, h0⟩ | ⟨k, hk, hi, rfl, hx, _⟩
  · omega
  have hxe : xs[k] = (c, d) := by rw [← gt_eq hk, ← hx]
  have hcd : withinB c d a s = true := by have := h1 xs[k] (List.getElem_mem hk); rwa [hxe] at this
  have hmay := within_may hcd
  have hyes : findP q (xs.getD k (0, 0)) = true := by
    rcases idx_cases (findP q) xs with ⟨hz, _⟩ | ⟨j, hj, hz, hy, _⟩
    · omega
    · obtain rfl : j = k := by omega
      exact hy
  have hq : c = q := by
    have : xs.getD k (0, 0) = (c, d) := by rw [← hxe]; simp [List.getElem?_eq_getElem hk]
    rw [this] at hyes
    simpa [findP] using hyes
  subst hq
  have hsplit : xs = xs.take k ++ (c, d) :: xs.drop (k + 1) := by rw [← hxe, List.getElem_cons_drop, List.take_append_drop]
  have hcov : ∀ p, coveredB xs p = (hasB c d p || coveredB (xs.eraseIdx k) p) := fun p => by
    conv => lhs; rw [hsplit]
    rw [covered_append, covered_cons, List.eraseIdx_eq_take_drop_succ, covered_append]
    cases coveredB (xs.take k) p <;> cases hasB c d p <;> simp
  have hpw := h2
  rw [hsplit, List.pairwise_append, List.pairwise_cons] at hpw
  obtain ⟨w1, ⟨w2, w3⟩, w4⟩ := hpw
  have hne : ∀ y ∈ xs.eraseIdx k, y.1 + y.2 ≤ c ∨ c + d ≤ y.1 := fun y hy => by
    rw [List.eraseIdx_eq_take_drop_succ, List.mem_append] at hy
    rcases hy with hy | hy
    · exact .inl (w4 y hy (c, d) (by simp))
    · exact .inr (w2 y hy)
  have hsub : ∀ y ∈ xs.eraseIdx k, y ∈ xs := fun y hy => List.mem_of_mem_eraseIdx hy
  have hdis : ∀ p, hasB c d p = true → coveredB (xs.eraseIdx k) p = false := fun p hp => by
    cases hc : coveredB (xs.eraseIdx k) p
    · rfl
    · obtain ⟨y, hy, _, hyp⟩ := covered_iff.1 hc
      have := hne y hy
      obtain ⟨_, q1, q2⟩ := has_iff.1 hp
      unfold InS at hyp
      omega
  have hins : ∀ p, hasB c d p = true → hasB a s p = true := fun p hp => by
    obtain ⟨_, q1, q2⟩ := has_iff.1 hp
    obtain ⟨_, v1, v2, v3⟩ := within_iff.1 hcd
    exact has_iff.2 ⟨v1, by omega⟩
  have hnog : fs.any (giveP c d) = false := by
    rw [List.any_eq_false]
    intro x hx
    have := meets_of_not (xs := fs) hmay (fun p hp => by
      cases hc : coveredB fs p
      · rfl
      · have := ((gap_covered hg p).1 hc).2
        rw [hcov p, hp] at this
        simp at this) hx
    simp [giveP, this]
  rcases hG with ⟨h3, _⟩ | ⟨_, h3, _⟩ | ⟨_, _, rfl, rfl⟩
  · rw [hmay] at h3; cases h3
  · rw [hnog] at h3; cases h3
  · refine ⟨rfl, ledR_iff.2 ⟨led_iff.2 ⟨fun x hx => h1 x (hsub x hx), ?_⟩, ?_⟩, ?_⟩
    · exact h2.sublist (List.eraseIdx_sublist _ _)
    · refine Canon.congr (join_canon _) fun p => ?_
      rw [covered_append, covered_cons]
      have e0 : coveredB [] p = false := rfl
      rw [e0, LeftB]
      have g1 := gap_covered hg p
      have g2 := hcov p
      have g3 := hdis p
      have g4 := hins p
      revert g1 g2 g3 g4
      generalize coveredB fs p = F
      generalize coveredB xs p = X
      generalize hasB c d p = H
      generalize coveredB (xs.eraseIdx k) p = T
      generalize hasB a s p = S
      cases F <;> cases H <;> cases T <;> cases S <;> cases X <;> simp
    · refine idx_miss fun i hi => ?_
      have hy : (xs.eraseIdx k).getD i (0, 0) ∈ xs.eraseIdx k := by simp [List.getElem?_eq_getElem hi]
      generalize (xs.eraseIdx k).getD i (0, 0) = y at hy
      have h3 := hne y hy
      have h4 := may_bd (within_may (h1 y (hsub y hy)))
      have h5 := may_bd hmay
      simp only [findP, beq_eq_false_iff_ne]
      omega
end Go.Proofs.Ytkcpfimhbogdcaa

