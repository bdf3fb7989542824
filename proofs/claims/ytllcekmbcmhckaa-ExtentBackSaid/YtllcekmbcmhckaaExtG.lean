/- The law's awake of chapter 10, and the law ExtentTells. -/
import Derived.Test.YtllcekmbcmhckaaExtE
import Derived.Test.YtllcekmbcmhckaaExtF
import Derived.Test.YtllcekmbcmhckaaLaw03C
set_option linter.unusedSimpArgs false
set_option linter.unusedVariables false
namespace Go.Proofs.Ytllcekmbcmhckaa
open Go.RowKit Go.Shelf

theorem take_c (A : Option Addr) (cap : Nat) (xs ys : List (Int × Int)) (n p er : Int) (k m : Nat) (V : World) (hn : xs.length = k) (hr : ∀ ys' p' er', TakeRes n xs ys' p' er' → ys' = ys ∧ p' = p ∧ er' = er) (hm : ys.length = m) (hlen : k ≤ 1000000) (hl : SpansAt V A xs) :
    Calls Try.prog 45 #[.slice A k cap, .int .i64 n] V fun e w' => ∃ A2 cap2, e = .returned (.tuple #[.slice A2 m cap2, .int .i64 p, .int .i64 er]) ∧ SpansAt w' A2 ys ∧ Ext V w' := by
  subst hn hm
  refine (take_any A cap xs n V hlen hl).mono ?_
  rintro e w' ⟨ys', p', er', m, A2, cap2, h, rfl, rfl, h1, h2⟩
  obtain ⟨rfl, rfl, rfl⟩ := hr _ _ _ h
  exact ⟨A2, cap2, rfl, h1, h2⟩
theorem give_c (A : Option Addr) (cap : Nat) (xs ys : List (Int × Int)) (a s er : Int) (k m : Nat) (V : World) (hn : xs.length = k) (hr : ∀ ys' er', GiveRes a s xs ys' er' → ys' = ys ∧ er' = er) (hm : ys.length = m) (hlen : k ≤ 400000) (hl : SpansAt V A xs) :
    Calls Try.prog 46 #[.slice A k cap, .agg #[.int .i64 (a), .int .i64 (s)]] V fun e w' => ∃ A2 cap2, e = .returned (.tuple #[.slice A2 m cap2, .int .i64 er]) ∧ SpansAt w' A2 ys ∧ Ext V w' := by
  subst hn hm
  refine (give_any A cap xs a s V hlen hl).mono ?_
  rintro e w' ⟨ys', er', m, A2, cap2, h, rfl, rfl, h1, h2⟩
  obtain ⟨rfl, rfl⟩ := hr _ _ h
  exact ⟨A2, cap2, rfl, h1, h2⟩
theorem right_c (a s : Int) (A : Option Addr) (cap : Nat) (xs : List (Int × Int)) (k : Nat) (b : Bool) (V : World) (hn : xs.length = k) (hb : rightB a s xs = b) (hlen : k ≤ 400000) (hl : SpansAt V A xs) :
    Calls Try.prog 41 #[.agg #[.int .i64 (a), .int .i64 (s)], .slice A k cap] V fun e w' => e = .returned (.bool b) ∧ Ext V w' := by
  subst hn hb
  exact right_any a s A cap xs V hlen hl
theorem largest_c (A : Option Addr) (cap : Nat) (xs : List (Int × Int)) (k : Nat) (n : Int) (V : World) (hn : xs.length = k) (hb : largestL xs = n) (hlen : k ≤ 400000) (hl : SpansAt V A xs) :
    Calls Try.prog 43 #[.slice A k cap] V fun e w' => e = .returned (.int .i64 n) ∧ Ext V w' := by
  subst hn hb
  exact largestE_any A cap xs V (by omega) hl
theorem refright_c (a s : Int) (A : Option Addr) (cap : Nat) (xs : List (Int × Int)) (k : Nat) (b : Bool) (V : World) (hn : xs.length = k) (hb : rightB a s xs = b) (hlen : k ≤ 400000) (hl : SpansAt V A xs) :
    Calls Try.prog 42 #[.agg #[.int .i64 (a), .int .i64 (s)], .slice A k cap] V fun e w' => e = .returned (.bool b) ∧ Ext V w' := by
  subst hn hb
  exact refright_any a s A cap xs V hlen hl
theorem reflargest_c (A : Option Addr) (cap : Nat) (xs : List (Int × Int)) (k : Nat) (n : Int) (V : World) (hn : xs.length = k) (hb : largestL xs = n) (hlen : k ≤ 400000) (hl : SpansAt V A xs) :
    Calls Try.prog 44 #[.slice A k cap] V fun e w' => e = .returned (.int .i64 n) ∧ Ext V w' := by
  subst hn hb
  exact reflargestE_any A cap xs V (by omega) hl

def aw10 : List (Int × Int) := [(0, 2), (4, 5)]
theorem aw10_take (ys' : List (Int × Int)) (p' er' : Int) (h : TakeRes 3 aw10 ys' p' er') : ys' = [(0, 2), (7, 2)] ∧ p' = 4 ∧ er' = 0 := by
  rcases h with ⟨h, _⟩ | ⟨_, h, _⟩ | ⟨_, k, hk, hi, hy, rfl, rfl, rfl⟩
  · omega
  · exact absurd (h (4, 5) (by simp [aw10])) (by decide)
  · have hi' : idxZ (takeP 3) aw10 = 1 := by decide
    obtain rfl : k = 1 := by rw [hi'] at hi; omega
    decide
theorem aw10_give : ∀ ys' er', GiveRes 2 2 [(0, 2), (7, 2)] ys' er' → ys' = [(0, 4), (7, 2)] ∧ er' = 0 := by
  rintro ys' er' (⟨h, _⟩ | ⟨_, h, _⟩ | ⟨_, _, rfl, rfl⟩)
  · exact absurd h (by decide)
  · exact absurd h (by decide)
  · refine ⟨?_, rfl⟩
    have h := (sortS_unique (l := [(0, 2), (7, 2)] ++ [(2, 2)]) (z := [(0, 2), (2, 2), (7, 2)]) (by decide) (by decide)).symm
    unfold joinL
    rw [h]
    decide
theorem aw10_twice : ∀ ys' er', GiveRes 8 1 [(0, 4), (7, 2)] ys' er' → ys' = [(0, 4), (7, 2)] ∧ er' = 16 := by
  rintro ys' er' (⟨h, _⟩ | ⟨_, _, rfl, rfl⟩ | ⟨_, h, _⟩)
  · exact absurd h (by decide)
  · exact ⟨rfl, rfl⟩
  · exact absurd h (by decide)
theorem aw10_none (ys' : List (Int × Int)) (p' er' : Int) (h : TakeRes 6 aw10 ys' p' er') : ys' = aw10 ∧ p' = 0 ∧ er' = 9 := by
  rcases h with ⟨h, _⟩ | ⟨_, _, rfl, rfl, rfl⟩ | ⟨_, k, hk, hi, hy, rfl, rfl, rfl⟩
  · omega
  · exact ⟨rfl, rfl, rfl⟩
  · have hi' : idxZ (takeP 6) aw10 = -1 := by decide
    rw [hi'] at hi; omega
theorem aw10_right : rightB 0 9 aw10 = true :=
  right_yes fun i hi => by
    have : i = 0 ∨ i = 1 := by simp [aw10] at hi; omega
    rcases this with rfl | rfl
    · exact ⟨by decide, fun j hj => absurd hj (by omega)⟩
    · refine ⟨by decide, fun j hj => ?_⟩
      obtain rfl : j = 0 := by omega
      decide
theorem aw10_right8 : rightB 0 8 aw10 = false := right_no (k := 1) (by decide) (by decide)
theorem aw10_largest : largestL aw10 = 5 := by decide

set_option maxRecDepth 100000 in
set_option maxHeartbeats 4000000 in
theorem awake10_any (w : World) : Calls Try.prog 40 #[] w fun e w' => e = .returned (.bool true) ∧ Ext w w' := by
  go_enter Try.func40, Try.ntmps40
  go_wp2_with fail
  have hL : SpansAt (w.alloc (.cells #[.int .i64 0, .int .i64 2, .int .i64 4, .int .i64 5] 23)) (some ⟨w.heap.size, 0, none⟩) aw10 := row_lit w _ rfl spanCells (by decide)
  have hW : Ext w (w.alloc (.cells #[.int .i64 0, .int .i64 2, .int .i64 4, .int .i64 5] 23)) := (Ext.refl w).alloc _
  generalize w.alloc (.cells #[.int .i64 0, .int .i64 2, .int .i64 4, .int .i64 5] 23) = W at *
  have HL := Lib.hid hL
  clear hL
  refine (take_c _ 2 aw10 [(0, 2), (7, 2)] 3 4 0 2 2 W rfl aw10_take rfl (by omega) HL.out).mono ?_
  rintro e W1 ⟨A1, cap1, rfl, hj, hx1⟩
  obtain ⟨b1, o1, rfl, hc⟩ := hj.at (by decide)
  have d0 := fun w' h => (hc 1 (by decide) w' h).1
  have d1 := fun w' h => (hc 1 (by decide) w' h).2
  simp only [List.getD_cons_zero, List.getD_cons_succ, Nat.zero_mul, Nat.add_zero, Nat.reduceMul] at d0 d1
  have HJ := Lib.hid hj
  clear hj hc
  go_wp2_with fail
  refine (give_c _ cap1 [(0, 2), (7, 2)] [(0, 4), (7, 2)] 2 2 0 2 2 W1 rfl aw10_give rfl (by omega) HJ.out).mono ?_
  rintro e W2 ⟨A2, cap2, rfl, hj, hx2⟩
  obtain ⟨b2, o2, rfl, hc⟩ := hj.at (by decide)
  have f0 := fun w' h => (hc 0 (by decide) w' h).1
  have f1 := fun w' h => (hc 0 (by decide) w' h).2
  simp only [List.getD_cons_zero, List.getD_cons_succ, Nat.zero_mul, Nat.add_zero, Nat.reduceMul] at f0 f1
  have HJ2 := Lib.hid hj
  clear hj hc
  go_wp2_with fail
  refine (give_c _ cap2 [(0, 4), (7, 2)] [(0, 4), (7, 2)] 8 1 16 2 2 W2 rfl aw10_twice rfl (by omega) HJ2.out).mono ?_
  rintro e W3 ⟨A3, cap3, rfl, hj3, hx3⟩
  clear hj3
  go_wp2_with fail
  refine (take_c _ 2 aw10 aw10 6 0 9 2 2 W3 rfl aw10_none rfl (by omega) (HL.out.ext (hx1.trans (hx2.trans hx3)))).mono ?_
  rintro e W4 ⟨A4, cap4, rfl, hj4, hx4⟩
  clear hj4
  have hs0 : Ext W4 W4 := Ext.refl W4
  have HW4 := Lib.hid (hW.trans (hx1.trans (hx2.trans (hx3.trans hx4))))
  replace d0 := fun w' (h : Ext W4 w') => d0 w' ((hx2.trans (hx3.trans hx4)).trans h)
  replace d1 := fun w' (h : Ext W4 w') => d1 w' ((hx2.trans (hx3.trans hx4)).trans h)
  replace f0 := fun w' (h : Ext W4 w') => f0 w' ((hx3.trans hx4).trans h)
  replace f1 := fun w' (h : Ext W4 w') => f1 w' ((hx3.trans hx4).trans h)
  have HL2 : Hid (∀ u : ExtOf W4, SpansAt u.1 (some ⟨w.heap.size, 0, none⟩) aw10) := Lib.hid fun u => HL.out.ext ((hx1.trans (hx2.trans (hx3.trans hx4))).trans u.2)
  clear hx1 hx2 hx3 hx4 HJ HJ2 hW
  go_wp2_with fail
  refine (largest_c _ 2 aw10 2 5 _ rfl aw10_largest (by omega) (HL2.out ⟨W4, hs0⟩)).mono ?_
  rintro e W5 ⟨rfl, hx⟩
  go_wp2_with fail
  refine (right_c 0 9 _ 2 aw10 2 true _ rfl aw10_right (by omega) (HL2.out ⟨W5, hx⟩)).mono ?_
  rintro e W6 ⟨rfl, hx2⟩
  replace hx := hx.trans hx2
  go_wp2_with fail
  refine (right_c 0 8 _ 2 aw10 2 false _ rfl aw10_right8 (by omega) (HL2.out ⟨W6, hx⟩)).mono ?_
  rintro e W7 ⟨rfl, hx3⟩
  replace hx := hx.trans hx3
  go_wp2_with fail
  go_ret
  exact ⟨rfl, HW4.out.trans hx⟩

set_option maxRecDepth 100000 in
set_option maxHeartbeats 4000000 in
theorem extentTells_any (a s : Int) (A : Option Addr) (cap : Nat) (xs : List (Int × Int)) (w : World) (hlen : xs.length ≤ 9223372036854775807) (hl : SpansAt w A xs) :
    Calls Try.prog 8 #[.agg #[.int .i64 (a), .int .i64 (s)], .slice A xs.length cap] w fun e w' => e = .returned (.bool true) ∧ Ext w w' := by
  have hW : Ext w (w.alloc (.cells #[.int .i64 a, .int .i64 s] 23)) := (Ext.refl w).alloc _
  have HL := Lib.hid (hl.ext hW)
  have b0 := boxed w #[.int .i64 a, .int .i64 s] 23 0 (.int .i64 a) rfl
  have b1 := boxed w #[.int .i64 a, .int .i64 s] 23 1 (.int .i64 s) rfl
  clear hl
  by_cases hbig : 100 < xs.length
  · have h1 : decide ((100 : Int) < (xs.length : Int)) = true := by simp; omega
    go_enter Try.func8, Try.ntmps8
    go_wp2_with fail
    refine (awake10_any _).mono ?_
    rintro e w1 ⟨rfl, hx⟩
    go_wp2_with fail
    go_ret
    exact ⟨rfl, hW.trans hx⟩
  · have h1 : decide ((100 : Int) < (xs.length : Int)) = false := by simp; omega
    have hlen' : xs.length ≤ 400000 := by omega
    obtain ⟨r, hr⟩ : ∃ r, rightB a s xs = r := ⟨_, rfl⟩
    obtain ⟨n, hn⟩ : ∃ n, largestL xs = n := ⟨_, rfl⟩
    obtain ⟨k, hk⟩ : ∃ k, xs.length = k := ⟨_, rfl⟩
    have HR := Lib.hid hr
    have HN := Lib.hid hn
    have HK := Lib.hid hk
    clear hr hn
    rw [hk] at hlen' h1 ⊢
    clear hk hlen hbig
    go_enter Try.func8, Try.ntmps8
    go_wp2_with fail
    generalize w.alloc (.cells #[.int .i64 a, .int .i64 s] 23) = W at *
    have hs0 : Ext W W := Ext.refl W
    have l0 := fun u : ExtOf W => b0 u.1 u.2
    have l1 := fun u : ExtOf W => b1 u.1 u.2
    have HL2 : Hid (∀ u : ExtOf W, SpansAt u.1 A xs) := Lib.hid fun u => HL.out.ext u.2
    cases r
    all_goals
      (refine wp_region_ext (W := W) (by kernel_rfl) (by kernel_rfl) (by with_reducible assumption) ?_; (repeat (go_big_quiet_step (first | (go_at_call 41; with_reducible exact Calls.ext_of (right_c a s A cap xs k _ _ HK.out HR.out hlen' (HL2.out _))) | (go_at_call 42; with_reducible exact Calls.ext_of (refright_c a s A cap xs k _ _ HK.out HR.out hlen' (HL2.out _))) | (go_at_call 43; with_reducible exact Calls.ext_of (largest_c A cap xs k n _ HK.out HN.out hlen' (HL2.out _))) | (go_at_call 44; with_reducible exact Calls.ext_of (reflargest_c A cap xs k n _ HK.out HN.out hlen' (HL2.out _))) | (go_at_call 40; with_reducible exact Calls.ext_of (awake10_any _))))); refine wpQuiet_nil ?_; intro w1 hx)
      go_wp2_with fail
      go_ret
      exact ⟨rfl, hW.trans hx⟩
theorem extentTells_fin {v0 v1 : Value} {w : World} (h0 : IsSpan v0) (h1 : IsSpans w v1) :
    Calls Try.prog 8 #[v0, v1] w fun e w' => e = .returned (.bool true) ∧ Ext w w' := by
  obtain ⟨a, s, rfl, _, _⟩ := h0
  obtain ⟨A, cap, xs, rfl, h1, h2, h3, h4⟩ := h1
  exact extentTells_any a s A cap xs w h1 h4
end Go.Proofs.Ytllcekmbcmhckaa
