/- extent.Take. -/
import Derived.Test.YtllcekmbcmhckaaExtC
import Derived.Test.YtllcekmbcmhckaaSeg
set_option linter.unusedSimpArgs false
set_option linter.unusedVariables false
namespace Go.Proofs.Ytllcekmbcmhckaa
open Go.RowKit Go.Shelf

theorem clone_c (A : Option Addr) (cap : Nat) (xs : List (Int × Int)) (n : Nat) (V : World) (hn : xs.length = n) (hlen : n ≤ 1000000) (hl : SpansAt V A xs) :
    Calls Try.prog 59 #[.slice A n cap] V
      fun e w' => ∃ A2 cap2, e = .returned (.slice A2 n cap2) ∧ OwnS w' V.heap.size (.slice A2 n cap2) xs ∧ Ext V w' ∧ (0 < xs.length → ∃ g, A2 = some ⟨g, 0, none⟩) := by
  subst hn
  cases A with
  | none =>
    obtain rfl := row_none hl
    refine (clone_none cap V).mono ?_
    rintro e w' ⟨rfl, hx⟩
    exact ⟨none, 0, rfl, Own.nil _ _ _ _ _, hx, fun h => absurd h (by simp)⟩
  | some ad =>
    refine (clone_some ad cap xs V (by omega) hl).mono ?_
    rintro e w' ⟨g, cap2, rfl, ho, hx⟩
    exact ⟨_, _, rfl, ho, hx, fun _ => ⟨g, rfl⟩⟩
theorem Own.spans {w : World} {B : Nat} {A : Option Addr} {n cap : Nat} {xs : List (Int × Int)} (h : OwnS w B (.slice A n cap) xs) : SpansAt w A xs := by
  obtain ⟨_, _, e3, hrow3, _⟩ := h.form spanCells (by decide)
  obtain ⟨rfl, _, rfl⟩ : _ ∧ _ ∧ _ := by simpa only [Value.slice.injEq] using e3
  exact hrow3

theorem delete_c (B g cap i N : Nat) (j : Int) (xs : List (Int × Int)) (w : World) (hN : xs.length = N) (hi : i < N) (hj : j = (i + 1 : Nat)) (hB : B ≤ w.heap.size) (hO : OwnS w B (.slice (some ⟨g, 0, none⟩) N cap) xs) :
    Calls Try.prog 71 #[.slice (some ⟨g, 0, none⟩) N cap, .int .i64 i, .int .i64 j] w
      fun e w' => e = .returned (.slice (some ⟨g, 0, none⟩) (N - 1) cap) ∧ OwnS w' B (.slice (some ⟨g, 0, none⟩) (N - 1) cap) (xs.eraseIdx i) ∧ Below B w w' := by
  obtain ⟨k, rfl⟩ : ∃ k, N = i + k + 1 := ⟨N - (i + 1), by omega⟩
  exact delete_any B g cap i k j xs w hN hj hB hO

/-! ### Take -/
def takeP (n : Int) (x : Int × Int) : Bool := mayB x.1 x.2 && decide (n ≤ x.2)
set_option maxHeartbeats 1000000 in
theorem take1_tells (n : Int) (B : Nat) (V : World) (hc : V.cell? ⟨B, 0, none⟩ = some (.int .i64 n)) : Tells 70 #[.pointer (some ⟨B, 0, none⟩)] (takeP n) V := by
  intro W x hx
  obtain ⟨a, s⟩ := x
  have c1 := hx.cell hc
  clear hc
  show Calls Try.prog 70 #[.agg #[.int .i64 (a), .int .i64 (s)], .pointer (some ⟨B, 0, none⟩)] W _
  unfold takeP
  cases hm : mayB a s
  · go_enter Try.func70, Try.ntmps70
    go_wp2_with fail
    refine (may_is a s _ hm _).mono ?_
    rintro e w1 ⟨rfl, hx1⟩
    have hx2 := ((Ext.refl W).alloc (.cells #[.int .i64 a, .int .i64 s] 23)).trans hx1
    go_wp2_with fail
    go_ret
    exact ⟨ret_bool (by simp [hm]), hx2⟩
  · have hs : decide (s ≥ n) = decide (n ≤ s) := rfl
    go_enter Try.func70, Try.ntmps70
    go_wp2_with fail
    refine (may_is a s _ hm _).mono ?_
    rintro e w1 ⟨rfl, hx1⟩
    have hx2 := ((Ext.refl W).alloc (.cells #[.int .i64 a, .int .i64 s] 23)).trans hx1
    have k1 := boxed W #[.int .i64 a, .int .i64 s] 23 1 (.int .i64 s) rfl w1 hx1
    have k2 := hx2.cell c1
    go_wp2_with fail
    all_goals (go_ret; exact ⟨ret_bool (by simp [hm, *]), hx2⟩)
/-- What Take comes to. -/
def takeL (n : Int) (xs : List (Int × Int)) (k : Nat) : List (Int × Int) := if (gt xs k).2 = n then xs.eraseIdx k else xs.set k ((gt xs k).1 + n, (gt xs k).2 - n)
/-- The three results. -/
def TakeRes (n : Int) (xs : List (Int × Int)) (ys : List (Int × Int)) (p er : Int) : Prop :=
  (n < 1 ∧ ys = xs ∧ p = 0 ∧ er = 7) ∨ (1 ≤ n ∧ (∀ x ∈ xs, takeP n x = false) ∧ ys = xs ∧ p = 0 ∧ er = 9) ∨
  (1 ≤ n ∧ ∃ k, k < xs.length ∧ idxZ (takeP n) xs = k ∧ takeP n (gt xs k) = true ∧ ys = takeL n xs k ∧ p = (gt xs k).1 ∧ er = 0)
def TakePost (n : Int) (xs : List (Int × Int)) (V : World) (e : Ending) (w' : World) : Prop :=
  ∃ (ys : List (Int × Int)) (p er : Int) (m : Nat) (A2 : Option Addr) (cap2 : Nat), TakeRes n xs ys p er ∧ m = ys.length ∧ e = .returned (.tuple #[.slice A2 m cap2, .int .i64 p, .int .i64 er]) ∧ SpansAt w' A2 ys ∧ Ext V w'

set_option maxRecDepth 100000 in
set_option maxHeartbeats 4000000 in
theorem take_any (A : Option Addr) (cap : Nat) (xs : List (Int × Int)) (n : Int) (V : World) (hlen : xs.length ≤ 1000000) (hl : SpansAt V A xs) :
    Calls Try.prog 45 #[.slice A xs.length cap, .int .i64 n] V (TakePost n xs V) := by
  have HL := Lib.hid hl
  clear hl
  have hV : Ext V (V.alloc (.cells #[.int .i64 n] 3)) := (Ext.refl V).alloc _
  have k0 := boxed V #[.int .i64 n] 3 0 (.int .i64 n) rfl
  go_enter Try.func45, Try.ntmps45
  go_wp2_with fail
  refine (clone_c A cap xs _ _ rfl hlen (HL.out.ext hV)).mono ?_
  rintro e W ⟨A2, cap2, rfl, ho, hx, hg⟩
  have HO := Lib.hid (ho.mono hV.size)
  have HX := Lib.hid (hV.trans hx)
  replace k0 := fun w' (h : Ext W w') => k0 w' (hx.trans h)
  have c0 := k0 W (Ext.refl W)
  clear ho hx hV HL
  by_cases h1 : n < 1
  · go_wp2_with fail
    go_ret3
    exact ⟨xs, 0, 7, _, A2, cap2, .inl ⟨h1, rfl, rfl, rfl⟩, rfl, rfl, HO.out.spans, HX.out⟩
  have eg : ∀ args w, (callFunc 70 args).run Try.prog w = .ok (.enter 70 args) w := enters_of Try.func70 (by kernel_rfl) rfl
  go_wp2_with fail
  refine (indexFunc_any (takeP n) _ _ eg A2 cap2 xs W (take1_tells n _ W c0) (by omega) HO.out.spans).mono ?_
  rintro e w1 ⟨rfl, hx1⟩
  rcases idx_cases (takeP n) xs with ⟨hi, hno⟩ | ⟨k, hk, hi, hyes, hno⟩
  · rw [hi]
    go_wp2_with fail
    go_ret3
    exact ⟨xs, 0, 9, _, A2, cap2, .inr (.inl ⟨by omega, hno, rfl, rfl, rfl⟩), rfl, rfl, (HO.out.ext hx1).spans, HX.out.trans hx1⟩
  · have HI := Lib.hid hi
    have HY := Lib.hid hyes
    rw [hi]
    obtain ⟨g, rfl⟩ := hg (by omega)
    have HO1 := Lib.hid (HO.out.ext hx1)
    have HX1 := Lib.hid (HX.out.trans hx1)
    replace k0 := fun w' (h : Ext w1 w') => k0 w' (hx1.trans h)
    clear hg hi hyes hno HO HX c0 hx1 eg
    obtain ⟨d1, d2, d3, d4⟩ := OwnS.at HO1.out rfl hk
    have hm : mayB (gt xs k).1 (gt xs k).2 = true ∧ n ≤ (gt xs k).2 := by have := HY.out; simpa [takeP] using this
    obtain ⟨hm, hns⟩ := hm
    obtain ⟨q1, q2, q3, q4⟩ := may_bd hm
    clear hm
    obtain ⟨⟨a, s⟩, hgt⟩ : ∃ x, gt xs k = x := ⟨_, rfl⟩
    have HG := Lib.hid hgt
    rw [hgt] at d1 d2 hns q1 q2 q3 q4
    simp only at d1 d2 hns q1 q2 q3 q4
    clear hgt d3 d4
    have ib1 : (k : Int) < (xs.length : Int) := by omega
    have ib3 : (0 : Int) ≤ (k : Int) := by omega
    have hs0 : Ext w1 w1 := Ext.refl w1
    have l0 := fun u : ExtOf w1 => k0 u.1 u.2
    have l1 := fun u : ExtOf w1 => u.2.cell d1
    have l2 := fun u : ExtOf w1 => u.2.cell d2
    go_wp2_with fail
    (refine wp_region_ord (W := w1) [(0, true), (1, true), (2, true), (3, true), (4, true), (5, true), (6, true), (7, true), (8, true), (9, true), (10, true), (11, true), (12, true), (13, true)] [] [14] (by kernel_rfl) (by kernel_rfl) (by intro c a d v w h; cases d <;> exact h) (by with_reducible assumption) ?_; simp only [opsOf, List.map_cons, List.map_nil, List.getD_cons_zero, List.getD_cons_succ]; (repeat (go_big_quiet_step (fail))); refine wpQuiet_nil ?_; intro w1 hx; refine mid_nil ?_)
    clear d1 d2 l0 l1 l2
    have HO2 := Lib.hid (HO1.out.ext hx)
    have HX2 := Lib.hid (HX1.out.trans hx)
    obtain ⟨d1, d2, d3, d4⟩ := OwnS.at HO2.out rfl hk
    rw [HG.out] at d1 d2
    simp only at d1 d2
    obtain ⟨p1, p2, p3, p4⟩ := Own.cap HO2.out
    have HO3 := Lib.hid (OwnS.store HO2.out rfl k (a + n) (s - n))
    have HX3 : Hid (Ext V ((w1.setCell ⟨g, k * 2, none⟩ (.int .i64 (a + n))).setCell ⟨g, k * 2 + 1, none⟩ (.int .i64 (s - n)))) := Lib.hid ((HX2.out.setCell p3 _).setCell p3 _)
    clear HO1 HX1 HO2 HX2 hx hs0 k0
    by_cases hsn : s = n
    · have hd : (s - n == 0) = true := by simp; omega
      have hz : s - n = 0 := by omega
      rw [hz] at HO3 HX3
      clear hz
      have hT : takeL n xs k = (xs.set k (a + n, 0)).eraseIdx k := by unfold takeL; rw [HG.out]; simp only [hsn, if_true]; rw [List.eraseIdx_set_eq]
      have HT := Lib.hid hT
      have HSZ : Hid (V.heap.size ≤ ((w1.setCell ⟨g, k * 2, none⟩ (.int .i64 (a + n))).setCell ⟨g, k * 2 + 1, none⟩ (.int .i64 (0))).heap.size) := Lib.hid HX3.out.size
      clear hT
      go_wp2_with fail
      generalize (w1.setCell ⟨g, k * 2, none⟩ (.int .i64 (a + n))).setCell ⟨g, k * 2 + 1, none⟩ (.int .i64 (0)) = W5 at *
      refine (delete_c V.heap.size g cap2 k xs.length ((k : Int) + 1) (xs.set k (a + n, 0)) W5 (by rw [List.length_set]) hk (by simp) HSZ.out HO3.out).mono ?_
      rintro e W6 ⟨rfl, hd1, hd2⟩
      have HD1 := Lib.hid hd1
      have HD2 := Lib.hid hd2
      clear hd1 hd2
      go_wp2_with fail
      go_ret3
      exact ⟨takeL n xs k, a, 0, xs.length - 1, _, cap2, .inr (.inr ⟨by omega, k, hk, HI.out, HY.out, rfl, by rw [HG.out], rfl⟩), by rw [HT.out, List.length_eraseIdx, List.length_set, if_pos hk], rfl, by rw [HT.out]; exact HD1.out.spans, Below.trans HX3.out HD2.out⟩
    · have hd : (s - n == 0) = false := by simp; omega
      have hT : takeL n xs k = xs.set k (a + n, s - n) := by unfold takeL; rw [HG.out]; simp only [hsn, if_false]
      have HT := Lib.hid hT
      clear hT
      go_wp2_with fail
      go_ret3
      exact ⟨takeL n xs k, a, 0, xs.length, _, cap2, .inr (.inr ⟨by omega, k, hk, HI.out, HY.out, rfl, by rw [HG.out], rfl⟩), by rw [HT.out, List.length_set], rfl, by rw [HT.out]; exact HO3.out.spans, HX3.out⟩
end Go.Proofs.Ytllcekmbcmhckaa
