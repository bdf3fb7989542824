/- The walks of slices' swapRangeCmpFunc and insertionSortCmpFunc, at spans and span.by. -/
import Derived.Test.YtllcekmbcmhckaaSortA
import Derived.Test.YtllcekmbcmhckaaSegSpec
set_option linter.unusedSimpArgs false
set_option linter.unusedVariables false
namespace Go.Proofs.Ytllcekmbcmhckaa
open Go.RowKit

theorem flat_set : ∀ (xs : List (Int × Int)) (i : Nat) (a b : Int), ((xs.flatMap spanC).set (i * 2) (.int .i64 a)).set (i * 2 + 1) (.int .i64 b) = (xs.set i (a, b)).flatMap spanC := by
  intro xs
  induction xs with
  | nil => intro i a b; simp
  | cons x t ih =>
    intro i a b
    cases i with
    | zero => simp [spanC]
    | succ i =>
      have h := ih i a b
      simp only [List.flatMap_cons, spanC, List.cons_append, List.nil_append, List.set_cons_succ, show (i + 1) * 2 = i * 2 + 1 + 1 by omega]
      rw [← h]
/-- An element stored into an owned row. -/
theorem OwnS.store {w : World} {B g N cap : Nat} {xs : List (Int × Int)} (h : OwnS w B (.slice (some ⟨g, 0, none⟩) N cap) xs) (hN : xs.length = N) (i : Nat) (a b : Int) :
    OwnS ((w.setCell ⟨g, i * 2, none⟩ (.int .i64 a)).setCell ⟨g, i * 2 + 1, none⟩ (.int .i64 b)) B (.slice (some ⟨g, 0, none⟩) N cap) (xs.set i (a, b)) := by
  unfold OwnS Own at *
  rw [hN] at h
  have h1 := (World.ownsRow.stored (World.ownsRow.stored h (i * 2) (.int .i64 a)).1 (i * 2 + 1) (.int .i64 b)).1
  rw [flat_set] at h1
  rw [List.length_set, hN]
  exact h1
/-- What the cells of an owned row read. -/
theorem OwnS.at {w : World} {B g N cap : Nat} {xs : List (Int × Int)} (h : OwnS w B (.slice (some ⟨g, 0, none⟩) N cap) xs) (hN : xs.length = N) {i : Nat} (hi : i < N) :
    w.cell? ⟨g, i * 2, none⟩ = some (.int .i64 (gt xs i).1) ∧ w.cell? ⟨g, i * 2 + 1, none⟩ = some (.int .i64 (gt xs i).2) ∧ w.frozen? ⟨g, i * 2, none⟩ = false ∧ w.frozen? ⟨g, i * 2 + 1, none⟩ = false := by
  have h' := h
  unfold OwnS Own at h'
  rw [hN] at h'
  have hx : xs[i]? = some (gt xs i) := by rw [gt_eq (by omega)]; simp [hN, hi]
  refine ⟨?_, ?_, World.ownsRow.frozenAt h' _, World.ownsRow.frozenAt h' _⟩
  · rw [World.ownsRow.cellAt h' _ (by omega)]
    have := flat_get spanCells (by decide) (l := xs) (i := i) (j := 0) hx rfl
    simpa using this
  · rw [World.ownsRow.cellAt h' _ (by omega)]
    exact flat_get spanCells (by decide) (l := xs) (i := i) (j := 1) hx rfl

abbrev byV : Value := .func (.func 61) #[] #[]
/-- A call that puts a row of the call's own in order, in place. -/
def InPlace (w : World) (B g N cap : Nat) (S : List (Int × Int) → Prop) (e : Ending) (w' : World) : Prop :=
  e = .returned (.tuple #[]) ∧ Below B w w' ∧ ∃ ys, ys.length = N ∧ S ys ∧ OwnS w' B (.slice (some ⟨g, 0, none⟩) N cap) ys

/-- Rows changed one for one. -/
def swapTo (xs : List (Int × Int)) (a b : Nat) : Nat → List (Int × Int)
  | 0 => xs
  | n + 1 => swapL (swapTo xs a b n) (a + n) (b + n)
theorem swapTo_length (xs : List (Int × Int)) (a b n : Nat) : (swapTo xs a b n).length = xs.length := by
  induction n with
  | zero => rfl
  | succ n ih => rw [swapTo, swapL_length, ih]

set_option maxRecDepth 100000 in
set_option maxHeartbeats 4000000 in
theorem swapRange_any (B g N cap a b n : Nat) (xs : List (Int × Int)) (w : World) (hBg : B ≤ g) (hN : xs.length = N) (hN2 : N ≤ 4000000000000) (hab : a + n ≤ b) (hb : b + n ≤ N)
    (ho : OwnS w B (.slice (some ⟨g, 0, none⟩) N cap) xs) :
    Calls Try.prog 91 #[.slice (some ⟨g, 0, none⟩) N cap, .int .i64 a, .int .i64 b, .int .i64 n, .func (.func 61) #[] #[]] w
      (InPlace w B g N cap (fun ys => ys = swapTo xs a b n)) := by
  have HO := Lib.hid ho
  have HN := Lib.hid hN
  clear ho hN
  go_enter Try.func91, Try.ntmps91
  go_wp2_with fail
  go_loopw [10] (fun i wr => ∃ k : Nat, k ≤ n ∧ i = .int .i64 k ∧ Below B w wr ∧ OwnS wr B (.slice (some ⟨g, 0, none⟩) N cap) (swapTo xs a b k)) (fun i _ => n - (intOf i).toNat)
  case atStart => exact ⟨0, by omega, rfl, Below.refl _ _, HO.out⟩
  case round =>
    obtain ⟨k, hk, rfl, hbel, hown⟩ := hrel
    have HW := Lib.hid hown
    have HBL := Lib.hid hbel
    clear hown hbel HO
    by_cases hlt : k < n
    rotate_left
    · obtain rfl : k = n := by omega
      go_wp2_with fail
      go_end0
      exact ⟨rfl, HBL.out, _, by rw [swapTo_length]; exact HN.out, rfl, HW.out⟩
    have hsl : (swapTo xs a b k).length = N := by rw [swapTo_length]; exact HN.out
    obtain ⟨p, hp⟩ : ∃ p, p = a + k := ⟨_, rfl⟩
    obtain ⟨q, hq⟩ : ∃ q, q = b + k := ⟨_, rfl⟩
    obtain ⟨p1, p2, p3, p4⟩ := HW.out.at hsl (show p < N by omega)
    obtain ⟨q1, q2, q3, q4⟩ := HW.out.at hsl (show q < N by omega)
    have HSL := Lib.hid hsl
    have hpq : p < q := by omega
    have i1 : (a : Int) + (k : Int) = (p : Int) := by omega
    have i2 : (b : Int) + (k : Int) = (q : Int) := by omega
    have i3 : (p : Int) < (N : Int) := by omega
    have i4 : (q : Int) < (N : Int) := by omega
    have i5 : (0 : Int) ≤ (p : Int) := by omega
    have i6 : (0 : Int) ≤ (q : Int) := by omega
    have i7 : (N : Int) ≤ 4000000000000 := by omega
    have i8 : (k : Int) < (n : Int) := by omega
    have j1 : IntKind.i64.wrap (p : Int) = (p : Int) := IntWalk.i64_in _ (by omega)
    have j2 : IntKind.i64.wrap (q : Int) = (q : Int) := IntWalk.i64_in _ (by omega)
    have j3 : ¬ p = q := by omega
    have j4 : ¬ q = p := by omega
    have j5 : ¬ p * 2 = q * 2 + 1 := by omega
    have j6 : ¬ q * 2 + 1 = p * 2 := by omega
    have j7 : ¬ p * 2 + 1 = q * 2 := by omega
    have j8 : ¬ q * 2 = p * 2 + 1 := by omega
    have HPQ := Lib.hid (And.intro hp hq)
    clear hsl hp hq
    generalize hgx : gt (swapTo xs a b k) p = x at *
    generalize hgy : gt (swapTo xs a b k) q = y at *
    have HX := Lib.hid (And.intro hgx hgy)
    clear hgx hgy
    obtain ⟨x1, x2⟩ := x
    obtain ⟨y1, y2⟩ := y
    simp only at p1 p2 q1 q2
    go_wp2_with fail
    go_region
    go_wp2_with fail
    go_roundw
    case rel =>
      refine ⟨k + 1, by omega, by go_num, ((((HBL.out.drew).setCell hBg _).setCell hBg _).setCell hBg _).setCell hBg _, ?_⟩
      have h1 := OwnS.store (w := wr.drew) HW.out HSL.out p y1 y2
      have h2 := OwnS.store h1 (by simp [HSL.out]) q x1 x2
      rw [swapTo, ← HPQ.out.1, ← HPQ.out.2, swapL, HX.out.1, HX.out.2]
      exact h2
    case measure => simp [intOf]; omega
end Go.Proofs.Ytllcekmbcmhckaa
