/- The walk of slices' insertionSortCmpFunc, at spans and span.by. -/
import Derived.Test.YtllcekmbcmhckaaSortB
set_option linter.unusedSimpArgs false
set_option linter.unusedVariables false
namespace Go.Proofs.Ytllcekmbcmhckaa
open Go.RowKit

theorem OwnS.ext {w w' : World} {B : Nat} {v : Value} {xs : List (Int × Int)} (h : OwnS w B v xs) (he : Ext w w') : OwnS w' B v xs := Own.ext h he

def InsRel (w : World) (B g N cap a b : Nat) (xs : List (Int × Int)) (i : Value) (wr : World) : Prop :=
  ∃ (k : Nat) (ys : List (Int × Int)), i = .int .i64 k ∧ a + 1 ≤ k ∧ (k ≤ b ∨ k = a + 1) ∧ Below B w wr ∧ ys.length = N ∧ Seg a b xs ys ∧ Ordered a k ys ∧ OwnS wr B (.slice (some ⟨g, 0, none⟩) N cap) ys
def InsRel2 (w : World) (B g N cap a b k : Nat) (xs : List (Int × Int)) (j : Value) (wr : World) : Prop :=
  ∃ (m : Nat) (ys : List (Int × Int)), j = .int .i64 m ∧ a ≤ m ∧ m ≤ k ∧ Below B w wr ∧ ys.length = N ∧ Seg a b xs ys ∧ Almost a m k ys ∧ OwnS wr B (.slice (some ⟨g, 0, none⟩) N cap) ys

set_option maxRecDepth 100000 in
set_option maxHeartbeats 4000000 in
theorem insSort_any (B g N cap a b : Nat) (xs : List (Int × Int)) (w : World) (hB : B ≤ w.heap.size) (hBg : B ≤ g) (hN : xs.length = N) (hN2 : N ≤ 4000000000000) (hab : a ≤ b) (hb : b ≤ N)
    (ho : OwnS w B (.slice (some ⟨g, 0, none⟩) N cap) xs) :
    Calls Try.prog 85 #[.slice (some ⟨g, 0, none⟩) N cap, .int .i64 a, .int .i64 b, .func (.func 61) #[] #[]] w
      (InPlace w B g N cap (fun ys => Seg a b xs ys ∧ Ordered a b ys)) := by
  have HO := Lib.hid ho
  have HN := Lib.hid hN
  clear ho hN
  go_enter Try.func85, Try.ntmps85
  go_wp2_with fail
  go_loopw [8] (fun i wr => InsRel w B g N cap a b xs i wr) (fun i _ => b + 1 - (intOf i).toNat)
  case atStart => exact ⟨a + 1, xs, by go_num, by omega, by omega, Below.refl _ _, HN.out, Seg.refl _ _ _, fun i j h1 h2 h3 => by omega, HO.out⟩
  case round =>
    obtain ⟨k, ys, rfl, hak, hkb, hbel, hyl, hseg, hord, hown⟩ := hrel
    have HW := Lib.hid hown
    have HBL := Lib.hid hbel
    have HY := Lib.hid hyl
    have HSG := Lib.hid hseg
    have HOR := Lib.hid hord
    clear hown hbel hyl hseg hord HO HN
    by_cases hlt : k < b
    rotate_left
    · have hge : (b : Int) ≤ (k : Int) := by omega
      go_wp2_with fail
      go_end0
      exact ⟨rfl, HBL.out, ys, HY.out, ⟨HSG.out, HOR.out.sub (Nat.le_refl _) (by omega)⟩, HW.out⟩
    have i0 : (k : Int) < (b : Int) := by omega
    have i9 : (N : Int) ≤ 4000000000000 := by omega
    have i8 : (b : Int) ≤ (N : Int) := by omega
    go_wp2_with fail
    go_loopw [9] (fun j wr => InsRel2 w B g N cap a b k xs j wr) (fun j _ => (intOf j).toNat)
    case atStart => exact ⟨k, ys, rfl, by omega, by omega, HBL.out, HY.out, HSG.out, Almost.start HOR.out, HW.out⟩
    case round =>
      clear HW HBL HY HSG HOR
      obtain ⟨m, zs, rfl, ham, hmk, hbel, hzl, hseg, hal, hown⟩ := hrel
      have HW := Lib.hid hown
      have HBL := Lib.hid hbel
      have HY := Lib.hid hzl
      have HSG := Lib.hid hseg
      have HAL := Lib.hid hal
      clear hown hbel hzl hseg hal
      obtain ⟨W, rfl⟩ : ∃ W : World, W = wr := ⟨_, rfl⟩
      have hs0 : Ext W W := Ext.refl W
      have i1 : (0 : Int) ≤ (m : Int) := by omega
      have i2 : (m : Int) < (N : Int) := by omega
      by_cases hma : m = a
      · have HMA := Lib.hid hma
        have hd : decide (a < m) = false := by simp; omega
        clear hma
        go_wp2_with fail
        go_quiet (fail)
        go_wp2_with fail
        go_roundw
        case rel => exact ⟨k + 1, zs, by go_num, by omega, by omega, belowN HBL.out _, HY.out, HSG.out, by have h := HAL.out; rw [HMA.out] at h; exact h.atStart, HW.out⟩
        case measure => simp [intOf]; omega
      obtain ⟨n, rfl⟩ : ∃ n, m = n + 1 := ⟨m - 1, by omega⟩
      have hcast : ((n + 1 : Nat) : Int) = (n : Int) + 1 := by omega
      rw [hcast]
      rw [hcast] at i1 i2
      clear hcast
      obtain ⟨p1, p2, p3, p4⟩ := HW.out.at HY.out (show n + 1 < N by omega)
      obtain ⟨q1, q2, q3, q4⟩ := HW.out.at HY.out (show n < N by omega)
      have P1 := Lib.hid p1
      have P2 := Lib.hid p2
      have Q1 := Lib.hid q1
      have Q2 := Lib.hid q2
      generalize hgx : gt zs (n + 1) = x at *
      generalize hgy : gt zs n = y at *
      have HX := Lib.hid (And.intro hgx hgy)
      obtain ⟨x1, x2⟩ := x
      obtain ⟨y1, y2⟩ := y
      clear hgx hgy p1 p2 q1 q2
      have c1 : ∀ w', Ext W w' → w'.cell? ⟨g, (n + 1) * 2, none⟩ = some (.int .i64 x1) := fun w' h => h.cell P1.out
      have c2 : ∀ w', Ext W w' → w'.cell? ⟨g, (n + 1) * 2 + 1, none⟩ = some (.int .i64 x2) := fun w' h => h.cell P2.out
      have c3 : ∀ w', Ext W w' → w'.cell? ⟨g, n * 2, none⟩ = some (.int .i64 y1) := fun w' h => h.cell Q1.out
      have c4 : ∀ w', Ext W w' → w'.cell? ⟨g, n * 2 + 1, none⟩ = some (.int .i64 y2) := fun w' h => h.cell Q2.out
      have i3 : (a : Int) < (n : Int) + 1 := by omega
      have i4 : (0 : Int) ≤ (n : Int) := by omega
      have i5 : (n : Int) < (N : Int) := by omega
      have j1 : IntKind.i64.wrap ((n : Int) + 1 - 1) = (n : Int) := by rw [show (n : Int) + 1 - 1 = n by omega]; exact IntWalk.i64_in _ (by omega)
      have j2 : IntKind.i64.wrap (n : Int) = (n : Int) := IntWalk.i64_in _ (by omega)
      cases hle : leS (y1, y2) (x1, x2)
      · have hz : byZ (x1, x2) (y1, y2) < 0 := byZ_neg.2 hle
        go_wp2_with fail
        go_region_held3 (fun w1 => Ext W w1) (first | (with_reducible assumption) | (exact Ext.drew (by with_reducible assumption)) | (with_reducible exact Ext.drew (Ext.alloc (by with_reducible assumption) _)) | (with_reducible exact Ext.alloc (by with_reducible assumption) _) | (exact Ext.trans (by with_reducible assumption) (by with_reducible assumption))) (first | (go_at_call 61; refine (by_any (x1, x2) (y1, y2) _).mono ?_; rintro e w1 ⟨rfl, hx⟩))
        go_wp2_with fail
        -- the two are changed one for the other
        have hbz : Below B w1 w1 := Below.refl _ _
        have HW1 := Lib.hid (HW.out.ext (by with_reducible assumption : Ext W w1))
        have HBL1 := Lib.hid (HBL.out.trans (Below.mono (by with_reducible assumption : Ext W w1) (by have := HBL.out.size; omega)))
        clear hbz c1 c2 c3 c4 hs0
        obtain ⟨p1, p2, p3, p4⟩ := HW1.out.at HY.out (show n + 1 < N by omega)
        obtain ⟨q1, q2, q3, q4⟩ := HW1.out.at HY.out (show n < N by omega)
        rw [HX.out.1] at p1 p2
        rw [HX.out.2] at q1 q2
        simp only at p1 p2 q1 q2
        have k1 : ¬ (n + 1) * 2 = n * 2 := by omega
        have k2 : ¬ n * 2 = (n + 1) * 2 := by omega
        have k3 : ¬ (n + 1) * 2 = n * 2 + 1 := by omega
        have k4 : ¬ n * 2 + 1 = (n + 1) * 2 := by omega
        have k5 : ¬ (n + 1) * 2 + 1 = n * 2 := by omega
        have k6 : ¬ n * 2 = (n + 1) * 2 + 1 := by omega
        have HAL2 := Lib.hid (HAL.out.step (by have := HY.out; omega) (by omega) (by omega) (by rw [HX.out.1, HX.out.2, leS_iff]; have := hle; rw [Bool.eq_false_iff, ne_eq, leS_iff] at this; simp only at this ⊢; omega))
        clear hz hle HW HBL P1 P2 Q1 Q2
        go_region
        go_wp2_with fail
        go_roundw
        case rel =>
          refine ⟨n, swapL zs (n + 1) n, by go_num, by omega, by omega, ((((HBL1.out.drew).setCell hBg _).setCell hBg _).setCell hBg _).setCell hBg _, by rw [swapL_length]; exact HY.out, HSG.out.trans (Seg.swap (by have := HY.out; omega) ⟨by omega, by omega⟩ ⟨by omega, by omega⟩), HAL2.out, ?_⟩
          have h1 := OwnS.store (w := w1.drew) HW1.out HY.out (n + 1) y1 y2
          have h2 := OwnS.store h1 (by simp [HY.out]) n x1 x2
          rw [swapL, HX.out.1, HX.out.2]
          exact h2
        case measure => simp [intOf]
      · have hz : ¬ byZ (x1, x2) (y1, y2) < 0 := fun h => by rw [byZ_neg.1 h] at hle; cases hle
        have hz1 : 0 ≤ byZ (x1, x2) (y1, y2) := by omega
        go_wp2_with fail
        go_region_held3 (fun w1 => Ext W w1) (first | (with_reducible assumption) | (exact Ext.drew (by with_reducible assumption)) | (with_reducible exact Ext.drew (Ext.alloc (by with_reducible assumption) _)) | (with_reducible exact Ext.alloc (by with_reducible assumption) _) | (exact Ext.trans (by with_reducible assumption) (by with_reducible assumption))) (first | (go_at_call 61; refine (by_any (x1, x2) (y1, y2) _).mono ?_; rintro e w1 ⟨rfl, hx⟩))
        go_wp2_with fail
        go_roundw
        case rel => exact ⟨k + 1, zs, by go_num, by omega, by omega, HBL.out.trans (Below.mono (by assumption) (by have := HBL.out.size; omega)), HY.out, HSG.out, HAL.out.stop (by omega) (by rw [HX.out.1, HX.out.2]; exact hle), HW.out.ext (by assumption)⟩
        case measure => simp [intOf]; omega
end Go.Proofs.Ytllcekmbcmhckaa
