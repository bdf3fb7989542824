/- The walk of slices' rotateCmpFunc, at spans and span.by. -/
import Derived.Test.YtllcekmbcmhckaaSortC
import Derived.Test.YtllcekmbcmhckaaRotSpec
set_option linter.unusedSimpArgs false
set_option linter.unusedVariables false
namespace Go.Proofs.Ytllcekmbcmhckaa
open Go.RowKit

theorem swapRange_z (B g N cap a b n : Nat) (xs : List (Int × Int)) (w : World) (x y z : Int) (hx : x = a) (hy : y = b) (hz : z = n) (hBg : B ≤ g) (hN : xs.length = N) (hN2 : N ≤ 4000000000000) (hab : a + n ≤ b) (hb : b + n ≤ N)
    (ho : OwnS w B (.slice (some ⟨g, 0, none⟩) N cap) xs) :
    Calls Try.prog 91 #[.slice (some ⟨g, 0, none⟩) N cap, .int .i64 x, .int .i64 y, .int .i64 z, .func (.func 61) #[] #[]] w
      (InPlace w B g N cap (fun ys => ys = swapTo xs a b n)) := by
  subst hx hy hz
  exact swapRange_any B g N cap a b n xs w hBg hN hN2 hab hb ho

def RotRel (w : World) (B g N cap a m b : Nat) (xs : List (Int × Int)) (vi vj : Value) (wr : World) : Prop :=
  ∃ (i j : Nat) (zs : List (Int × Int)), vi = .int .i64 i ∧ vj = .int .i64 j ∧ 1 ≤ i ∧ 1 ≤ j ∧ a + i ≤ m ∧ m + j ≤ b ∧ Below B w wr ∧ zs.length = N ∧ Seg a b xs zs ∧ OwnS wr B (.slice (some ⟨g, 0, none⟩) N cap) zs ∧
    (∀ ys, Rot (m - i) m (m + j) zs ys → Rot a m b xs ys)

set_option maxRecDepth 100000 in
set_option maxHeartbeats 4000000 in
theorem rotate_any (B g N cap a m b : Nat) (xs : List (Int × Int)) (w : World) (hBg : B ≤ g) (hN : xs.length = N) (hN2 : N ≤ 4000000000000) (ham : a < m) (hmb : m < b) (hb : b ≤ N)
    (ho : OwnS w B (.slice (some ⟨g, 0, none⟩) N cap) xs) :
    Calls Try.prog 89 #[.slice (some ⟨g, 0, none⟩) N cap, .int .i64 a, .int .i64 m, .int .i64 b, .func (.func 61) #[] #[]] w
      (InPlace w B g N cap (fun ys => Seg a b xs ys ∧ Rot a m b xs ys)) := by
  have HO := Lib.hid ho
  have HN := Lib.hid hN
  clear ho hN
  have i1 : (a : Int) < (m : Int) := by omega
  have i2 : (m : Int) < (b : Int) := by omega
  have i3 : (b : Int) ≤ 4000000000000 := by omega
  have i4 : (0 : Int) ≤ (a : Int) := by omega
  go_enter Try.func89, Try.ntmps89
  go_wp2_with fail
  go_loopw [10, 11] (fun i j wr => RotRel w B g N cap a m b xs i j wr) (fun i j _ => (intOf i).toNat + (intOf j).toNat)
  case atStart => exact ⟨m - a, b - m, xs, by congr 1; omega, by congr 1; omega, by omega, by omega, by omega, by omega, Below.refl _ _, HN.out, Seg.refl _ _ _, HO.out, fun ys h => by rw [show m - (m - a) = a by omega, show m + (b - m) = b by omega] at h; exact h⟩
  case round =>
    obtain ⟨i, j, zs, rfl, rfl, hi1, hj1, hai, hjb, hbel, hzl, hseg, hown, hrot⟩ := hrel
    have HW := Lib.hid hown
    have HBL := Lib.hid hbel
    have HY := Lib.hid hzl
    have HSG := Lib.hid hseg
    have HR := Lib.hid hrot
    clear hown hbel hzl hseg hrot HO HN
    have k1 : (a : Int) + (i : Int) ≤ (m : Int) := by omega
    have k2 : (m : Int) + (j : Int) ≤ (b : Int) := by omega
    have k3 : (1 : Int) ≤ (i : Int) := by omega
    have k4 : (1 : Int) ≤ (j : Int) := by omega
    by_cases hij : i = j
    · subst hij
      go_wp2_with fail
      refine (swapRange_z B g N cap (m - i) m i zs _ _ _ _ (by omega) rfl rfl hBg HY.out hN2 (by omega) (by omega) HW.out).mono ?_
      rintro e w1 ⟨rfl, hb1, ys, hyl, rfl, ho1⟩
      have H1 := Lib.hid ho1
      have H2 := Lib.hid hyl
      have H3 := Lib.hid hb1
      clear ho1 hyl hb1
      go_wp2_with fail
      go_end0
      exact ⟨rfl, HBL.out.trans H3.out, _, H2.out, ⟨HSG.out.trans (swapTo_seg (by have := HY.out; omega) (by omega) (by omega) (by omega)), HR.out _ (Rot.last (by omega) (by have := HY.out; omega))⟩, H1.out⟩
    have hd : ((i : Int) != (j : Int)) = true := by simp; omega
    by_cases hlt : j < i
    · have k5 : (j : Int) < (i : Int) := by omega
      clear hij
      go_wp2_with fail
      refine (swapRange_z B g N cap (m - i) m j zs _ _ _ _ (by omega) rfl rfl hBg HY.out hN2 (by omega) (by omega) HW.out).mono ?_
      rintro e w1 ⟨rfl, hb1, ys, hyl, rfl, ho1⟩
      have H1 := Lib.hid ho1
      have H2 := Lib.hid hyl
      have H3 := Lib.hid (HBL.out.trans hb1)
      clear ho1 hyl hb1
      go_wp2_with fail
      go_roundw
      case rel => exact ⟨i - j, j, _, by congr 1; omega, rfl, by omega, by omega, by omega, by omega, H3.out, H2.out, HSG.out.trans (swapTo_seg (by have := HY.out; omega) (by omega) (by omega) (by omega)), H1.out, fun ys h => HR.out ys (Rot.left (by omega) hlt (by have := HY.out; omega) h)⟩
      case measure => simp [intOf]; omega
    · have k5 : (i : Int) < (j : Int) := by omega
      have hlt2 : i < j := by omega
      clear hij hlt
      go_wp2_with fail
      refine (swapRange_z B g N cap (m - i) (m + j - i) i zs _ _ _ _ (by omega) (by omega) rfl hBg HY.out hN2 (by omega) (by omega) HW.out).mono ?_
      rintro e w1 ⟨rfl, hb1, ys, hyl, rfl, ho1⟩
      have H1 := Lib.hid ho1
      have H2 := Lib.hid hyl
      have H3 := Lib.hid (HBL.out.trans hb1)
      clear ho1 hyl hb1
      go_wp2_with fail
      go_roundw
      case rel => exact ⟨i, j - i, _, rfl, by congr 1; omega, by omega, by omega, by omega, by omega, H3.out, H2.out, HSG.out.trans (swapTo_seg (by have := HY.out; omega) (by omega) (by omega) (by omega)), H1.out, fun ys h => HR.out ys (Rot.right (by omega) hlt2 (by have := HY.out; omega) h)⟩
      case measure => simp [intOf]; omega
end Go.Proofs.Ytllcekmbcmhckaa
