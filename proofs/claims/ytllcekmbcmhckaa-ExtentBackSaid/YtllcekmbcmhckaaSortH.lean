/- The walks of slices' stableCmpFunc and SortStableFunc, at spans and span.by. -/
import Derived.Test.YtllcekmbcmhckaaSortG
import Derived.Test.YtllcekmbcmhckaaStabSpec
set_option linter.unusedSimpArgs false
set_option linter.unusedVariables false
namespace Go.Proofs.Ytllcekmbcmhckaa
open Go.RowKit

theorem insSort_z (B g N cap a b : Nat) (xs : List (Int × Int)) (w : World) (x y : Int) (hx : x = a) (hy : y = b) (hB : B ≤ w.heap.size) (hBg : B ≤ g) (hN : xs.length = N) (hN2 : N ≤ 4000000000000) (hab : a ≤ b) (hb : b ≤ N)
    (ho : OwnS w B (.slice (some ⟨g, 0, none⟩) N cap) xs) :
    Calls Try.prog 85 #[.slice (some ⟨g, 0, none⟩) N cap, .int .i64 x, .int .i64 y, .func (.func 61) #[] #[]] w
      (InPlace w B g N cap (fun ys => Seg a b xs ys ∧ Ordered a b ys)) := by
  subst hx hy
  exact insSort_any B g N cap a b xs w hB hBg hN hN2 hab hb ho
theorem sym_z (B g N cap a m b : Nat) (xs : List (Int × Int)) (w : World) (x y z : Int) (hx : x = a) (hy : y = m) (hz : z = b) (hB : B ≤ w.heap.size) (hBg : B ≤ g) (hN : xs.length = N) (hN2 : N ≤ 4000000000000) (ham : a < m) (hmb : m < b) (hb : b ≤ N)
    (hoA : Ordered a m xs) (hoB : Ordered m b xs) (ho : OwnS w B (.slice (some ⟨g, 0, none⟩) N cap) xs) :
    Calls Try.prog 86 #[.slice (some ⟨g, 0, none⟩) N cap, .int .i64 x, .int .i64 y, .int .i64 z, .func (.func 61) #[] #[]] w
      (InPlace w B g N cap (fun ys => Seg a b xs ys ∧ Ordered a b ys)) := by
  subst hx hy hz
  exact sym_any B g N cap a m b xs w hB hBg hN hN2 ham hmb hb hoA hoB ho

def Stab1 (w : World) (B g N cap : Nat) (xs : List (Int × Int)) (va vb : Value) (wr : World) : Prop :=
  ∃ (a : Nat) (zs : List (Int × Int)), va = .int .i64 a ∧ vb = .int .i64 ((a : Int) + 20) ∧ a ≤ N ∧ Below B w wr ∧ zs.length = N ∧ Seg 0 N xs zs ∧ DBlk 20 zs a ∧ OwnS wr B (.slice (some ⟨g, 0, none⟩) N cap) zs
def Stab2 (w : World) (B g N cap : Nat) (xs : List (Int × Int)) (vs : Value) (wr : World) : Prop :=
  ∃ (s : Nat) (zs : List (Int × Int)), vs = .int .i64 s ∧ 0 < s ∧ s ≤ 8000000000000 ∧ Below B w wr ∧ zs.length = N ∧ Seg 0 N xs zs ∧ Blk s N zs 0 ∧ OwnS wr B (.slice (some ⟨g, 0, none⟩) N cap) zs
def Stab3 (w : World) (B g N cap s : Nat) (xs : List (Int × Int)) (va vb : Value) (wr : World) : Prop :=
  ∃ (a : Nat) (zs : List (Int × Int)), va = .int .i64 a ∧ vb = .int .i64 ((a : Int) + 2 * (s : Int)) ∧ a ≤ N ∧ Below B w wr ∧ zs.length = N ∧ Seg 0 N xs zs ∧ DBlk (2 * s) zs a ∧ Blk s N zs a ∧ OwnS wr B (.slice (some ⟨g, 0, none⟩) N cap) zs

set_option maxRecDepth 100000 in
set_option maxHeartbeats 8000000 in
theorem stable_any (B g N cap : Nat) (xs : List (Int × Int)) (w : World) (hB : B ≤ w.heap.size) (hBg : B ≤ g) (hN : xs.length = N) (hN2 : N ≤ 4000000000000)
    (ho : OwnS w B (.slice (some ⟨g, 0, none⟩) N cap) xs) :
    Calls Try.prog 79 #[.slice (some ⟨g, 0, none⟩) N cap, .int .i64 N, .func (.func 61) #[] #[]] w
      (InPlace w B g N cap (fun ys => Seg 0 N xs ys ∧ Ordered 0 N ys)) := by
  have HO := Lib.hid ho
  have HN := Lib.hid hN
  clear ho hN
  have i0 : (N : Int) ≤ 4000000000000 := by omega
  go_enter Try.func79, Try.ntmps79
  go_wp2_with fail
  go_loopw [7, 8] (fun a b wr => Stab1 w B g N cap xs a b wr) (fun a _ _ => N - (intOf a).toNat)
  case atStart => exact ⟨0, xs, rfl, rfl, by omega, Below.refl _ _, HN.out, Seg.refl _ _ _, DBlk.zero, HO.out⟩
  case round =>
    obtain ⟨a, zs, rfl, rfl, haN, hbel, hzl, hseg, hdb, hown⟩ := hrel
    have HW := Lib.hid hown
    have HBL := Lib.hid hbel
    have HY := Lib.hid hzl
    have HSG := Lib.hid hseg
    have HD := Lib.hid hdb
    clear hown hbel hzl hseg hdb HO HN
    have hsz : B ≤ wr.heap.size := by have := HBL.out.size; omega
    by_cases hlt : a + 20 ≤ N
    · have k1 : (a : Int) + 20 ≤ (N : Int) := by omega
      go_wp2_with fail
      refine (insSort_z B g N cap a (a + 20) zs _ _ _ (by omega) (by omega) hsz hBg HY.out hN2 (by omega) (by omega) HW.out).mono ?_
      rintro e w1 ⟨rfl, hb1, ys, hyl, ⟨hs1, ho1⟩, hw1⟩
      have H1 := Lib.hid hw1
      have H2 := Lib.hid hyl
      have H3 := Lib.hid (HBL.out.trans hb1)
      have H4 := Lib.hid (HSG.out.trans (hs1.mono (by omega : 0 ≤ a) (by omega : a + 20 ≤ N)))
      have H5 := Lib.hid (DBlk.snoc a (HD.out.congr fun i hi => hs1.out i (by omega)) ho1)
      clear hw1 hyl hb1 hs1 ho1
      go_wp2_with fail
      go_roundw
      case rel => exact ⟨a + 20, ys, by go_num, by congr 1, by omega, H3.out, H2.out, H4.out, H5.out, H1.out⟩
      case measure => simp [intOf]; omega
    · have k1 : (N : Int) < (a : Int) + 20 := by omega
      go_wp2_with fail
      refine (insSort_z B g N cap a N zs _ _ _ rfl rfl hsz hBg HY.out hN2 (by omega) (by omega) HW.out).mono ?_
      rintro e w1 ⟨rfl, hb1, ys, hyl, ⟨hs1, ho1⟩, hw1⟩
      have H1 := Lib.hid hw1
      have H2 := Lib.hid hyl
      have H3 := Lib.hid (HBL.out.trans hb1)
      have H4 := Lib.hid (HSG.out.trans (hs1.mono (by omega : 0 ≤ a) (by omega : N ≤ N)))
      have H5 := Lib.hid (DBlk.all (N := N) (HD.out.congr fun i hi => hs1.out i (by omega)) (Blk.last a haN (by omega) ho1) haN)
      clear hw1 hyl hb1 hs1 ho1 HW HBL HY HSG HD hsz
      go_wp2_with fail
      go_loopw [6, 7, 8, 9] (fun s _ _ _ wr => Stab2 w B g N cap xs s wr) (fun s _ _ _ _ => N - (intOf s).toNat)
      case atStart => exact ⟨20, ys, rfl, by omega, by omega, H3.out, H2.out, H4.out, H5.out, H1.out⟩
      case round =>
        clear H1 H2 H3 H4 H5
        obtain ⟨s, zs, rfl, hs0, hs8, hbel, hzl, hseg, hbk, hown⟩ := hrel
        have HW := Lib.hid hown
        have HBL := Lib.hid hbel
        have HY := Lib.hid hzl
        have HSG := Lib.hid hseg
        have HK := Lib.hid hbk
        clear hown hbel hzl hseg hbk
        by_cases hlt : s < N
        rotate_left
        · have k2 : (N : Int) ≤ (s : Int) := by omega
          have k3 : decide (s < N) = false := by simp; omega
          go_wp2_with fail
          go_end0
          exact ⟨rfl, HBL.out, zs, HY.out, ⟨HSG.out, HK.out.one (by omega)⟩, HW.out⟩
        have k2 : (s : Int) < (N : Int) := by omega
        have k3 : (0 : Int) < (s : Int) := by omega
        go_wp2_with fail
        go_loopw [7, 8] (fun a b wr => Stab3 w B g N cap s xs a b wr) (fun a _ _ => N - (intOf a).toNat)
        case atStart => exact ⟨0, zs, rfl, by congr 1; omega, by omega, HBL.out, HY.out, HSG.out, DBlk.zero, HK.out, HW.out⟩
        case round =>
          clear HW HBL HY HSG HK
          obtain ⟨c, ys, rfl, rfl, hcN, hbel, hzl, hseg, hdb, hbk, hown⟩ := hrel
          have HW := Lib.hid hown
          have HBL := Lib.hid hbel
          have HY := Lib.hid hzl
          have HSG := Lib.hid hseg
          have HD := Lib.hid hdb
          have HK := Lib.hid hbk
          clear hown hbel hzl hseg hdb hbk
          have hsz : B ≤ wr.heap.size := by have := HBL.out.size; omega
          by_cases hlt2 : c + 2 * s ≤ N
          · have k4 : (c : Int) + 2 * (s : Int) ≤ (N : Int) := by omega
            obtain ⟨o1, o2, hrest⟩ := HK.out.two hs0 hlt2
            have HR := Lib.hid hrest
            clear hrest
            go_wp2_with fail
            refine (sym_z B g N cap c (c + s) (c + 2 * s) ys _ _ _ _ (by omega) (by omega) (by omega) hsz hBg HY.out hN2 (by omega) (by omega) hlt2 o1 o2 HW.out).mono ?_
            rintro e w2 ⟨rfl, hb1, ts, hyl, ⟨hs1, ho1⟩, hw1⟩
            have H1 := Lib.hid hw1
            have H2 := Lib.hid hyl
            have H3 := Lib.hid (HBL.out.trans hb1)
            have H4 := Lib.hid (HSG.out.trans (hs1.mono (by omega : 0 ≤ c) hlt2))
            have H5 := Lib.hid (DBlk.snoc c (HD.out.congr fun i hi => hs1.out i (by omega)) ho1)
            have H6 := Lib.hid (HR.out.congr fun i hi => hs1.out i (by omega))
            clear hw1 hyl hb1 hs1 ho1 o1 o2
            go_wp2_with fail
            go_roundw
            case rel => exact ⟨c + 2 * s, ts, by go_num, by congr 1, by omega, H3.out, H2.out, H4.out, H5.out, H6.out, H1.out⟩
            case measure => simp [intOf]; omega
          · have k4 : (N : Int) < (c : Int) + 2 * (s : Int) := by omega
            by_cases hms : c + s < N
            · have k5 : (c : Int) + (s : Int) < (N : Int) := by omega
              obtain ⟨o1, o2⟩ := HK.out.lastTwo hms (by omega)
              go_wp2_with fail
              refine (sym_z B g N cap c (c + s) N ys _ _ _ _ (by omega) (by omega) (by omega) hsz hBg HY.out hN2 (by omega) (by omega) (by omega) o1 o2 HW.out).mono ?_
              rintro e w2 ⟨rfl, hb1, ts, hyl, ⟨hs1, ho1⟩, hw1⟩
              have H1 := Lib.hid hw1
              have H2 := Lib.hid hyl
              have H3 := Lib.hid (HBL.out.trans hb1)
              have H4 := Lib.hid (HSG.out.trans (hs1.mono (by omega : 0 ≤ c) (by omega : N ≤ N)))
              have H5 := Lib.hid (DBlk.all (N := N) (HD.out.congr fun i hi => hs1.out i (by omega)) (Blk.last c hcN (by omega) ho1) hcN)
              clear hw1 hyl hb1 hs1 ho1 o1 o2
              go_wp2_with fail
              go_roundw
              case rel => exact ⟨2 * s, ts, by congr 1; omega, by omega, by omega, H3.out, H2.out, H4.out, H5.out, H1.out⟩
              case measure => simp [intOf]; omega
            · have k5 : (N : Int) ≤ (c : Int) + (s : Int) := by omega
              have H5 := Lib.hid (DBlk.all (N := N) HD.out (Blk.last c hcN (by omega) (HK.out.one (by omega))) hcN)
              go_wp2_with fail
              go_roundw
              case rel => exact ⟨2 * s, ys, by congr 1; omega, by omega, by omega, HBL.out, HY.out, HSG.out, H5.out, HW.out⟩
              case measure => simp [intOf]; omega
end Go.Proofs.Ytllcekmbcmhckaa
