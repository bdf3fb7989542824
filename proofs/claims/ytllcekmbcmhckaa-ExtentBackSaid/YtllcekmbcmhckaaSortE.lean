/- The walk of slices' symMergeCmpFunc, at spans and span.by: its two short ways. -/
import Derived.Test.YtllcekmbcmhckaaSortD
import Derived.Test.YtllcekmbcmhckaaSymSpec
set_option linter.unusedSimpArgs false
set_option linter.unusedVariables false
namespace Go.Proofs.Ytllcekmbcmhckaa
open Go.RowKit

def SearchA (w : World) (a m b : Nat) (xs : List (Int × Int)) (vi vj : Value) (wr : World) : Prop :=
  ∃ (i j : Nat), vi = .int .i64 i ∧ vj = .int .i64 j ∧ m ≤ i ∧ i ≤ j ∧ j ≤ b ∧ Ext w wr ∧ (∀ p, m ≤ p → p < i → leS (gt xs a) (gt xs p) = false) ∧ (∀ p, j ≤ p → p < b → leS (gt xs a) (gt xs p) = true)
def SwapA (w : World) (B g N cap a b i : Nat) (xs : List (Int × Int)) (vk : Value) (wr : World) : Prop :=
  ∃ (k : Nat) (zs : List (Int × Int)), vk = .int .i64 k ∧ a ≤ k ∧ k + 1 ≤ i ∧ Below B w wr ∧ zs.length = N ∧ Seg a b xs zs ∧ Rot a (a + 1) (k + 1) xs zs ∧ OwnS wr B (.slice (some ⟨g, 0, none⟩) N cap) zs

set_option maxRecDepth 100000 in
set_option maxHeartbeats 4000000 in
theorem symA_any (B g N cap a m b : Nat) (xs : List (Int × Int)) (w : World) (hB : B ≤ w.heap.size) (hBg : B ≤ g) (hN : xs.length = N) (hN2 : N ≤ 4000000000000) (ham : m = a + 1) (hmb : m < b) (hb : b ≤ N)
    (hoB : Ordered m b xs) (ho : OwnS w B (.slice (some ⟨g, 0, none⟩) N cap) xs) :
    Calls Try.prog 86 #[.slice (some ⟨g, 0, none⟩) N cap, .int .i64 a, .int .i64 m, .int .i64 b, .func (.func 61) #[] #[]] w
      (InPlace w B g N cap (fun ys => Seg a b xs ys ∧ Ordered a b ys)) := by
  have HO := Lib.hid ho
  have HN := Lib.hid hN
  have HAM := Lib.hid ham
  have HOB := Lib.hid hoB
  clear ho hN hoB
  have i1 : (m : Int) - (a : Int) = 1 := by omega
  have i2 : (m : Int) < (b : Int) := by omega
  have i3 : (b : Int) ≤ 4000000000000 := by omega
  have i4 : (0 : Int) ≤ (a : Int) := by omega
  have i5 : (a : Int) < (m : Int) := by omega
  have i6 : (b : Int) ≤ (N : Int) := by omega
  clear ham
  go_enter Try.func86, Try.ntmps86
  go_wp2_with fail
  go_loopw [10, 11] (fun i j wr => SearchA w a m b xs i j wr) (fun i j _ => (intOf j).toNat - (intOf i).toNat)
  case atStart => exact ⟨m, b, rfl, rfl, by omega, by omega, by omega, Ext.refl _, fun p h1 h2 => by omega, fun p h1 h2 => by omega⟩
  case round =>
    obtain ⟨i, j, rfl, rfl, hmi, hij, hjb, hext, hlo, hhi⟩ := hrel
    have HLO := Lib.hid hlo
    have HHI := Lib.hid hhi
    have HW := Lib.hid (HO.out.ext hext)
    have HE := Lib.hid hext
    clear hlo hhi hext
    by_cases hlt : i < j
    · obtain ⟨h, hh⟩ : ∃ h, h = (i + j) / 2 := ⟨_, rfl⟩
      have k1 : (i : Int) ≤ (h : Int) := by omega
      have k2 : (h : Int) < (j : Int) := by omega
      have k3 : (i : Int) < (j : Int) := by omega
      have k4 : (m : Int) ≤ (i : Int) := by omega
      have k5 : (j : Int) ≤ (b : Int) := by omega
      have hm : ((i : Int) + (j : Int)) / 2 = (h : Int) := by omega
      have HH := Lib.hid hh
      clear hh
      go_wp2_with fail
      clear hm
      obtain ⟨W, rfl⟩ : ∃ W : World, W = wr := ⟨_, rfl⟩
      have hs0 : Ext W W := Ext.refl W
      obtain ⟨p1, p2, -, -⟩ := HW.out.at HN.out (show h < N by omega)
      obtain ⟨q1, q2, -, -⟩ := HW.out.at HN.out (show a < N by omega)
      generalize hgx : gt xs h = x at *
      generalize hgy : gt xs a = y at *
      have HX := Lib.hid (And.intro hgx hgy)
      obtain ⟨x1, x2⟩ := x
      obtain ⟨y1, y2⟩ := y
      have P1 := Lib.hid p1
      have P2 := Lib.hid p2
      have Q1 := Lib.hid q1
      have Q2 := Lib.hid q2
      clear hgx hgy p1 p2 q1 q2
      have c1 : ∀ w', Ext W w' → w'.cell? ⟨g, h * 2, none⟩ = some (.int .i64 x1) := fun w' h => h.cell P1.out
      have c2 : ∀ w', Ext W w' → w'.cell? ⟨g, h * 2 + 1, none⟩ = some (.int .i64 x2) := fun w' h => h.cell P2.out
      have c3 : ∀ w', Ext W w' → w'.cell? ⟨g, a * 2, none⟩ = some (.int .i64 y1) := fun w' h => h.cell Q1.out
      have c4 : ∀ w', Ext W w' → w'.cell? ⟨g, a * 2 + 1, none⟩ = some (.int .i64 y2) := fun w' h => h.cell Q2.out
      have k6 : (0 : Int) ≤ (h : Int) := by omega
      have k7 : (h : Int) < (N : Int) := by omega
      have k8 : (a : Int) < (N : Int) := by omega
      cases hle : leS (y1, y2) (x1, x2)
      · have hz : byZ (x1, x2) (y1, y2) < 0 := byZ_neg.2 hle
        go_region_held3 (fun w1 => Ext W w1) (first | (with_reducible assumption) | (exact Ext.drew (by with_reducible assumption)) | (with_reducible exact Ext.drew (Ext.alloc (by with_reducible assumption) _)) | (with_reducible exact Ext.alloc (by with_reducible assumption) _) | (exact Ext.trans (by with_reducible assumption) (by with_reducible assumption))) (first | (go_at_call 61; refine (by_any (x1, x2) (y1, y2) _).mono ?_; rintro e w1 ⟨rfl, hx⟩))
        go_wp2_with fail
        go_roundw
        case rel => exact ⟨h + 1, j, by go_num, rfl, by omega, by omega, by omega, HE.out.trans (by with_reducible assumption), fun p h1 h2 => by
          rcases Nat.lt_or_ge p h with h3 | h3
          · exact ltS_trans (y := gt xs h) (HOB.out p h h1 h3 (by omega)) (by rw [HX.out.1, HX.out.2]; exact hle)
          · obtain rfl : p = h := by omega
            rw [HX.out.1, HX.out.2]; exact hle, by rw [HX.out.2]; exact HHI.out⟩
        case measure => simp [intOf]; omega
      · have hz : ¬ byZ (x1, x2) (y1, y2) < 0 := fun h => by rw [byZ_neg.1 h] at hle; cases hle
        have hz1 : 0 ≤ byZ (x1, x2) (y1, y2) := by omega
        go_region_held3 (fun w1 => Ext W w1) (first | (with_reducible assumption) | (exact Ext.drew (by with_reducible assumption)) | (with_reducible exact Ext.drew (Ext.alloc (by with_reducible assumption) _)) | (with_reducible exact Ext.alloc (by with_reducible assumption) _) | (exact Ext.trans (by with_reducible assumption) (by with_reducible assumption))) (first | (go_at_call 61; refine (by_any (x1, x2) (y1, y2) _).mono ?_; rintro e w1 ⟨rfl, hx⟩))
        go_wp2_with fail
        go_roundw
        case rel => exact ⟨i, h, rfl, rfl, by omega, by omega, by omega, HE.out.trans (by with_reducible assumption), (by rw [HX.out.2]; exact HLO.out), fun p h1 h2 =>
          leS_trans _ _ _ (show leS (gt xs a) (gt xs h) = true by rw [HX.out.1, HX.out.2]; exact hle) (HOB.out.le (by omega) h1 h2)⟩
        case measure => simp [intOf]; omega
    · have k3 : (j : Int) ≤ (i : Int) := by omega
      obtain rfl : i = j := by omega
      go_wp2_with fail
      go_loopw [13] (fun k wr => SwapA w B g N cap a b i xs k wr) (fun k _ => i - (intOf k).toNat)
      case atStart => exact ⟨a, xs, rfl, by omega, by omega, Below.mono HE.out hB, HN.out, Seg.refl _ _ _, Rot.id2 xs, HW.out⟩
      case round =>
        clear HW HE HO
        obtain ⟨k, zs, rfl, hak, hki, hbel, hzl, hseg, hrot, hown⟩ := hrel
        have HW := Lib.hid hown
        have HBL := Lib.hid hbel
        have HY := Lib.hid hzl
        have HSG := Lib.hid hseg
        have HR := Lib.hid hrot
        clear hown hbel hzl hseg hrot
        have k4 : (i : Int) ≤ (b : Int) := by omega
        have k5 : (0 : Int) ≤ (k : Int) := by omega
        have k6 : (m : Int) ≤ (i : Int) := by omega
        by_cases hend : i = k + 1
        · have HEQ := Lib.hid hend
          have k7 : (i : Int) - 1 ≤ (k : Int) := by omega
          clear hend
          go_wp2_with fail
          go_end0
          refine ⟨rfl, HBL.out, zs, HY.out, ⟨HSG.out, ?_⟩, HW.out⟩
          have hr := HR.out
          rw [← HEQ.out] at hr
          have hm := HAM.out
          subst hm
          exact sym_first hr (by omega) (by omega) HOB.out HLO.out HHI.out
        have k7 : (k : Int) < (i : Int) - 1 := by omega
        obtain ⟨p1, p2, p3, p4⟩ := HW.out.at HY.out (show k < N by omega)
        obtain ⟨q1, q2, q3, q4⟩ := HW.out.at HY.out (show k + 1 < N by omega)
        generalize hgx : gt zs k = x at *
        generalize hgy : gt zs (k + 1) = y at *
        have HX := Lib.hid (And.intro hgx hgy)
        clear hgx hgy
        obtain ⟨x1, x2⟩ := x
        obtain ⟨y1, y2⟩ := y
        simp only at p1 p2 q1 q2
        have k8 : (k : Int) < (N : Int) := by omega
        have k9 : (k : Int) + 1 < (N : Int) := by omega
        have j0 : (N : Int) ≤ 4000000000000 := by omega
        have j1 : IntKind.i64.wrap ((k : Int) + 1) = (k : Int) + 1 := IntWalk.i64_in _ (by omega)
        have j2 : ¬ (k + 1) * 2 = k * 2 := by omega
        have j3 : ¬ k * 2 = (k + 1) * 2 := by omega
        have j4 : ¬ (k + 1) * 2 = k * 2 + 1 := by omega
        have j5 : ¬ k * 2 + 1 = (k + 1) * 2 := by omega
        have j6 : ¬ (k + 1) * 2 + 1 = k * 2 := by omega
        have j7 : ¬ k * 2 = (k + 1) * 2 + 1 := by omega
        have HR2 := Lib.hid (HR.out.up hak (by have := HY.out; omega))
        have HEND := Lib.hid hend
        clear hend
        go_wp2_with fail
        go_region
        go_wp2_with fail
        go_roundw
        case rel =>
          refine ⟨k + 1, swapL zs k (k + 1), by go_num, by omega, by have := HEND.out; omega, ((((HBL.out.drew).setCell hBg _).setCell hBg _).setCell hBg _).setCell hBg _, by rw [swapL_length]; exact HY.out, HSG.out.trans (Seg.swap (by have := HY.out; omega) ⟨by omega, by omega⟩ ⟨by omega, by omega⟩), HR2.out, ?_⟩
          have h1 := OwnS.store (w := wr.drew) HW.out HY.out k y1 y2
          have h2 := OwnS.store h1 (by simp [HY.out]) (k + 1) x1 x2
          rw [swapL, HX.out.1, HX.out.2]
          exact h2
        case measure => simp [intOf]; omega

def SearchB (w : World) (a m b : Nat) (xs : List (Int × Int)) (vi vj : Value) (wr : World) : Prop :=
  ∃ (i j : Nat), vi = .int .i64 i ∧ vj = .int .i64 j ∧ a ≤ i ∧ i ≤ j ∧ j ≤ m ∧ Ext w wr ∧ (∀ p, a ≤ p → p < i → leS (gt xs p) (gt xs m) = true) ∧ (∀ p, j ≤ p → p < m → leS (gt xs p) (gt xs m) = false)
def SwapB (w : World) (B g N cap a m b i : Nat) (xs : List (Int × Int)) (vk : Value) (wr : World) : Prop :=
  ∃ (k : Nat) (zs : List (Int × Int)), vk = .int .i64 k ∧ i ≤ k ∧ k ≤ m ∧ Below B w wr ∧ zs.length = N ∧ Seg a b xs zs ∧ Rot k m (m + 1) xs zs ∧ OwnS wr B (.slice (some ⟨g, 0, none⟩) N cap) zs

set_option maxRecDepth 100000 in
set_option maxHeartbeats 4000000 in
theorem symB_any (B g N cap a m b : Nat) (xs : List (Int × Int)) (w : World) (hB : B ≤ w.heap.size) (hBg : B ≤ g) (hN : xs.length = N) (hN2 : N ≤ 4000000000000) (ham : a + 1 < m) (hmb : b = m + 1) (hb : b ≤ N)
    (hoA : Ordered a m xs) (ho : OwnS w B (.slice (some ⟨g, 0, none⟩) N cap) xs) :
    Calls Try.prog 86 #[.slice (some ⟨g, 0, none⟩) N cap, .int .i64 a, .int .i64 m, .int .i64 b, .func (.func 61) #[] #[]] w
      (InPlace w B g N cap (fun ys => Seg a b xs ys ∧ Ordered a b ys)) := by
  have HO := Lib.hid ho
  have HN := Lib.hid hN
  have HMB := Lib.hid hmb
  have HOA := Lib.hid hoA
  clear ho hN hoA
  have i1 : ((m : Int) - (a : Int) == 1) = false := by simp; omega
  have i2 : (b : Int) - (m : Int) = 1 := by omega
  have i3 : (b : Int) ≤ 4000000000000 := by omega
  have i4 : (0 : Int) ≤ (a : Int) := by omega
  have i5 : (a : Int) < (m : Int) := by omega
  have i6 : (b : Int) ≤ (N : Int) := by omega
  have i7 : (m : Int) < (b : Int) := by omega
  have i8 : (m : Int) < (N : Int) := by omega
  clear hmb
  go_enter Try.func86, Try.ntmps86
  go_wp2_with fail
  go_loopw [14, 15] (fun i j wr => SearchB w a m b xs i j wr) (fun i j _ => (intOf j).toNat - (intOf i).toNat)
  case atStart => exact ⟨a, m, rfl, rfl, by omega, by omega, by omega, Ext.refl _, fun p h1 h2 => by omega, fun p h1 h2 => by omega⟩
  case round =>
    obtain ⟨i, j, rfl, rfl, hmi, hij, hjb, hext, hlo, hhi⟩ := hrel
    have HLO := Lib.hid hlo
    have HHI := Lib.hid hhi
    have HW := Lib.hid (HO.out.ext hext)
    have HE := Lib.hid hext
    clear hlo hhi hext
    by_cases hlt : i < j
    · obtain ⟨h, hh⟩ : ∃ h, h = (i + j) / 2 := ⟨_, rfl⟩
      have k1 : (i : Int) ≤ (h : Int) := by omega
      have k2 : (h : Int) < (j : Int) := by omega
      have k3 : (i : Int) < (j : Int) := by omega
      have k4 : (a : Int) ≤ (i : Int) := by omega
      have k5 : (j : Int) ≤ (m : Int) := by omega
      have hm : ((i : Int) + (j : Int)) / 2 = (h : Int) := by omega
      have HH := Lib.hid hh
      clear hh
      go_wp2_with fail
      clear hm
      obtain ⟨W, rfl⟩ : ∃ W : World, W = wr := ⟨_, rfl⟩
      have hs0 : Ext W W := Ext.refl W
      obtain ⟨p1, p2, -, -⟩ := HW.out.at HN.out (show m < N by omega)
      obtain ⟨q1, q2, -, -⟩ := HW.out.at HN.out (show h < N by omega)
      generalize hgx : gt xs m = x at *
      generalize hgy : gt xs h = y at *
      have HX := Lib.hid (And.intro hgx hgy)
      obtain ⟨x1, x2⟩ := x
      obtain ⟨y1, y2⟩ := y
      have P1 := Lib.hid p1
      have P2 := Lib.hid p2
      have Q1 := Lib.hid q1
      have Q2 := Lib.hid q2
      clear hgx hgy p1 p2 q1 q2
      have c1 : ∀ w', Ext W w' → w'.cell? ⟨g, m * 2, none⟩ = some (.int .i64 x1) := fun w' h => h.cell P1.out
      have c2 : ∀ w', Ext W w' → w'.cell? ⟨g, m * 2 + 1, none⟩ = some (.int .i64 x2) := fun w' h => h.cell P2.out
      have c3 : ∀ w', Ext W w' → w'.cell? ⟨g, h * 2, none⟩ = some (.int .i64 y1) := fun w' h => h.cell Q1.out
      have c4 : ∀ w', Ext W w' → w'.cell? ⟨g, h * 2 + 1, none⟩ = some (.int .i64 y2) := fun w' h => h.cell Q2.out
      have k6 : (0 : Int) ≤ (h : Int) := by omega
      have k7 : (h : Int) < (N : Int) := by omega
      have k8 : (0 : Int) ≤ (m : Int) := by omega
      cases hle : leS (y1, y2) (x1, x2)
      · have hz : byZ (x1, x2) (y1, y2) < 0 := byZ_neg.2 hle
        go_region_held3 (fun w1 => Ext W w1) (first | (with_reducible assumption) | (exact Ext.drew (by with_reducible assumption)) | (with_reducible exact Ext.drew (Ext.alloc (by with_reducible assumption) _)) | (with_reducible exact Ext.alloc (by with_reducible assumption) _) | (exact Ext.trans (by with_reducible assumption) (by with_reducible assumption))) (first | (go_at_call 61; refine (by_any (x1, x2) (y1, y2) _).mono ?_; rintro e w1 ⟨rfl, hx⟩))
        go_wp2_with fail
        go_roundw
        case rel => exact ⟨i, h, rfl, rfl, by omega, by omega, by omega, HE.out.trans (by with_reducible assumption), (by rw [HX.out.1]; exact HLO.out), fun p h1 h2 =>
          ltS_trans2 (y := gt xs h) (by rw [HX.out.1, HX.out.2]; exact hle) (HOA.out.le (by omega) h1 h2)⟩
        case measure => simp [intOf]; omega
      · have hz : ¬ byZ (x1, x2) (y1, y2) < 0 := fun h => by rw [byZ_neg.1 h] at hle; cases hle
        have hz1 : 0 ≤ byZ (x1, x2) (y1, y2) := by omega
        have hz2 : decide (byZ (x1, x2) (y1, y2) < 0) = false := by simp; omega
        clear hz
        go_region_held3 (fun w1 => Ext W w1) (first | (with_reducible assumption) | (exact Ext.drew (by with_reducible assumption)) | (with_reducible exact Ext.drew (Ext.alloc (by with_reducible assumption) _)) | (with_reducible exact Ext.alloc (by with_reducible assumption) _) | (exact Ext.trans (by with_reducible assumption) (by with_reducible assumption))) (first | (go_at_call 61; refine (by_any (x1, x2) (y1, y2) _).mono ?_; rintro e w1 ⟨rfl, hx⟩))
        go_wp2_with fail
        go_roundw
        case rel => exact ⟨h + 1, j, by go_num, rfl, by omega, by omega, by omega, HE.out.trans (by with_reducible assumption), fun p h1 h2 =>
          leS_trans _ _ _ (HOA.out.le h1 (by omega : p ≤ h) (by omega)) (show leS (gt xs h) (gt xs m) = true by rw [HX.out.1, HX.out.2]; exact hle), by rw [HX.out.1]; exact HHI.out⟩
        case measure => simp [intOf]; omega
    · have k3 : (j : Int) ≤ (i : Int) := by omega
      obtain rfl : i = j := by omega
      go_wp2_with fail
      go_loopw [17] (fun k wr => SwapB w B g N cap a m b i xs k wr) (fun k _ => (intOf k).toNat)
      case atStart => exact ⟨m, xs, rfl, by omega, by omega, Below.mono HE.out hB, HN.out, Seg.refl _ _ _, Rot.id1 xs, HW.out⟩
      case round =>
        clear HW HE HO
        obtain ⟨k, zs, rfl, hki, hkm, hbel, hzl, hseg, hrot, hown⟩ := hrel
        have HW := Lib.hid hown
        have HBL := Lib.hid hbel
        have HY := Lib.hid hzl
        have HSG := Lib.hid hseg
        have HR := Lib.hid hrot
        clear hown hbel hzl hseg hrot
        have k4 : (a : Int) ≤ (i : Int) := by omega
        have k5 : (0 : Int) ≤ (i : Int) := by omega
        have k6 : (k : Int) ≤ (m : Int) := by omega
        by_cases hend : k = i
        · subst hend
          go_wp2_with fail
          go_end0
          refine ⟨rfl, HBL.out, zs, HY.out, ⟨HSG.out, ?_⟩, HW.out⟩
          have hm := HMB.out
          subst hm
          exact sym_last HR.out (by omega) (by omega) HOA.out HLO.out HHI.out
        obtain ⟨n, rfl⟩ : ∃ n, k = n + 1 := ⟨k - 1, by omega⟩
        have hcast : ((n + 1 : Nat) : Int) = (n : Int) + 1 := by omega
        rw [hcast]
        rw [hcast] at k6
        have k7 : (i : Int) < (n : Int) + 1 := by omega
        clear hcast
        obtain ⟨p1, p2, p3, p4⟩ := HW.out.at HY.out (show n + 1 < N by omega)
        obtain ⟨q1, q2, q3, q4⟩ := HW.out.at HY.out (show n < N by omega)
        generalize hgx : gt zs (n + 1) = x at *
        generalize hgy : gt zs n = y at *
        have HX := Lib.hid (And.intro hgx hgy)
        clear hgx hgy
        obtain ⟨x1, x2⟩ := x
        obtain ⟨y1, y2⟩ := y
        simp only at p1 p2 q1 q2
        have k8 : (n : Int) < (N : Int) := by omega
        have k9 : (n : Int) + 1 < (N : Int) := by omega
        have j0 : (N : Int) ≤ 4000000000000 := by omega
        have j8 : (0 : Int) ≤ (n : Int) := by omega
        have j1 : IntKind.i64.wrap ((n : Int) + 1 - 1) = (n : Int) := by rw [show (n : Int) + 1 - 1 = n by omega]; exact IntWalk.i64_in _ (by omega)
        have j9 : IntKind.i64.wrap (n : Int) = (n : Int) := IntWalk.i64_in _ (by omega)
        have j2 : ¬ (n + 1) * 2 = n * 2 := by omega
        have j3 : ¬ n * 2 = (n + 1) * 2 := by omega
        have j4 : ¬ (n + 1) * 2 = n * 2 + 1 := by omega
        have j5 : ¬ n * 2 + 1 = (n + 1) * 2 := by omega
        have j6 : ¬ (n + 1) * 2 + 1 = n * 2 := by omega
        have j7 : ¬ n * 2 = (n + 1) * 2 + 1 := by omega
        have HR2 := Lib.hid (HR.out.down (by omega) (by have := HY.out; omega))
        have HEND := Lib.hid hend
        clear hend
        go_wp2_with fail
        go_region
        go_wp2_with fail
        go_roundw
        case rel =>
          refine ⟨n, swapL zs (n + 1) n, by go_num, by have := HEND.out; omega, by omega, ((((HBL.out.drew).setCell hBg _).setCell hBg _).setCell hBg _).setCell hBg _, by rw [swapL_length]; exact HY.out, HSG.out.trans (Seg.swap (by have := HY.out; omega) ⟨by omega, by omega⟩ ⟨by omega, by omega⟩), HR2.out, ?_⟩
          have h1 := OwnS.store (w := wr.drew) HW.out HY.out (n + 1) y1 y2
          have h2 := OwnS.store h1 (by simp [HY.out]) n x1 x2
          rw [swapL, HX.out.1, HX.out.2]
          exact h2
        case measure => simp [intOf]
end Go.Proofs.Ytllcekmbcmhckaa
