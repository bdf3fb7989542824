/- The walk of slices' symMergeCmpFunc, at spans and span.by: the general way. Printed by mksortf.py. -/
import Derived.Test.YtllcekmbcmhckaaSortE
set_option linter.unusedSimpArgs false
set_option linter.unusedVariables false
namespace Go.Proofs.Ytllcekmbcmhckaa
open Go.RowKit

def SearchC (w : World) (s0 r0 p : Nat) (xs : List (Int × Int)) (vi vj : Value) (wr : World) : Prop :=
  ∃ (i j : Nat), vi = .int .i64 i ∧ vj = .int .i64 j ∧ s0 ≤ i ∧ i ≤ j ∧ j ≤ r0 ∧ Ext w wr ∧ (∀ c, s0 ≤ c → c < i → leS (gt xs c) (gt xs (p - c)) = true) ∧ (∀ c, j ≤ c → c < r0 → leS (gt xs c) (gt xs (p - c)) = false)
theorem Rot.same {s m e : Nat} (h : s = m ∨ e = m) (xs : List (Int × Int)) : Rot s m e xs xs := by
  rcases h with h | h
  · subst h; exact Rot.id1 xs
  · subst h; exact Rot.id2 xs
/-- symMerge at rows shorter than K. -/
def SymLess (B g N cap K : Nat) : Prop := ∀ (a m b : Nat) (xs : List (Int × Int)) (w : World), b - a < K → B ≤ w.heap.size → xs.length = N → a < m → m < b → b ≤ N → Ordered a m xs → Ordered m b xs →
    OwnS w B (.slice (some ⟨g, 0, none⟩) N cap) xs →
    Calls Try.prog 86 #[.slice (some ⟨g, 0, none⟩) N cap, .int .i64 a, .int .i64 m, .int .i64 b, .func (.func 61) #[] #[]] w
      (InPlace w B g N cap (fun ys => Seg a b xs ys ∧ Ordered a b ys))

set_option maxRecDepth 100000 in
set_option maxHeartbeats 8000000 in
theorem symC1_any (B g N cap a m b mid : Nat) (xs : List (Int × Int)) (w : World) (hB : B ≤ w.heap.size) (hBg : B ≤ g) (hN : xs.length = N) (hN2 : N ≤ 4000000000000) (ham : a + 1 < m) (hmb : m + 1 < b) (hb : b ≤ N)
    (hmid : mid = (a + b) / 2) (hc : mid < m) (hoA : Ordered a m xs) (hoB : Ordered m b xs) (IH : SymLess B g N cap (b - a)) (ho : OwnS w B (.slice (some ⟨g, 0, none⟩) N cap) xs) :
    Calls Try.prog 86 #[.slice (some ⟨g, 0, none⟩) N cap, .int .i64 a, .int .i64 m, .int .i64 b, .func (.func 61) #[] #[]] w
      (InPlace w B g N cap (fun ys => Seg a b xs ys ∧ Ordered a b ys)) := by
  have HO := Lib.hid ho
  have HN := Lib.hid hN
  have HI := Lib.hid IH
  have HOA := Lib.hid hoA
  have HOB := Lib.hid hoB
  clear ho hN hoB hoA IH
  obtain ⟨n, hn⟩ : ∃ n, n = mid + m := ⟨_, rfl⟩
  obtain ⟨p, hp⟩ : ∃ p, n = p + 1 := ⟨n - 1, by omega⟩
  obtain ⟨s0, hs⟩ : ∃ s0, s0 = n - b := ⟨_, rfl⟩
  obtain ⟨r0, hr⟩ : ∃ r0, r0 = mid := ⟨_, rfl⟩
  have b0 : a ≤ s0 := by omega
  have b1 : r0 ≤ m := by omega
  have b2 : m + r0 ≤ n := by omega
  have b3 : n ≤ b + s0 := by omega
  have b4 : s0 ≤ r0 := by omega
  have i1 : ((m : Int) - (a : Int) == 1) = false := by simp; omega
  have i2 : ((b : Int) - (m : Int) == 1) = false := by simp; omega
  have i3 : (b : Int) ≤ 4000000000000 := by omega
  have i4 : (0 : Int) ≤ (a : Int) := by omega
  have i5 : (a : Int) < (m : Int) := by omega
  have i6 : (b : Int) ≤ (N : Int) := by omega
  have i7 : (m : Int) < (b : Int) := by omega
  have i8 : ((a : Int) + (b : Int)) / 2 = (mid : Int) := by omega
  have i9 : (mid : Int) + (m : Int) = (n : Int) := by omega
  have m1 : (a : Int) < (mid : Int) := by omega
  have m2 : (mid : Int) < (b : Int) := by omega
  have l2 : (n : Int) - 1 = (p : Int) := by omega
  have l0 : (mid : Int) < (m : Int) := by omega
  have l1 : (n : Int) - (b : Int) = (s0 : Int) := by omega
  have hSZ := Lib.hid (And.intro hs hr)
  clear hs hr hn hp hmid
  have hrm : r0 = mid := hSZ.out.2
  subst hrm
  go_enter Try.func86, Try.ntmps86
  go_wp2_with fail
  go_loopw [20, 21] (fun i j wr => SearchC w s0 r0 p xs i j wr) (fun i j _ => (intOf j).toNat - (intOf i).toNat)
  case atStart => exact ⟨s0, r0, rfl, rfl, by omega, by omega, by omega, Ext.refl _, fun p h1 h2 => by omega, fun p h1 h2 => by omega⟩
  case round =>
    obtain ⟨i, j, rfl, rfl, hmi, hij, hjb, hext, hlo, hhi⟩ := hrel
    have HLO := Lib.hid hlo
    have HHI := Lib.hid hhi
    have HW := Lib.hid (HO.out.ext hext)
    have HE := Lib.hid hext
    clear hlo hhi hext
    by_cases hlt : i < j
    · obtain ⟨h, hh⟩ : ∃ h, h = (i + j) / 2 := ⟨_, rfl⟩
      obtain ⟨q, hq⟩ : ∃ q, p = q + h := ⟨p - h, by omega⟩
      have k1 : (i : Int) ≤ (h : Int) := by omega
      have k2 : (h : Int) < (j : Int) := by omega
      have k3 : (i : Int) < (j : Int) := by omega
      have k4 : (s0 : Int) ≤ (i : Int) := by omega
      have k5 : (j : Int) ≤ (r0 : Int) := by omega
      have hm : ((i : Int) + (j : Int)) / 2 = (h : Int) := by omega
      have hpq : (p : Int) - (h : Int) = (q : Int) := by omega
      have hqN : q < N := by omega
      have hhN : h < N := by omega
      have HH := Lib.hid hh
      have HQ := Lib.hid hq
      clear hh hq
      go_wp2_with fail
      clear hm
      obtain ⟨W, rfl⟩ : ∃ W : World, W = wr := ⟨_, rfl⟩
      have hs0 : Ext W W := Ext.refl W
      obtain ⟨p1, p2, -, -⟩ := HW.out.at HN.out hqN
      obtain ⟨q1, q2, -, -⟩ := HW.out.at HN.out hhN
      obtain ⟨x, hgx⟩ : ∃ x, gt xs q = x := ⟨_, rfl⟩
      obtain ⟨y, hgy⟩ : ∃ y, gt xs h = y := ⟨_, rfl⟩
      rw [hgx] at p1 p2
      rw [hgy] at q1 q2
      have HX := Lib.hid (And.intro hgx hgy)
      clear hgx hgy
      obtain ⟨x1, x2⟩ := x
      obtain ⟨y1, y2⟩ := y
      simp only at p1 p2 q1 q2
      have P1 := Lib.hid p1
      have P2 := Lib.hid p2
      have Q1 := Lib.hid q1
      have Q2 := Lib.hid q2
      clear p1 p2 q1 q2
      have c1 : ∀ w', Ext W w' → w'.cell? ⟨g, q * 2, none⟩ = some (.int .i64 x1) := fun w' h => h.cell P1.out
      have c2 : ∀ w', Ext W w' → w'.cell? ⟨g, q * 2 + 1, none⟩ = some (.int .i64 x2) := fun w' h => h.cell P2.out
      have c3 : ∀ w', Ext W w' → w'.cell? ⟨g, h * 2, none⟩ = some (.int .i64 y1) := fun w' h => h.cell Q1.out
      have c4 : ∀ w', Ext W w' → w'.cell? ⟨g, h * 2 + 1, none⟩ = some (.int .i64 y2) := fun w' h => h.cell Q2.out
      have k6 : (0 : Int) ≤ (h : Int) := by omega
      have k7 : (h : Int) < (N : Int) := by omega
      have k8 : (0 : Int) ≤ (q : Int) := by omega
      have k9 : (q : Int) < (N : Int) := by omega
      have j1 : IntKind.i64.wrap (q : Int) = (q : Int) := IntWalk.i64_in _ (by omega)
      cases hle : leS (y1, y2) (x1, x2)
      · have hz : byZ (x1, x2) (y1, y2) < 0 := byZ_neg.2 hle
        go_region_held3 (fun w1 => Ext W w1) (first | (with_reducible assumption) | (exact Ext.drew (by with_reducible assumption)) | (with_reducible exact Ext.drew (Ext.alloc (by with_reducible assumption) _)) | (with_reducible exact Ext.alloc (by with_reducible assumption) _) | (exact Ext.trans (by with_reducible assumption) (by with_reducible assumption))) (first | (go_at_call 61; refine (by_any (x1, x2) (y1, y2) _).mono ?_; rintro e w1 ⟨rfl, hx⟩))
        go_wp2_with fail
        go_roundw
        case rel =>
          have e1 := HQ.out
          exact ⟨i, h, rfl, rfl, by omega, by omega, by omega, HE.out.trans (by with_reducible assumption), HLO.out, fun c h1 h2 =>
            ltS_trans2 (y := gt xs h) (ltS_trans (y := gt xs q) (HOB.out.le (by omega : m ≤ p - c) (by omega : p - c ≤ q) (by omega)) (by rw [HX.out.1, HX.out.2]; exact hle)) (HOA.out.le (by omega) h1 (by omega))⟩
        case measure => simp [intOf]; omega
      · have hz1 : 0 ≤ byZ (x1, x2) (y1, y2) := by
          by_cases hz : byZ (x1, x2) (y1, y2) < 0
          · rw [byZ_neg.1 hz] at hle; cases hle
          · omega
        have hz2 : decide (byZ (x1, x2) (y1, y2) < 0) = false := by simp; omega
        go_region_held3 (fun w1 => Ext W w1) (first | (with_reducible assumption) | (exact Ext.drew (by with_reducible assumption)) | (with_reducible exact Ext.drew (Ext.alloc (by with_reducible assumption) _)) | (with_reducible exact Ext.alloc (by with_reducible assumption) _) | (exact Ext.trans (by with_reducible assumption) (by with_reducible assumption))) (first | (go_at_call 61; refine (by_any (x1, x2) (y1, y2) _).mono ?_; rintro e w1 ⟨rfl, hx⟩))
        go_wp2_with fail
        go_roundw
        case rel =>
          have e1 := HQ.out
          exact ⟨h + 1, j, by go_num, rfl, by omega, by omega, by omega, HE.out.trans (by with_reducible assumption), fun c h1 h2 =>
            leS_trans _ _ _ (HOA.out.le (by omega : a ≤ c) (by omega : c ≤ h) (by omega)) (leS_trans _ _ _ (show leS (gt xs h) (gt xs q) = true by rw [HX.out.1, HX.out.2]; exact hle) (HOB.out.le (by omega) (by omega) (by omega))), HHI.out⟩
        case measure => simp [intOf]; omega
    · have k3 : (j : Int) ≤ (i : Int) := by omega
      obtain rfl : i = j := by omega
      obtain ⟨s, hsi⟩ : ∃ s, s = i := ⟨_, rfl⟩
      subst hsi
      obtain ⟨e, he⟩ : ∃ e, n = e + s := ⟨n - s, by omega⟩
      have k4 : (n : Int) - (s : Int) = (e : Int) := by omega
      have HSP := Lib.hid (fun (zs : List (Int × Int)) (h : Rot s m e xs zs) => sym_split (d := r0) h (by omega : a ≤ s) (by omega) (by omega) (by omega : e ≤ b) (by omega) HOA.out HOB.out
        (fun h1 h2 => by have h := HLO.out (s - 1) (by have := hSZ.out.1; omega) (by omega); rwa [show p - (s - 1) = e by omega] at h)
        (fun h1 h2 => by have h := HHI.out s (by omega) (by omega); rw [show p - s = e - 1 by omega] at h; exact leS_of_lt h))
      clear HO HLO HHI hlt
      by_cases hX : s < r0
      · by_cases hY : a < s
        · by_cases hZ : e < b
          · have f1 : (s : Int) < (m : Int) := by omega
            have f2 : (m : Int) < (e : Int) := by omega
            have f3 : (a : Int) < (s : Int) := by omega
            have f4 : (s : Int) < (r0 : Int) := by omega
            have f5 : (r0 : Int) < (e : Int) := by omega
            have f6 : (e : Int) < (b : Int) := by omega
            go_wp2_with fail
            refine (rotate_any B g N cap s m e xs _ hBg HN.out hN2 (by omega) (by omega) (by omega) HW.out).mono ?_
            rintro e1 w1 ⟨rfl, hb1, zs, hyl, ⟨hsg, hrt⟩, ho1⟩
            have SP := Lib.hid (HSP.out zs hrt)
            have SG := Lib.hid (hsg.mono (by omega : a ≤ s) (by omega : e ≤ b))
            have HL := Lib.hid hyl
            have HO1 := Lib.hid ho1
            have BE := Lib.hid ((Below.mono HE.out hB).trans hb1)
            clear hb1 hyl hsg hrt ho1
            have hsz : B ≤ w1.heap.size := by have := BE.out.size; omega
            go_wp2_with fail
            refine (HI.out a s r0 _ _ (by omega) hsz HL.out (by omega) (by omega) (by omega) SP.out.o1 SP.out.o2 HO1.out).mono ?_
            rintro e1 w2 ⟨rfl, hb1, ls, hyl, ⟨hsg, hod⟩, ho1⟩
            have LS := Lib.hid hsg
            have LO := Lib.hid hod
            have HL2 := Lib.hid hyl
            have HO2 := Lib.hid ho1
            have BE2 := Lib.hid (BE.out.trans hb1)
            clear hb1 hyl hsg hod ho1 hsz
            have hsz : B ≤ w2.heap.size := by have := BE2.out.size; omega
            go_wp2_with fail
            refine (HI.out r0 e b _ _ (by omega) hsz HL2.out (by omega) (by omega) (by omega) (SP.out.o3.congr fun i h1 h2 => LS.out.out i (by omega)) (SP.out.o4.congr fun i h1 h2 => LS.out.out i (by omega)) HO2.out).mono ?_
            rintro e1 w3 ⟨rfl, hb1, rs, hyl, ⟨hsg, hod⟩, ho1⟩
            have RS := Lib.hid hsg
            have RO := Lib.hid hod
            have HL3 := Lib.hid hyl
            have HO3 := Lib.hid ho1
            have BE3 := Lib.hid (BE2.out.trans hb1)
            clear hb1 hyl hsg hod ho1 hsz
            go_wp2_with fail
            go_end0
            have hd := SP.out.done (by omega) (by omega) (by omega) (by omega) LS.out LO.out RS.out RO.out
            exact ⟨rfl, BE3.out, _, HL3.out, ⟨SG.out.trans hd.1, hd.2⟩, HO3.out⟩
          · have f1 : (s : Int) < (m : Int) := by omega
            have f2 : (m : Int) < (e : Int) := by omega
            have f3 : (a : Int) < (s : Int) := by omega
            have f4 : (s : Int) < (r0 : Int) := by omega
            have f5 : (r0 : Int) < (e : Int) := by omega
            have f6 : decide (e < b) = false := by simp; omega
            have g6 : (b : Int) ≤ (e : Int) := by omega
            go_wp2_with fail
            refine (rotate_any B g N cap s m e xs _ hBg HN.out hN2 (by omega) (by omega) (by omega) HW.out).mono ?_
            rintro e1 w1 ⟨rfl, hb1, zs, hyl, ⟨hsg, hrt⟩, ho1⟩
            have SP := Lib.hid (HSP.out zs hrt)
            have SG := Lib.hid (hsg.mono (by omega : a ≤ s) (by omega : e ≤ b))
            have HL := Lib.hid hyl
            have HO1 := Lib.hid ho1
            have BE := Lib.hid ((Below.mono HE.out hB).trans hb1)
            clear hb1 hyl hsg hrt ho1
            have hsz : B ≤ w1.heap.size := by have := BE.out.size; omega
            go_wp2_with fail
            refine (HI.out a s r0 _ _ (by omega) hsz HL.out (by omega) (by omega) (by omega) SP.out.o1 SP.out.o2 HO1.out).mono ?_
            rintro e1 w2 ⟨rfl, hb1, ls, hyl, ⟨hsg, hod⟩, ho1⟩
            have LS := Lib.hid hsg
            have LO := Lib.hid hod
            have HL2 := Lib.hid hyl
            have HO2 := Lib.hid ho1
            have BE2 := Lib.hid (BE.out.trans hb1)
            clear hb1 hyl hsg hod ho1 hsz
            have hsz : B ≤ w2.heap.size := by have := BE2.out.size; omega
            go_wp2_with fail
            have RS := Lib.hid (Seg.refl r0 b ls)
            have RO := Lib.hid (show Ordered r0 b ls by first | exact (SP.out.o4.sub (by omega) (by omega)).congr fun i h1 h2 => LS.out.out i (by omega) | exact (SP.out.o3.sub (by omega) (by omega)).congr fun i h1 h2 => LS.out.out i (by omega))
            have HL3 := HL2
            have HO3 := HO2
            have BE3 := BE2
            go_end0
            have hd := SP.out.done (by omega) (by omega) (by omega) (by omega) LS.out LO.out RS.out RO.out
            exact ⟨rfl, BE3.out, _, HL3.out, ⟨SG.out.trans hd.1, hd.2⟩, HO3.out⟩
        · by_cases hZ : e < b
          · have f1 : (s : Int) < (m : Int) := by omega
            have f2 : (m : Int) < (e : Int) := by omega
            have f3 : decide (a < s) = false := by simp; omega
            have g3 : (s : Int) ≤ (a : Int) := by omega
            have f4 : (s : Int) < (r0 : Int) := by omega
            have f5 : (r0 : Int) < (e : Int) := by omega
            have f6 : (e : Int) < (b : Int) := by omega
            go_wp2_with fail
            refine (rotate_any B g N cap s m e xs _ hBg HN.out hN2 (by omega) (by omega) (by omega) HW.out).mono ?_
            rintro e1 w1 ⟨rfl, hb1, zs, hyl, ⟨hsg, hrt⟩, ho1⟩
            have SP := Lib.hid (HSP.out zs hrt)
            have SG := Lib.hid (hsg.mono (by omega : a ≤ s) (by omega : e ≤ b))
            have HL := Lib.hid hyl
            have HO1 := Lib.hid ho1
            have BE := Lib.hid ((Below.mono HE.out hB).trans hb1)
            clear hb1 hyl hsg hrt ho1
            have hsz : B ≤ w1.heap.size := by have := BE.out.size; omega
            go_wp2_with fail
            have LS := Lib.hid (Seg.refl a r0 zs)
            have LO := Lib.hid (show Ordered a r0 _ by first | exact SP.out.o2.sub (by omega) (by omega) | exact SP.out.o1.sub (by omega) (by omega))
            have HL2 := HL
            have HO2 := HO1
            have BE2 := BE
            refine (HI.out r0 e b _ _ (by omega) hsz HL2.out (by omega) (by omega) (by omega) (SP.out.o3.congr fun i h1 h2 => LS.out.out i (by omega)) (SP.out.o4.congr fun i h1 h2 => LS.out.out i (by omega)) HO2.out).mono ?_
            rintro e1 w3 ⟨rfl, hb1, rs, hyl, ⟨hsg, hod⟩, ho1⟩
            have RS := Lib.hid hsg
            have RO := Lib.hid hod
            have HL3 := Lib.hid hyl
            have HO3 := Lib.hid ho1
            have BE3 := Lib.hid (BE2.out.trans hb1)
            clear hb1 hyl hsg hod ho1 hsz
            go_wp2_with fail
            go_end0
            have hd := SP.out.done (by omega) (by omega) (by omega) (by omega) LS.out LO.out RS.out RO.out
            exact ⟨rfl, BE3.out, _, HL3.out, ⟨SG.out.trans hd.1, hd.2⟩, HO3.out⟩
          · have f1 : (s : Int) < (m : Int) := by omega
            have f2 : (m : Int) < (e : Int) := by omega
            have f3 : decide (a < s) = false := by simp; omega
            have g3 : (s : Int) ≤ (a : Int) := by omega
            have f4 : (s : Int) < (r0 : Int) := by omega
            have f5 : (r0 : Int) < (e : Int) := by omega
            have f6 : decide (e < b) = false := by simp; omega
            have g6 : (b : Int) ≤ (e : Int) := by omega
            go_wp2_with fail
            refine (rotate_any B g N cap s m e xs _ hBg HN.out hN2 (by omega) (by omega) (by omega) HW.out).mono ?_
            rintro e1 w1 ⟨rfl, hb1, zs, hyl, ⟨hsg, hrt⟩, ho1⟩
            have SP := Lib.hid (HSP.out zs hrt)
            have SG := Lib.hid (hsg.mono (by omega : a ≤ s) (by omega : e ≤ b))
            have HL := Lib.hid hyl
            have HO1 := Lib.hid ho1
            have BE := Lib.hid ((Below.mono HE.out hB).trans hb1)
            clear hb1 hyl hsg hrt ho1
            have hsz : B ≤ w1.heap.size := by have := BE.out.size; omega
            go_wp2_with fail
            have LS := Lib.hid (Seg.refl a r0 zs)
            have LO := Lib.hid (show Ordered a r0 _ by first | exact SP.out.o2.sub (by omega) (by omega) | exact SP.out.o1.sub (by omega) (by omega))
            have HL2 := HL
            have HO2 := HO1
            have BE2 := BE
            have RS := Lib.hid (Seg.refl r0 b zs)
            have RO := Lib.hid (show Ordered r0 b zs by first | exact (SP.out.o4.sub (by omega) (by omega)).congr fun i h1 h2 => LS.out.out i (by omega) | exact (SP.out.o3.sub (by omega) (by omega)).congr fun i h1 h2 => LS.out.out i (by omega))
            have HL3 := HL2
            have HO3 := HO2
            have BE3 := BE2
            go_end0
            have hd := SP.out.done (by omega) (by omega) (by omega) (by omega) LS.out LO.out RS.out RO.out
            exact ⟨rfl, BE3.out, _, HL3.out, ⟨SG.out.trans hd.1, hd.2⟩, HO3.out⟩
      · by_cases hZ : e < b
        · have f1 : (s : Int) < (m : Int) := by omega
          have f2 : decide (m < e) = false := by simp; omega
          have g2 : (e : Int) ≤ (m : Int) := by omega
          have f3 : (a : Int) < (s : Int) := by omega
          have f4 : decide (s < r0) = false := by simp; omega
          have g4 : (r0 : Int) ≤ (s : Int) := by omega
          have f5 : (r0 : Int) < (e : Int) := by omega
          have f6 : (e : Int) < (b : Int) := by omega
          go_wp2_with fail
          have SP := Lib.hid (HSP.out xs (Rot.same (by omega) xs))
          have SG := Lib.hid (Seg.refl a b xs)
          have HL := HN
          have HO1 := HW
          have BE := Lib.hid (Below.mono HE.out hB)
          have hsz : B ≤ wr.heap.size := by have := BE.out.size; omega
          have LS := Lib.hid (Seg.refl a r0 xs)
          have LO := Lib.hid (show Ordered a r0 _ by first | exact SP.out.o2.sub (by omega) (by omega) | exact SP.out.o1.sub (by omega) (by omega))
          have HL2 := HL
          have HO2 := HO1
          have BE2 := BE
          refine (HI.out r0 e b _ _ (by omega) hsz HL2.out (by omega) (by omega) (by omega) (SP.out.o3.congr fun i h1 h2 => LS.out.out i (by omega)) (SP.out.o4.congr fun i h1 h2 => LS.out.out i (by omega)) HO2.out).mono ?_
          rintro e1 w3 ⟨rfl, hb1, rs, hyl, ⟨hsg, hod⟩, ho1⟩
          have RS := Lib.hid hsg
          have RO := Lib.hid hod
          have HL3 := Lib.hid hyl
          have HO3 := Lib.hid ho1
          have BE3 := Lib.hid (BE2.out.trans hb1)
          clear hb1 hyl hsg hod ho1 hsz
          go_wp2_with fail
          go_end0
          have hd := SP.out.done (by omega) (by omega) (by omega) (by omega) LS.out LO.out RS.out RO.out
          exact ⟨rfl, BE3.out, _, HL3.out, ⟨SG.out.trans hd.1, hd.2⟩, HO3.out⟩
        · have f1 : (s : Int) < (m : Int) := by omega
          have f2 : decide (m < e) = false := by simp; omega
          have g2 : (e : Int) ≤ (m : Int) := by omega
          have f3 : (a : Int) < (s : Int) := by omega
          have f4 : decide (s < r0) = false := by simp; omega
          have g4 : (r0 : Int) ≤ (s : Int) := by omega
          have f5 : (r0 : Int) < (e : Int) := by omega
          have f6 : decide (e < b) = false := by simp; omega
          have g6 : (b : Int) ≤ (e : Int) := by omega
          go_wp2_with fail
          have SP := Lib.hid (HSP.out xs (Rot.same (by omega) xs))
          have SG := Lib.hid (Seg.refl a b xs)
          have HL := HN
          have HO1 := HW
          have BE := Lib.hid (Below.mono HE.out hB)
          have hsz : B ≤ wr.heap.size := by have := BE.out.size; omega
          have LS := Lib.hid (Seg.refl a r0 xs)
          have LO := Lib.hid (show Ordered a r0 _ by first | exact SP.out.o2.sub (by omega) (by omega) | exact SP.out.o1.sub (by omega) (by omega))
          have HL2 := HL
          have HO2 := HO1
          have BE2 := BE
          have RS := Lib.hid (Seg.refl r0 b xs)
          have RO := Lib.hid (show Ordered r0 b xs by first | exact (SP.out.o4.sub (by omega) (by omega)).congr fun i h1 h2 => LS.out.out i (by omega) | exact (SP.out.o3.sub (by omega) (by omega)).congr fun i h1 h2 => LS.out.out i (by omega))
          have HL3 := HL2
          have HO3 := HO2
          have BE3 := BE2
          go_end0
          have hd := SP.out.done (by omega) (by omega) (by omega) (by omega) LS.out LO.out RS.out RO.out
          exact ⟨rfl, BE3.out, _, HL3.out, ⟨SG.out.trans hd.1, hd.2⟩, HO3.out⟩

set_option maxRecDepth 100000 in
set_option maxHeartbeats 8000000 in
theorem symC2_any (B g N cap a m b mid : Nat) (xs : List (Int × Int)) (w : World) (hB : B ≤ w.heap.size) (hBg : B ≤ g) (hN : xs.length = N) (hN2 : N ≤ 4000000000000) (ham : a + 1 < m) (hmb : m + 1 < b) (hb : b ≤ N)
    (hmid : mid = (a + b) / 2) (hc : m ≤ mid) (hoA : Ordered a m xs) (hoB : Ordered m b xs) (IH : SymLess B g N cap (b - a)) (ho : OwnS w B (.slice (some ⟨g, 0, none⟩) N cap) xs) :
    Calls Try.prog 86 #[.slice (some ⟨g, 0, none⟩) N cap, .int .i64 a, .int .i64 m, .int .i64 b, .func (.func 61) #[] #[]] w
      (InPlace w B g N cap (fun ys => Seg a b xs ys ∧ Ordered a b ys)) := by
  have HO := Lib.hid ho
  have HN := Lib.hid hN
  have HI := Lib.hid IH
  have HOA := Lib.hid hoA
  have HOB := Lib.hid hoB
  clear ho hN hoB hoA IH
  obtain ⟨n, hn⟩ : ∃ n, n = mid + m := ⟨_, rfl⟩
  obtain ⟨p, hp⟩ : ∃ p, n = p + 1 := ⟨n - 1, by omega⟩
  obtain ⟨s0, hs⟩ : ∃ s0, s0 = a := ⟨_, rfl⟩
  obtain ⟨r0, hr⟩ : ∃ r0, r0 = m := ⟨_, rfl⟩
  have b0 : a ≤ s0 := by omega
  have b1 : r0 ≤ m := by omega
  have b2 : m + r0 ≤ n := by omega
  have b3 : n ≤ b + s0 := by omega
  have b4 : s0 ≤ r0 := by omega
  have i1 : ((m : Int) - (a : Int) == 1) = false := by simp; omega
  have i2 : ((b : Int) - (m : Int) == 1) = false := by simp; omega
  have i3 : (b : Int) ≤ 4000000000000 := by omega
  have i4 : (0 : Int) ≤ (a : Int) := by omega
  have i5 : (a : Int) < (m : Int) := by omega
  have i6 : (b : Int) ≤ (N : Int) := by omega
  have i7 : (m : Int) < (b : Int) := by omega
  have i8 : ((a : Int) + (b : Int)) / 2 = (mid : Int) := by omega
  have i9 : (mid : Int) + (m : Int) = (n : Int) := by omega
  have m1 : (a : Int) < (mid : Int) := by omega
  have m2 : (mid : Int) < (b : Int) := by omega
  have l2 : (n : Int) - 1 = (p : Int) := by omega
  have l0 : (m : Int) ≤ (mid : Int) := by omega
  have l1 : decide (mid < m) = false := by simp; omega
  have hSZ := Lib.hid (And.intro hs hr)
  clear hs hr hn hp hmid
  have hsa : s0 = a := hSZ.out.1
  have hrm : r0 = m := hSZ.out.2
  subst hsa hrm
  go_enter Try.func86, Try.ntmps86
  go_wp2_with fail
  go_loopw [20, 21] (fun i j wr => SearchC w s0 r0 p xs i j wr) (fun i j _ => (intOf j).toNat - (intOf i).toNat)
  case atStart => exact ⟨s0, r0, rfl, rfl, by omega, by omega, by omega, Ext.refl _, fun p h1 h2 => by omega, fun p h1 h2 => by omega⟩
  case round =>
    obtain ⟨i, j, rfl, rfl, hmi, hij, hjb, hext, hlo, hhi⟩ := hrel
    have HLO := Lib.hid hlo
    have HHI := Lib.hid hhi
    have HW := Lib.hid (HO.out.ext hext)
    have HE := Lib.hid hext
    clear hlo hhi hext
    by_cases hlt : i < j
    · obtain ⟨h, hh⟩ : ∃ h, h = (i + j) / 2 := ⟨_, rfl⟩
      obtain ⟨q, hq⟩ : ∃ q, p = q + h := ⟨p - h, by omega⟩
      have k1 : (i : Int) ≤ (h : Int) := by omega
      have k2 : (h : Int) < (j : Int) := by omega
      have k3 : (i : Int) < (j : Int) := by omega
      have k4 : (s0 : Int) ≤ (i : Int) := by omega
      have k5 : (j : Int) ≤ (r0 : Int) := by omega
      have hm : ((i : Int) + (j : Int)) / 2 = (h : Int) := by omega
      have hpq : (p : Int) - (h : Int) = (q : Int) := by omega
      have hqN : q < N := by omega
      have hhN : h < N := by omega
      have HH := Lib.hid hh
      have HQ := Lib.hid hq
      clear hh hq
      go_wp2_with fail
      clear hm
      obtain ⟨W, rfl⟩ : ∃ W : World, W = wr := ⟨_, rfl⟩
      have hs0 : Ext W W := Ext.refl W
      obtain ⟨p1, p2, -, -⟩ := HW.out.at HN.out hqN
      obtain ⟨q1, q2, -, -⟩ := HW.out.at HN.out hhN
      obtain ⟨x, hgx⟩ : ∃ x, gt xs q = x := ⟨_, rfl⟩
      obtain ⟨y, hgy⟩ : ∃ y, gt xs h = y := ⟨_, rfl⟩
      rw [hgx] at p1 p2
      rw [hgy] at q1 q2
      have HX := Lib.hid (And.intro hgx hgy)
      clear hgx hgy
      obtain ⟨x1, x2⟩ := x
      obtain ⟨y1, y2⟩ := y
      simp only at p1 p2 q1 q2
      have P1 := Lib.hid p1
      have P2 := Lib.hid p2
      have Q1 := Lib.hid q1
      have Q2 := Lib.hid q2
      clear p1 p2 q1 q2
      have c1 : ∀ w', Ext W w' → w'.cell? ⟨g, q * 2, none⟩ = some (.int .i64 x1) := fun w' h => h.cell P1.out
      have c2 : ∀ w', Ext W w' → w'.cell? ⟨g, q * 2 + 1, none⟩ = some (.int .i64 x2) := fun w' h => h.cell P2.out
      have c3 : ∀ w', Ext W w' → w'.cell? ⟨g, h * 2, none⟩ = some (.int .i64 y1) := fun w' h => h.cell Q1.out
      have c4 : ∀ w', Ext W w' → w'.cell? ⟨g, h * 2 + 1, none⟩ = some (.int .i64 y2) := fun w' h => h.cell Q2.out
      have k6 : (0 : Int) ≤ (h : Int) := by omega
      have k7 : (h : Int) < (N : Int) := by omega
      have k8 : (0 : Int) ≤ (q : Int) := by omega
      have k9 : (q : Int) < (N : Int) := by omega
      have j1 : IntKind.i64.wrap (q : Int) = (q : Int) := IntWalk.i64_in _ (by omega)
      cases hle : leS (y1, y2) (x1, x2)
      · have hz : byZ (x1, x2) (y1, y2) < 0 := byZ_neg.2 hle
        go_region_held3 (fun w1 => Ext W w1) (first | (with_reducible assumption) | (exact Ext.drew (by with_reducible assumption)) | (with_reducible exact Ext.drew (Ext.alloc (by with_reducible assumption) _)) | (with_reducible exact Ext.alloc (by with_reducible assumption) _) | (exact Ext.trans (by with_reducible assumption) (by with_reducible assumption))) (first | (go_at_call 61; refine (by_any (x1, x2) (y1, y2) _).mono ?_; rintro e w1 ⟨rfl, hx⟩))
        go_wp2_with fail
        go_roundw
        case rel =>
          have e1 := HQ.out
          exact ⟨i, h, rfl, rfl, by omega, by omega, by omega, HE.out.trans (by with_reducible assumption), HLO.out, fun c h1 h2 =>
            ltS_trans2 (y := gt xs h) (ltS_trans (y := gt xs q) (HOB.out.le (by omega : r0 ≤ p - c) (by omega : p - c ≤ q) (by omega)) (by rw [HX.out.1, HX.out.2]; exact hle)) (HOA.out.le (by omega) h1 (by omega))⟩
        case measure => simp [intOf]; omega
      · have hz1 : 0 ≤ byZ (x1, x2) (y1, y2) := by
          by_cases hz : byZ (x1, x2) (y1, y2) < 0
          · rw [byZ_neg.1 hz] at hle; cases hle
          · omega
        have hz2 : decide (byZ (x1, x2) (y1, y2) < 0) = false := by simp; omega
        go_region_held3 (fun w1 => Ext W w1) (first | (with_reducible assumption) | (exact Ext.drew (by with_reducible assumption)) | (with_reducible exact Ext.drew (Ext.alloc (by with_reducible assumption) _)) | (with_reducible exact Ext.alloc (by with_reducible assumption) _) | (exact Ext.trans (by with_reducible assumption) (by with_reducible assumption))) (first | (go_at_call 61; refine (by_any (x1, x2) (y1, y2) _).mono ?_; rintro e w1 ⟨rfl, hx⟩))
        go_wp2_with fail
        go_roundw
        case rel =>
          have e1 := HQ.out
          exact ⟨h + 1, j, by go_num, rfl, by omega, by omega, by omega, HE.out.trans (by with_reducible assumption), fun c h1 h2 =>
            leS_trans _ _ _ (HOA.out.le (by omega : s0 ≤ c) (by omega : c ≤ h) (by omega)) (leS_trans _ _ _ (show leS (gt xs h) (gt xs q) = true by rw [HX.out.1, HX.out.2]; exact hle) (HOB.out.le (by omega) (by omega) (by omega))), HHI.out⟩
        case measure => simp [intOf]; omega
    · have k3 : (j : Int) ≤ (i : Int) := by omega
      obtain rfl : i = j := by omega
      obtain ⟨s, hsi⟩ : ∃ s, s = i := ⟨_, rfl⟩
      subst hsi
      obtain ⟨e, he⟩ : ∃ e, n = e + s := ⟨n - s, by omega⟩
      have k4 : (n : Int) - (s : Int) = (e : Int) := by omega
      have HSP := Lib.hid (fun (zs : List (Int × Int)) (h : Rot s r0 e xs zs) => sym_split (d := mid) h (by omega : s0 ≤ s) (by omega) (by omega) (by omega : e ≤ b) (by omega) HOA.out HOB.out
        (fun h1 h2 => by have h := HLO.out (s - 1) (by have := hSZ.out.1; omega) (by omega); rwa [show p - (s - 1) = e by omega] at h)
        (fun h1 h2 => by have h := HHI.out s (by omega) (by omega); rw [show p - s = e - 1 by omega] at h; exact leS_of_lt h))
      clear HO HLO HHI hlt
      by_cases hX : s < r0
      · by_cases hY : s0 < s
        · by_cases hZ : e < b
          · have f1 : (s : Int) < (r0 : Int) := by omega
            have f2 : (r0 : Int) < (e : Int) := by omega
            have f3 : (s0 : Int) < (s : Int) := by omega
            have f4 : (s : Int) < (mid : Int) := by omega
            have f5 : (mid : Int) < (e : Int) := by omega
            have f6 : (e : Int) < (b : Int) := by omega
            go_wp2_with fail
            refine (rotate_any B g N cap s r0 e xs _ hBg HN.out hN2 (by omega) (by omega) (by omega) HW.out).mono ?_
            rintro e1 w1 ⟨rfl, hb1, zs, hyl, ⟨hsg, hrt⟩, ho1⟩
            have SP := Lib.hid (HSP.out zs hrt)
            have SG := Lib.hid (hsg.mono (by omega : s0 ≤ s) (by omega : e ≤ b))
            have HL := Lib.hid hyl
            have HO1 := Lib.hid ho1
            have BE := Lib.hid ((Below.mono HE.out hB).trans hb1)
            clear hb1 hyl hsg hrt ho1
            have hsz : B ≤ w1.heap.size := by have := BE.out.size; omega
            go_wp2_with fail
            refine (HI.out s0 s mid _ _ (by omega) hsz HL.out (by omega) (by omega) (by omega) SP.out.o1 SP.out.o2 HO1.out).mono ?_
            rintro e1 w2 ⟨rfl, hb1, ls, hyl, ⟨hsg, hod⟩, ho1⟩
            have LS := Lib.hid hsg
            have LO := Lib.hid hod
            have HL2 := Lib.hid hyl
            have HO2 := Lib.hid ho1
            have BE2 := Lib.hid (BE.out.trans hb1)
            clear hb1 hyl hsg hod ho1 hsz
            have hsz : B ≤ w2.heap.size := by have := BE2.out.size; omega
            go_wp2_with fail
            refine (HI.out mid e b _ _ (by omega) hsz HL2.out (by omega) (by omega) (by omega) (SP.out.o3.congr fun i h1 h2 => LS.out.out i (by omega)) (SP.out.o4.congr fun i h1 h2 => LS.out.out i (by omega)) HO2.out).mono ?_
            rintro e1 w3 ⟨rfl, hb1, rs, hyl, ⟨hsg, hod⟩, ho1⟩
            have RS := Lib.hid hsg
            have RO := Lib.hid hod
            have HL3 := Lib.hid hyl
            have HO3 := Lib.hid ho1
            have BE3 := Lib.hid (BE2.out.trans hb1)
            clear hb1 hyl hsg hod ho1 hsz
            go_wp2_with fail
            go_end0
            have hd := SP.out.done (by omega) (by omega) (by omega) (by omega) LS.out LO.out RS.out RO.out
            exact ⟨rfl, BE3.out, _, HL3.out, ⟨SG.out.trans hd.1, hd.2⟩, HO3.out⟩
          · have f1 : (s : Int) < (r0 : Int) := by omega
            have f2 : (r0 : Int) < (e : Int) := by omega
            have f3 : (s0 : Int) < (s : Int) := by omega
            have f4 : (s : Int) < (mid : Int) := by omega
            have f5 : (mid : Int) < (e : Int) := by omega
            have f6 : decide (e < b) = false := by simp; omega
            have g6 : (b : Int) ≤ (e : Int) := by omega
            go_wp2_with fail
            refine (rotate_any B g N cap s r0 e xs _ hBg HN.out hN2 (by omega) (by omega) (by omega) HW.out).mono ?_
            rintro e1 w1 ⟨rfl, hb1, zs, hyl, ⟨hsg, hrt⟩, ho1⟩
            have SP := Lib.hid (HSP.out zs hrt)
            have SG := Lib.hid (hsg.mono (by omega : s0 ≤ s) (by omega : e ≤ b))
            have HL := Lib.hid hyl
            have HO1 := Lib.hid ho1
            have BE := Lib.hid ((Below.mono HE.out hB).trans hb1)
            clear hb1 hyl hsg hrt ho1
            have hsz : B ≤ w1.heap.size := by have := BE.out.size; omega
            go_wp2_with fail
            refine (HI.out s0 s mid _ _ (by omega) hsz HL.out (by omega) (by omega) (by omega) SP.out.o1 SP.out.o2 HO1.out).mono ?_
            rintro e1 w2 ⟨rfl, hb1, ls, hyl, ⟨hsg, hod⟩, ho1⟩
            have LS := Lib.hid hsg
            have LO := Lib.hid hod
            have HL2 := Lib.hid hyl
            have HO2 := Lib.hid ho1
            have BE2 := Lib.hid (BE.out.trans hb1)
            clear hb1 hyl hsg hod ho1 hsz
            have hsz : B ≤ w2.heap.size := by have := BE2.out.size; omega
            go_wp2_with fail
            have RS := Lib.hid (Seg.refl mid b ls)
            have RO := Lib.hid (show Ordered mid b ls by first | exact (SP.out.o4.sub (by omega) (by omega)).congr fun i h1 h2 => LS.out.out i (by omega) | exact (SP.out.o3.sub (by omega) (by omega)).congr fun i h1 h2 => LS.out.out i (by omega))
            have HL3 := HL2
            have HO3 := HO2
            have BE3 := BE2
            go_end0
            have hd := SP.out.done (by omega) (by omega) (by omega) (by omega) LS.out LO.out RS.out RO.out
            exact ⟨rfl, BE3.out, _, HL3.out, ⟨SG.out.trans hd.1, hd.2⟩, HO3.out⟩
        · by_cases hZ : e < b
          · have f1 : (s : Int) < (r0 : Int) := by omega
            have f2 : (r0 : Int) < (e : Int) := by omega
            have f3 : decide (s0 < s) = false := by simp; omega
            have g3 : (s : Int) ≤ (s0 : Int) := by omega
            have f4 : (s : Int) < (mid : Int) := by omega
            have f5 : (mid : Int) < (e : Int) := by omega
            have f6 : (e : Int) < (b : Int) := by omega
            go_wp2_with fail
            refine (rotate_any B g N cap s r0 e xs _ hBg HN.out hN2 (by omega) (by omega) (by omega) HW.out).mono ?_
            rintro e1 w1 ⟨rfl, hb1, zs, hyl, ⟨hsg, hrt⟩, ho1⟩
            have SP := Lib.hid (HSP.out zs hrt)
            have SG := Lib.hid (hsg.mono (by omega : s0 ≤ s) (by omega : e ≤ b))
            have HL := Lib.hid hyl
            have HO1 := Lib.hid ho1
            have BE := Lib.hid ((Below.mono HE.out hB).trans hb1)
            clear hb1 hyl hsg hrt ho1
            have hsz : B ≤ w1.heap.size := by have := BE.out.size; omega
            go_wp2_with fail
            have LS := Lib.hid (Seg.refl s0 mid zs)
            have LO := Lib.hid (show Ordered s0 mid _ by first | exact SP.out.o2.sub (by omega) (by omega) | exact SP.out.o1.sub (by omega) (by omega))
            have HL2 := HL
            have HO2 := HO1
            have BE2 := BE
            refine (HI.out mid e b _ _ (by omega) hsz HL2.out (by omega) (by omega) (by omega) (SP.out.o3.congr fun i h1 h2 => LS.out.out i (by omega)) (SP.out.o4.congr fun i h1 h2 => LS.out.out i (by omega)) HO2.out).mono ?_
            rintro e1 w3 ⟨rfl, hb1, rs, hyl, ⟨hsg, hod⟩, ho1⟩
            have RS := Lib.hid hsg
            have RO := Lib.hid hod
            have HL3 := Lib.hid hyl
            have HO3 := Lib.hid ho1
            have BE3 := Lib.hid (BE2.out.trans hb1)
            clear hb1 hyl hsg hod ho1 hsz
            go_wp2_with fail
            go_end0
            have hd := SP.out.done (by omega) (by omega) (by omega) (by omega) LS.out LO.out RS.out RO.out
            exact ⟨rfl, BE3.out, _, HL3.out, ⟨SG.out.trans hd.1, hd.2⟩, HO3.out⟩
          · have f1 : (s : Int) < (r0 : Int) := by omega
            have f2 : (r0 : Int) < (e : Int) := by omega
            have f3 : decide (s0 < s) = false := by simp; omega
            have g3 : (s : Int) ≤ (s0 : Int) := by omega
            have f4 : (s : Int) < (mid : Int) := by omega
            have f5 : (mid : Int) < (e : Int) := by omega
            have f6 : decide (e < b) = false := by simp; omega
            have g6 : (b : Int) ≤ (e : Int) := by omega
            go_wp2_with fail
            refine (rotate_any B g N cap s r0 e xs _ hBg HN.out hN2 (by omega) (by omega) (by omega) HW.out).mono ?_
            rintro e1 w1 ⟨rfl, hb1, zs, hyl, ⟨hsg, hrt⟩, ho1⟩
            have SP := Lib.hid (HSP.out zs hrt)
            have SG := Lib.hid (hsg.mono (by omega : s0 ≤ s) (by omega : e ≤ b))
            have HL := Lib.hid hyl
            have HO1 := Lib.hid ho1
            have BE := Lib.hid ((Below.mono HE.out hB).trans hb1)
            clear hb1 hyl hsg hrt ho1
            have hsz : B ≤ w1.heap.size := by have := BE.out.size; omega
            go_wp2_with fail
            have LS := Lib.hid (Seg.refl s0 mid zs)
            have LO := Lib.hid (show Ordered s0 mid _ by first | exact SP.out.o2.sub (by omega) (by omega) | exact SP.out.o1.sub (by omega) (by omega))
            have HL2 := HL
            have HO2 := HO1
            have BE2 := BE
            have RS := Lib.hid (Seg.refl mid b zs)
            have RO := Lib.hid (show Ordered mid b zs by first | exact (SP.out.o4.sub (by omega) (by omega)).congr fun i h1 h2 => LS.out.out i (by omega) | exact (SP.out.o3.sub (by omega) (by omega)).congr fun i h1 h2 => LS.out.out i (by omega))
            have HL3 := HL2
            have HO3 := HO2
            have BE3 := BE2
            go_end0
            have hd := SP.out.done (by omega) (by omega) (by omega) (by omega) LS.out LO.out RS.out RO.out
            exact ⟨rfl, BE3.out, _, HL3.out, ⟨SG.out.trans hd.1, hd.2⟩, HO3.out⟩
      · by_cases hU : s < mid
        · have f1 : decide (s < r0) = false := by simp; omega
          have g1 : (r0 : Int) ≤ (s : Int) := by omega
          have f2 : (s0 : Int) < (s : Int) := by omega
          have f3 : (s : Int) < (mid : Int) := by omega
          have f4 : decide (mid < e) = false := by simp; omega
          have g4 : (e : Int) ≤ (mid : Int) := by omega
          go_wp2_with fail
          have SP := Lib.hid (HSP.out xs (Rot.same (by omega) xs))
          have SG := Lib.hid (Seg.refl s0 b xs)
          have HL := HN
          have HO1 := HW
          have BE := Lib.hid (Below.mono HE.out hB)
          have hsz : B ≤ wr.heap.size := by have := BE.out.size; omega
          refine (HI.out s0 s mid _ _ (by omega) hsz HL.out (by omega) (by omega) (by omega) SP.out.o1 SP.out.o2 HO1.out).mono ?_
          rintro e1 w2 ⟨rfl, hb1, ls, hyl, ⟨hsg, hod⟩, ho1⟩
          have LS := Lib.hid hsg
          have LO := Lib.hid hod
          have HL2 := Lib.hid hyl
          have HO2 := Lib.hid ho1
          have BE2 := Lib.hid (BE.out.trans hb1)
          clear hb1 hyl hsg hod ho1 hsz
          have hsz : B ≤ w2.heap.size := by have := BE2.out.size; omega
          go_wp2_with fail
          have RS := Lib.hid (Seg.refl mid b ls)
          have RO := Lib.hid (show Ordered mid b ls by first | exact (SP.out.o4.sub (by omega) (by omega)).congr fun i h1 h2 => LS.out.out i (by omega) | exact (SP.out.o3.sub (by omega) (by omega)).congr fun i h1 h2 => LS.out.out i (by omega))
          have HL3 := HL2
          have HO3 := HO2
          have BE3 := BE2
          go_end0
          have hd := SP.out.done (by omega) (by omega) (by omega) (by omega) LS.out LO.out RS.out RO.out
          exact ⟨rfl, BE3.out, _, HL3.out, ⟨SG.out.trans hd.1, hd.2⟩, HO3.out⟩
        · have f1 : decide (s < r0) = false := by simp; omega
          have g1 : (r0 : Int) ≤ (s : Int) := by omega
          have f2 : (s0 : Int) < (s : Int) := by omega
          have f3 : decide (s < mid) = false := by simp; omega
          have g3 : (mid : Int) ≤ (s : Int) := by omega
          have f4 : decide (mid < e) = false := by simp; omega
          have g4 : (e : Int) ≤ (mid : Int) := by omega
          go_wp2_with fail
          have SP := Lib.hid (HSP.out xs (Rot.same (by omega) xs))
          have SG := Lib.hid (Seg.refl s0 b xs)
          have HL := HN
          have HO1 := HW
          have BE := Lib.hid (Below.mono HE.out hB)
          have hsz : B ≤ wr.heap.size := by have := BE.out.size; omega
          have LS := Lib.hid (Seg.refl s0 mid xs)
          have LO := Lib.hid (show Ordered s0 mid _ by first | exact SP.out.o2.sub (by omega) (by omega) | exact SP.out.o1.sub (by omega) (by omega))
          have HL2 := HL
          have HO2 := HO1
          have BE2 := BE
          have RS := Lib.hid (Seg.refl mid b xs)
          have RO := Lib.hid (show Ordered mid b xs by first | exact (SP.out.o4.sub (by omega) (by omega)).congr fun i h1 h2 => LS.out.out i (by omega) | exact (SP.out.o3.sub (by omega) (by omega)).congr fun i h1 h2 => LS.out.out i (by omega))
          have HL3 := HL2
          have HO3 := HO2
          have BE3 := BE2
          go_end0
          have hd := SP.out.done (by omega) (by omega) (by omega) (by omega) LS.out LO.out RS.out RO.out
          exact ⟨rfl, BE3.out, _, HL3.out, ⟨SG.out.trans hd.1, hd.2⟩, HO3.out⟩
end Go.Proofs.Ytllcekmbcmhckaa
