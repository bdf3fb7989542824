/- Merged by program (merge.py) out of: SortF, SortG, SortH, GapSpec. -/
import Derived.Test.YtllcekmbcmhckaaMg7
/- The walk of slices' symMergeCmpFunc, at spans and span.by: the general way. Printed by mksortf.py. -/
set_option linter.unusedSimpArgs false
set_option linter.unusedVariables false
namespace Go.Proofs.Ytllcekmbcmhckaa
open Go.RowKit

def SearchC (w : World) (s0 r0 p : Nat) (xs : List (Int × Int)) (vi vj : Value) (wr : World) : Prop :=
  ∃ (i j : Nat), vi = .int .i64 i ∧ vj = .int .i64 j ∧ s0 ≤ i ∧ i ≤ j ∧ j ≤ r0 ∧ Ext w wr ∧ (∀ c, s0 ≤ c → c < i → leS (gt xs c) (gt xs (p - c)) = true) ∧ (∀ c, j ≤ c → c < r0 → leS (gt xs c) (gt xs (p - c)) = false)
theorem Rot.same {s m e : Nat} (h : s = m ∨ e = m) (xs : List (Int × Int)) : Rot s m e xs xs := by
  rcases h with h | h
  · subst h; exact Rot.id1 xs
  · subst h; exact Rot.id2 xs
/-- symMerge at rows shorter than K. -/
def SymLess (B g N cap K : Nat) : Prop := ∀ (a m b : Nat) (xs : List (Int × Int)) (w : World), b - a < K → B ≤ w.heap.size → xs.length = N → a < m → m < b → b ≤ N → Ordered a m xs → Ordered m b xs →
    OwnS w B (.slice (some ⟨g, 0, none⟩) N cap) xs →
    Calls Try.prog 86 #[.slice (some ⟨g, 0, none⟩) N cap, .int .i64 a, .int .i64 m, .int .i64 b, .func (.func 61) #[] #[]] w
      (InPlace w B g N cap (fun ys => Seg a b xs ys ∧ Ordered a b ys))

set_option maxRecDepth 100000 in
set_option maxHeartbeats 8000000 in
theorem symC1_any (B g N cap a m b mid : Nat) (xs : List (Int × Int)) (w : World) (hB : B ≤ w.heap.size) (hBg : B ≤ g) (hN : xs.length = N) (hN2 : N ≤ 4000000000000) (ham : a + 1 < m) (hmb : m + 1 < b) (hb : b ≤ N)
    (hmid : mid = (a + b) / 2) (hc : mid < m) (hoA : Ordered a m xs) (hoB : Ordered m b xs) (IH : SymLess B g N cap (b - a)) (ho : OwnS w B (.slice (some ⟨g, 0, none⟩) N cap) xs) :
    Calls Try.prog 86 #[.slice (some ⟨g, 0, none⟩) N cap, .int .i64 a, .int .i64 m, .int .i64 b, .func (.func 61) #[] #[]] w
      (InPlace w B g N cap (fun ys => Seg a b xs ys ∧ Ordered a b ys)) := by
  have HO := Lib.hid ho
  have HN := Lib.hid hN
  have HI := Lib.hid IH
  have HOA := Lib.hid hoA
  have HOB := Lib.hid hoB
  clear ho hN hoB hoA IH
  obtain ⟨n, hn⟩ : ∃ n, n = mid + m := ⟨_, rfl⟩
  obtain ⟨p, hp⟩ : ∃ p, n = p + 1 := ⟨n - 1, by omega⟩
  obtain ⟨s0, hs⟩ : ∃ s0, s0 = n - b := ⟨_, rfl⟩
  obtain ⟨r0, hr⟩ : ∃ r0, r0 = mid := ⟨_, rfl⟩
  have b0 : a ≤ s0 := by omega
  have b1 : r0 ≤ m := by omega
  have b2 : m + r0 ≤ n := by omega
  have b3 : n ≤ b + s0 := by omega
  have b4 : s0 ≤ r0 := by omega
  have i1 : ((m : Int) - (a : Int) == 1) = false := by simp; omega
  have i2 : ((b : Int) - (m : Int) == 1) = false := by simp; omega
  have i3 : (b : Int) ≤ 4000000000000 := by omega
  have i4 : (0 : Int) ≤ (a : Int) := by omega
  have i5 : (a : Int) < (m : Int) := by omega
  have i6 : (b : Int) ≤ (N : Int) := by omega
  have i7 : (m : Int) < (b : Int) := by omega
  have i8 : ((a : Int) + (b : Int)) / 2 = (mid : Int) := by omega
  have i9 : (mid : Int) + (m : Int) = (n : Int) := by omega
  have m1 : (a : Int) < (mid : Int) := by omega
  have m2 : (mid : Int) < (b : Int) := by omega
  have l2 : (n : Int) - 1 = (p : Int) := by omega
  have l0 : (mid : Int) < (m : Int) := by omega
  have l1 : (n : Int) - (b : Int) = (s0 : Int) := by omega
  have hSZ := Lib.hid (And.intro hs hr)
  clear hs hr hn hp hmid
  have hrm : r0 = mid := hSZ.out.2
  subst hrm
  go_enter Try.func86, Try.ntmps86
  go_wp2_with fail
  go_loopw [20, 21] (fun i j wr => SearchC w s0 r0 p xs i j wr) (fun i j _ => (intOf j).toNat - (intOf i).toNat)
  case atStart => exact ⟨s0, r0, rfl, rfl, by omega, by omega, by omega, Ext.refl _, fun p h1 h2 => by omega, fun p h1 h2 => by omega⟩
  case round =>
    obtain ⟨i, j, rfl, rfl, hmi, hij, hjb, hext, hlo, hhi⟩ := hrel
    have HLO := Lib.hid hlo
    have HHI := Lib.hid hhi
    have HW := Lib.hid (HO.out.ext hext)
    have HE := Lib.hid hext
    clear hlo hhi hext
    by_cases hlt : i < j
    · obtain ⟨h, hh⟩ : ∃ h, h = (i + j) / 2 := ⟨_, rfl⟩
      obtain ⟨q, hq⟩ : ∃ q, p = q + h := ⟨p - h, by omega⟩
      have k1 : (i : Int) ≤ (h : Int) := by omega
      have k2 : (h : Int) < (j : Int) := by omega
      have k3 : (i : Int) < (j : Int) := by omega
      have k4 : (s0 : Int) ≤ (i : Int) := by omega
      have k5 : (j : Int) ≤ (r0 : Int) := by omega
      have hm : ((i : Int) + (j : Int)) / 2 = (h : Int) := by omega
      have hpq : (p : Int) - (h : Int) = (q : Int) := by omega
      have hqN : q < N := by omega
      have hhN : h < N := by omega
      have HH := Lib.hid hh
      have HQ := Lib.hid hq
      clear hh hq
      go_wp2_with fail
      clear hm
      obtain ⟨W, rfl⟩ : ∃ W : World, W = wr := ⟨_, rfl⟩
      have hs0 : Ext W W := Ext.refl W
      obtain ⟨p1, p2, -, -⟩ := HW.out.at HN.out hqN
      obtain ⟨q1, q2, -, -⟩ := HW.out.at HN.out hhN
      obtain ⟨x, hgx⟩ : ∃ x, gt xs q = x := ⟨_, rfl⟩
      obtain ⟨y, hgy⟩ : ∃ y, gt xs h = y := ⟨_, rfl⟩
      rw [hgx] at p1 p2
      rw [hgy] at q1 q2
      have HX := Lib.hid (And.intro hgx hgy)
      clear hgx hgy
      obtain ⟨x1, x2⟩ := x
      obtain ⟨y1, y2⟩ := y
      simp only at p1 p2 q1 q2
      have P1 := Lib.hid p1
      have P2 := Lib.hid p2
      have Q1 := Lib.hid q1
      have Q2 := Lib.hid q2
      clear p1 p2 q1 q2
      have c1 : ∀ w', Ext W w' → w'.cell? ⟨g, q * 2, none⟩ = some (.int .i64 x1) := fun w' h => h.cell P1.out
      have c2 : ∀ w', Ext W w' → w'.cell? ⟨g, q * 2 + 1, none⟩ = some (.int .i64 x2) := fun w' h => h.cell P2.out
      have c3 : ∀ w', Ext W w' → w'.cell? ⟨g, h * 2, none⟩ = some (.int .i64 y1) := fun w' h => h.cell Q1.out
      have c4 : ∀ w', Ext W w' → w'.cell? ⟨g, h * 2 + 1, none⟩ = some (.int .i64 y2) := fun w' h => h.cell Q2.out
      have k6 : (0 : Int) ≤ (h : Int) := by omega
      have k7 : (h : Int) < (N : Int) := by omega
      have k8 : (0 : Int) ≤ (q : Int) := by omega
      have k9 : (q : Int) < (N : Int) := by omega
      have j1 : IntKind.i64.wrap (q : Int) = (q : Int) := IntWalk.i64_in _ (by omega)
      cases hle : leS (y1, y2) (x1, x2)
      · have hz : byZ (x1, x2) (y1, y2) < 0 := byZ_neg.2 hle
        go_region_held3 (fun w1 => Ext W w1) (first | (with_reducible assumption) | (exact Ext.drew (by with_reducible assumption)) | (with_reducible exact Ext.drew (Ext.alloc (by with_reducible assumption) _)) | (with_reducible exact Ext.alloc (by with_reducible assumption) _) | (exact Ext.trans (by with_reducible assumption) (by with_reducible assumption))) (first | (go_at_call 61; refine (by_any (x1, x2) (y1, y2) _).mono ?_; rintro e w1 ⟨rfl, hx⟩))
        go_wp2_with fail
        go_roundw
        case rel =>
          have e1 := HQ.out
          exact ⟨i, h, rfl, rfl, by omega, by omega, by omega, HE.out.trans (by with_reducible assumption), HLO.out, fun c h1 h2 =>
            ltS_trans2 (y := gt xs h) (ltS_trans (y := gt xs q) (HOB.out.le (by omega : m ≤ p - c) (by omega : p - c ≤ q) (by omega)) (by rw [HX.out.1, HX.out.2]; exact hle)) (HOA.out.le (by omega) h1 (by omega))⟩
        case measure => simp [intOf]; omega
      · have hz1 : 0 ≤ byZ (x1, x2) (y1, y2) := by
          by_cases hz : byZ (x1, x2) (y1, y2) < 0
          · rw [byZ_neg.1 hz] at hle; cases hle
          · omega
        have hz2 : decide (byZ (x1, x2) (y1, y2) < 0) = false := by simp; omega
        go_region_held3 (fun w1 => Ext W w1) (first | (with_reducible assumption) | (exact Ext.drew (by with_reducible assumption)) | (with_reducible exact Ext.drew (Ext.alloc (by with_reducible assumption) _)) | (with_reducible exact Ext.alloc (by with_reducible assumption) _) | (exact Ext.trans (by with_reducible assumption) (by with_reducible assumption))) (first | (go_at_call 61; refine (by_any (x1, x2) (y1, y2) _).mono ?_; rintro e w1 ⟨rfl, hx⟩))
        go_wp2_with fail
        go_roundw
        case rel =>
          have e1 := HQ.out
          exact ⟨h + 1, j, by go_num, rfl, by omega, by omega, by omega, HE.out.trans (by with_reducible assumption), fun c h1 h2 =>
            leS_trans _ _ _ (HOA.out.le (by omega : a ≤ c) (by omega : c ≤ h) (by omega)) (leS_trans _ _ _ (show leS (gt xs h) (gt xs q) = true by rw [HX.out.1, HX.out.2]; exact hle) (HOB.out.le (by omega) (by omega) (by omega))), HHI.out⟩
        case measure => simp [intOf]; omega
    · have k3 : (j : Int) ≤ (i : Int) := by omega
      obtain rfl : i = j := by omega
      obtain ⟨s, hsi⟩ : ∃ s, s = i := ⟨_, rfl⟩
      subst hsi
      obtain ⟨e, he⟩ : ∃ e, n = e + s := ⟨n - s, by omega⟩
      have k4 : (n : Int) - (s : Int) = (e : Int) := by omega
      have HSP := Lib.hid (fun (zs : List (Int × Int)) (h : Rot s m e xs zs) => sym_split (d := r0) h (by omega : a ≤ s) (by omega) (by omega) (by omega : e ≤ b) (by omega) HOA.out HOB.out
        (fun h1 h2 => by have h := HLO.out (s - 1) (by have := hSZ.out.1; omega) (by omega); rwa [show p - (s - 1) = e by omega] at h)
        (fun h1 h2 => by have h := HHI.out s (by omega) (by omega); rw [show p - s = e - 1 by omega] at h; exact leS_of_lt h))
      clear HO HLO HHI hlt
      by_cases hX : s < r0
      · by_cases hY : a < s
        · by_cases hZ : e < b
          · have f1 : (s : Int) < (m : Int) := by omega
            have f2 : (m : Int) < (e : Int) := by omega
            have f3 : (a : Int) < (s : Int) := by omega
            have f4 : (s : Int) < (r0 : Int) := by omega
            have f5 : (r0 : Int) < (e : Int) := by omega
            have f6 : (e : Int) < (b : Int) := by omega
            go_wp2_with fail
            refine (rotate_any B g N cap s m e xs _ hBg HN.out hN2 (by omega) (by omega) (by omega) HW.out).mono ?_
            rintro e1 w1 ⟨rfl, hb1, zs, hyl, ⟨hsg, hrt⟩, ho1⟩
            have SP := Lib.hid (HSP.out zs hrt)
            have SG := Lib.hid (hsg.mono (by omega : a ≤ s) (by omega : e ≤ b))
            have HL := Lib.hid hyl
            have HO1 := Lib.hid ho1
            have BE := Lib.hid ((Below.mono HE.out hB).trans hb1)
            clear hb1 hyl hsg hrt ho1
            have hsz : B ≤ w1.heap.size := by have := BE.out.size; omega
            go_wp2_with fail
            refine (HI.out a s r0 _ _ (by omega) hsz HL.out (by omega) (by omega) (by omega) SP.out.o1 SP.out.o2 HO1.out).mono ?_
            rintro e1 w2 ⟨rfl, hb1, ls, hyl, ⟨hsg, hod⟩, ho1⟩
            have LS := Lib.hid hsg
            have LO := Lib.hid hod
            have HL2 := Lib.hid hyl
            have HO2 := Lib.hid ho1
            have BE2 := Lib.hid (BE.out.trans hb1)
            clear hb1 hyl hsg hod ho1 hsz
            have hsz : B ≤ w2.heap.size := by have := BE2.out.size; omega
            go_wp2_with fail
            refine (HI.out r0 e b _ _ (by omega) hsz HL2.out (by omega) (by omega) (by omega) (SP.out.o3.congr fun i h1 h2 => LS.out.out i (by omega)) (SP.out.o4.congr fun i h1 h2 => LS.out.out i (by omega)) HO2.out).mono ?_
            rintro e1 w3 ⟨rfl, hb1, rs, hyl, ⟨hsg, hod⟩, ho1⟩
            have RS := Lib.hid hsg
            have RO := Lib.hid hod
            have HL3 := Lib.hid hyl
            have HO3 := Lib.hid ho1
            have BE3 := Lib.hid (BE2.out.trans hb1)
            clear hb1 hyl hsg hod ho1 hsz
            go_wp2_with fail
            go_end0
            have hd := SP.out.done (by omega) (by omega) (by omega) (by omega) LS.out LO.out RS.out RO.out
            exact ⟨rfl, BE3.out, _, HL3.out, ⟨SG.out.trans hd.1, hd.2⟩, HO3.out⟩
          · have f1 : (s : Int) < (m : Int) := by omega
            have f2 : (m : Int) < (e : Int) := by omega
            have f3 : (a : Int) < (s : Int) := by omega
            have f4 : (s : Int) < (r0 : Int) := by omega
            have f5 : (r0 : Int) < (e : Int) := by omega
            have f6 : decide (e < b) = false := by simp; omega
            have g6 : (b : Int) ≤ (e : Int) := by omega
            go_wp2_with fail
            refine (rotate_any B g N cap s m e xs _ hBg HN.out hN2 (by omega) (by omega) (by omega) HW.out).mono ?_
            rintro e1 w1 ⟨rfl, hb1, zs, hyl, ⟨hsg, hrt⟩, ho1⟩
            have SP := Lib.hid (HSP.out zs hrt)
            have SG := Lib.hid (hsg.mono (by omega : a ≤ s) (by omega : e ≤ b))
            have HL := Lib.hid hyl
            have HO1 := Lib.hid ho1
            have BE := Lib.hid ((Below.mono HE.out hB).trans hb1)
            clear hb1 hyl hsg hrt ho1
            have hsz : B ≤ w1.heap.size := by have := BE.out.size; omega
            go_wp2_with fail
            refine (HI.out a s r0 _ _ (by omega) hsz HL.out (by omega) (by omega) (by omega) SP.out.o1 SP.out.o2 HO1.out).mono ?_
            rintro e1 w2 ⟨rfl, hb1, ls, hyl, ⟨hsg, hod⟩, ho1⟩
            have LS := Lib.hid hsg
            have LO := Lib.hid hod
            have HL2 := Lib.hid hyl
            have HO2 := Lib.hid ho1
            have BE2 := Lib.hid (BE.out.trans hb1)
            clear hb1 hyl hsg hod ho1 hsz
            have hsz : B ≤ w2.heap.size := by have := BE2.out.size; omega
            go_wp2_with fail
            have RS := Lib.hid (Seg.refl r0 b ls)
            have RO := Lib.hid (show Ordered r0 b ls by first | exact (SP.out.o4.sub (by omega) (by omega)).congr fun i h1 h2 => LS.out.out i (by omega) | exact (SP.out.o3.sub (by omega) (by omega)).congr fun i h1 h2 => LS.out.out i (by omega))
            have HL3 := HL2
            have HO3 := HO2
            have BE3 := BE2
            go_end0
            have hd := SP.out.done (by omega) (by omega) (by omega) (by omega) LS.out LO.out RS.out RO.out
            exact ⟨rfl, BE3.out, _, HL3.out, ⟨SG.out.trans hd.1, hd.2⟩, HO3.out⟩
        · by_cases hZ : e < b
          · have f1 : (s : Int) < (m : Int) := by omega
            have f2 : (m : Int) < (e : Int) := by omega
            have f3 : decide (a < s) = false := by simp; omega
            have g3 : (s : Int) ≤ (a : Int) := by omega
            have f4 : (s : Int) < (r0 : Int) := by omega
            have f5 : (r0 : Int) < (e : Int) := by omega
            have f6 : (e : Int) < (b : Int) := by omega
            go_wp2_with fail
            refine (rotate_any B g N cap s m e xs _ hBg HN.out hN2 (by omega) (by omega) (by omega) HW.out).mono ?_
            rintro e1 w1 ⟨rfl, hb1, zs, hyl, ⟨hsg, hrt⟩, ho1⟩
            have SP := Lib.hid (HSP.out zs hrt)
            have SG := Lib.hid (hsg.mono (by omega : a ≤ s) (by omega : e ≤ b))
            have HL := Lib.hid hyl
            have HO1 := Lib.hid ho1
            have BE := Lib.hid ((Below.mono HE.out hB).trans hb1)
            clear hb1 hyl hsg hrt ho1
            have hsz : B ≤ w1.heap.size := by have := BE.out.size; omega
            go_wp2_with fail
            have LS := Lib.hid (Seg.refl a r0 zs)
            have LO := Lib.hid (show Ordered a r0 _ by first | exact SP.out.o2.sub (by omega) (by omega) | exact SP.out.o1.sub (by omega) (by omega))
            have HL2 := HL
            have HO2 := HO1
            have BE2 := BE
            refine (HI.out r0 e b _ _ (by omega) hsz HL2.out (by omega) (by omega) (by omega) (SP.out.o3.congr fun i h1 h2 => LS.out.out i (by omega)) (SP.out.o4.congr fun i h1 h2 => LS.out.out i (by omega)) HO2.out).mono ?_
            rintro e1 w3 ⟨rfl, hb1, rs, hyl, ⟨hsg, hod⟩, ho1⟩
            have RS := Lib.hid hsg
            have RO := Lib.hid hod
            have HL3 := Lib.hid hyl
            have HO3 := Lib.hid ho1
            have BE3 := Lib.hid (BE2.out.trans hb1)
            clear hb1 hyl hsg hod ho1 hsz
            go_wp2_with fail
            go_end0
            have hd := SP.out.done (by omega) (by omega) (by omega) (by omega) LS.out LO.out RS.out RO.out
            exact ⟨rfl, BE3.out, _, HL3.out, ⟨SG.out.trans hd.1, hd.2⟩, HO3.out⟩
          · have f1 : (s : Int) < (m : Int) := by omega
            have f2 : (m : Int) < (e : Int) := by omega
            have f3 : decide (a < s) = false := by simp; omega
            have g3 : (s : Int) ≤ (a : Int) := by omega
            have f4 : (s : Int) < (r0 : Int) := by omega
            have f5 : (r0 : Int) < (e : Int) := by omega
            have f6 : decide (e < b) = false := by simp; omega
            have g6 : (b : Int) ≤ (e : Int) := by omega
            go_wp2_with fail
            refine (rotate_any B g N cap s m e xs _ hBg HN.out hN2 (by omega) (by omega) (by omega) HW.out).mono ?_
            rintro e1 w1 ⟨rfl, hb1, zs, hyl, ⟨hsg, hrt⟩, ho1⟩
            have SP := Lib.hid (HSP.out zs hrt)
            have SG := Lib.hid (hsg.mono (by omega : a ≤ s) (by omega : e ≤ b))
            have HL := Lib.hid hyl
            have HO1 := Lib.hid ho1
            have BE := Lib.hid ((Below.mono HE.out hB).trans hb1)
            clear hb1 hyl hsg hrt ho1
            have hsz : B ≤ w1.heap.size := by have := BE.out.size; omega
            go_wp2_with fail
            have LS := Lib.hid (Seg.refl a r0 zs)
            have LO := Lib.hid (show Ordered a r0 _ by first | exact SP.out.o2.sub (by omega) (by omega) | exact SP.out.o1.sub (by omega) (by omega))
            have HL2 := HL
            have HO2 := HO1
            have BE2 := BE
            have RS := Lib.hid (Seg.refl r0 b zs)
            have RO := Lib.hid (show Ordered r0 b zs by first | exact (SP.out.o4.sub (by omega) (by omega)).congr fun i h1 h2 => LS.out.out i (by omega) | exact (SP.out.o3.sub (by omega) (by omega)).congr fun i h1 h2 => LS.out.out i (by omega))
            have HL3 := HL2
            have HO3 := HO2
            have BE3 := BE2
            go_end0
            have hd := SP.out.done (by omega) (by omega) (by omega) (by omega) LS.out LO.out RS.out RO.out
            exact ⟨rfl, BE3.out, _, HL3.out, ⟨SG.out.trans hd.1, hd.2⟩, HO3.out⟩
      · by_cases hZ : e < b
        · have f1 : (s : Int) < (m : Int) := by omega
          have f2 : decide (m < e) = false := by simp; omega
          have g2 : (e : Int) ≤ (m : Int) := by omega
          have f3 : (a : Int) < (s : Int) := by omega
          have f4 : decide (s < r0) = false := by simp; omega
          have g4 : (r0 : Int) ≤ (s : Int) := by omega
          have f5 : (r0 : Int) < (e : Int) := by omega
          have f6 : (e : Int) < (b : Int) := by omega
          go_wp2_with fail
          have SP := Lib.hid (HSP.out xs (Rot.same (by omega) xs))
          have SG := Lib.hid (Seg.refl a b xs)
          have HL := HN
          have HO1 := HW
          have BE := Lib.hid (Below.mono HE.out hB)
          have hsz : B ≤ wr.heap.size := by have := BE.out.size; omega
          have LS := Lib.hid (Seg.refl a r0 xs)
          have LO := Lib.hid (show Ordered a r0 _ by first | exact SP.out.o2.sub (by omega) (by omega) | exact SP.out.o1.sub (by omega) (by omega))
          have HL2 := HL
          have HO2 := HO1
          have BE2 := BE
          refine (HI.out r0 e b _ _ (by omega) hsz HL2.out (by omega) (by omega) (by omega) (SP.out.o3.congr fun i h1 h2 => LS.out.out i (by omega)) (SP.out.o4.congr fun i h1 h2 => LS.out.out i (by omega)) HO2.out).mono ?_
          rintro e1 w3 ⟨rfl, hb1, rs, hyl, ⟨hsg, hod⟩, ho1⟩
          have RS := Lib.hid hsg
          have RO := Lib.hid hod
          have HL3 := Lib.hid hyl
          have HO3 := Lib.hid ho1
          have BE3 := Lib.hid (BE2.out.trans hb1)
          clear hb1 hyl hsg hod ho1 hsz
          go_wp2_with fail
          go_end0
          have hd := SP.out.done (by omega) (by omega) (by omega) (by omega) LS.out LO.out RS.out RO.out
          exact ⟨rfl, BE3.out, _, HL3.out, ⟨SG.out.trans hd.1, hd.2⟩, HO3.out⟩
        · have f1 : (s : Int) < (m : Int) := by omega
          have f2 : decide (m < e) = false := by simp; omega
          have g2 : (e : Int) ≤ (m : Int) := by omega
          have f3 : (a : Int) < (s : Int) := by omega
          have f4 : decide (s < r0) = false := by simp; omega
          have g4 : (r0 : Int) ≤ (s : Int) := by omega
          have f5 : (r0 : Int) < (e : Int) := by omega
          have f6 : decide (e < b) = false := by simp; omega
          have g6 : (b : Int) ≤ (e : Int) := by omega
          go_wp2_with fail
          have SP := Lib.hid (HSP.out xs (Rot.same (by omega) xs))
          have SG := Lib.hid (Seg.refl a b xs)
          have HL := HN
          have HO1 := HW
          have BE := Lib.hid (Below.mono HE.out hB)
          have hsz : B ≤ wr.heap.size := by have := BE.out.size; omega
          have LS := Lib.hid (Seg.refl a r0 xs)
          have LO := Lib.hid (show Ordered a r0 _ by first | exact SP.out.o2.sub (by omega) (by omega) | exact SP.out.o1.sub (by omega) (by omega))
          have HL2 := HL
          have HO2 := HO1
          have BE2 := BE
          have RS := Lib.hid (Seg.refl r0 b xs)
          have RO := Lib.hid (show Ordered r0 b xs by first | exact (SP.out.o4.sub (by omega) (by omega)).congr fun i h1 h2 => LS.out.out i (by omega) | exact (SP.out.o3.sub (by omega) (by omega)).congr fun i h1 h2 => LS.out.out i (by omega))
          have HL3 := HL2
          have HO3 := HO2
          have BE3 := BE2
          go_end0
          have hd := SP.out.done (by omega) (by omega) (by omega) (by omega) LS.out LO.out RS.out RO.out
          exact ⟨rfl, BE3.out, _, HL3.out, ⟨SG.out.trans hd.1, hd.2⟩, HO3.out⟩

set_option maxRecDepth 100000 in
set_option maxHeartbeats 8000000 in
theorem symC2_any (B g N cap a m b mid : Nat) (xs : List (Int × Int)) (w : World) (hB : B ≤ w.heap.size) (hBg : B ≤ g) (hN : xs.length = N) (hN2 : N ≤ 4000000000000) (ham : a + 1 < m) (hmb : m + 1 < b) (hb : b ≤ N)
    (hmid : mid = (a + b) / 2) (hc : m ≤ mid) (hoA : Ordered a m xs) (hoB : Ordered m b xs) (IH : SymLess B g N cap (b - a)) (ho : OwnS w B (.slice (some ⟨g, 0, none⟩) N cap) xs) :
    Calls Try.prog 86 #[.slice (some ⟨g, 0, none⟩) N cap, .int .i64 a, .int .i64 m, .int .i64 b, .func (.func 61) #[] #[]] w
      (InPlace w B g N cap (fun ys => Seg a b xs ys ∧ Ordered a b ys)) := by
  have HO := Lib.hid ho
  have HN := Lib.hid hN
  have HI := Lib.hid IH
  have HOA := Lib.hid hoA
  have HOB := Lib.hid hoB
  clear ho hN hoB hoA IH
  obtain ⟨n, hn⟩ : ∃ n, n = mid + m := ⟨_, rfl⟩
  obtain ⟨p, hp⟩ : ∃ p, n = p + 1 := ⟨n - 1, by omega⟩
  obtain ⟨s0, hs⟩ : ∃ s0, s0 = a := ⟨_, rfl⟩
  obtain ⟨r0, hr⟩ : ∃ r0, r0 = m := ⟨_, rfl⟩
  have b0 : a ≤ s0 := by omega
  have b1 : r0 ≤ m := by omega
  have b2 : m + r0 ≤ n := by omega
  have b3 : n ≤ b + s0 := by omega
  have b4 : s0 ≤ r0 := by omega
  have i1 : ((m : Int) - (a : Int) == 1) = false := by simp; omega
  have i2 : ((b : Int) - (m : Int) == 1) = false := by simp; omega
  have i3 : (b : Int) ≤ 4000000000000 := by omega
  have i4 : (0 : Int) ≤ (a : Int) := by omega
  have i5 : (a : Int) < (m : Int) := by omega
  have i6 : (b : Int) ≤ (N : Int) := by omega
  have i7 : (m : Int) < (b : Int) := by omega
  have i8 : ((a : Int) + (b : Int)) / 2 = (mid : Int) := by omega
  have i9 : (mid : Int) + (m : Int) = (n : Int) := by omega
  have m1 : (a : Int) < (mid : Int) := by omega
  have m2 : (mid : Int) < (b : Int) := by omega
  have l2 : (n : Int) - 1 = (p : Int) := by omega
  have l0 : (m : Int) ≤ (mid : Int) := by omega
  have l1 : decide (mid < m) = false := by simp; omega
  have hSZ := Lib.hid (And.intro hs hr)
  clear hs hr hn hp hmid
  have hsa : s0 = a := hSZ.out.1
  have hrm : r0 = m := hSZ.out.2
  subst hsa hrm
  go_enter Try.func86, Try.ntmps86
  go_wp2_with fail
  go_loopw [20, 21] (fun i j wr => SearchC w s0 r0 p xs i j wr) (fun i j _ => (intOf j).toNat - (intOf i).toNat)
  case atStart => exact ⟨s0, r0, rfl, rfl, by omega, by omega, by omega, Ext.refl _, fun p h1 h2 => by omega, fun p h1 h2 => by omega⟩
  case round =>
    obtain ⟨i, j, rfl, rfl, hmi, hij, hjb, hext, hlo, hhi⟩ := hrel
    have HLO := Lib.hid hlo
    have HHI := Lib.hid hhi
    have HW := Lib.hid (HO.out.ext hext)
    have HE := Lib.hid hext
    clear hlo hhi hext
    by_cases hlt : i < j
    · obtain ⟨h, hh⟩ : ∃ h, h = (i + j) / 2 := ⟨_, rfl⟩
      obtain ⟨q, hq⟩ : ∃ q, p = q + h := ⟨p - h, by omega⟩
      have k1 : (i : Int) ≤ (h : Int) := by omega
      have k2 : (h : Int) < (j : Int) := by omega
      have k3 : (i : Int) < (j : Int) := by omega
      have k4 : (s0 : Int) ≤ (i : Int) := by omega
      have k5 : (j : Int) ≤ (r0 : Int) := by omega
      have hm : ((i : Int) + (j : Int)) / 2 = (h : Int) := by omega
      have hpq : (p : Int) - (h : Int) = (q : Int) := by omega
      have hqN : q < N := by omega
      have hhN : h < N := by omega
      have HH := Lib.hid hh
      have HQ := Lib.hid hq
      clear hh hq
      go_wp2_with fail
      clear hm
      obtain ⟨W, rfl⟩ : ∃ W : World, W = wr := ⟨_, rfl⟩
      have hs0 : Ext W W := Ext.refl W
      obtain ⟨p1, p2, -, -⟩ := HW.out.at HN.out hqN
      obtain ⟨q1, q2, -, -⟩ := HW.out.at HN.out hhN
      obtain ⟨x, hgx⟩ : ∃ x, gt xs q = x := ⟨_, rfl⟩
      obtain ⟨y, hgy⟩ : ∃ y, gt xs h = y := ⟨_, rfl⟩
      rw [hgx] at p1 p2
      rw [hgy] at q1 q2
      have HX := Lib.hid (And.intro hgx hgy)
      clear hgx hgy
      obtain ⟨x1, x2⟩ := x
      obtain ⟨y1, y2⟩ := y
      simp only at p1 p2 q1 q2
      have P1 := Lib.hid p1
      have P2 := Lib.hid p2
      have Q1 := Lib.hid q1
      have Q2 := Lib.hid q2
      clear p1 p2 q1 q2
      have c1 : ∀ w', Ext W w' → w'.cell? ⟨g, q * 2, none⟩ = some (.int .i64 x1) := fun w' h => h.cell P1.out
      have c2 : ∀ w', Ext W w' → w'.cell? ⟨g, q * 2 + 1, none⟩ = some (.int .i64 x2) := fun w' h => h.cell P2.out
      have c3 : ∀ w', Ext W w' → w'.cell? ⟨g, h * 2, none⟩ = some (.int .i64 y1) := fun w' h => h.cell Q1.out
      have c4 : ∀ w', Ext W w' → w'.cell? ⟨g, h * 2 + 1, none⟩ = some (.int .i64 y2) := fun w' h => h.cell Q2.out
      have k6 : (0 : Int) ≤ (h : Int) := by omega
      have k7 : (h : Int) < (N : Int) := by omega
      have k8 : (0 : Int) ≤ (q : Int) := by omega
      have k9 : (q : Int) < (N : Int) := by omega
      have j1 : IntKind.i64.wrap (q : Int) = (q : Int) := IntWalk.i64_in _ (by omega)
      cases hle : leS (y1, y2) (x1, x2)
      · have hz : byZ (x1, x2) (y1, y2) < 0 := byZ_neg.2 hle
        go_region_held3 (fun w1 => Ext W w1) (first | (with_reducible assumption) | (exact Ext.drew (by with_reducible assumption)) | (with_reducible exact Ext.drew (Ext.alloc (by with_reducible assumption) _)) | (with_reducible exact Ext.alloc (by with_reducible assumption) _) | (exact Ext.trans (by with_reducible assumption) (by with_reducible assumption))) (first | (go_at_call 61; refine (by_any (x1, x2) (y1, y2) _).mono ?_; rintro e w1 ⟨rfl, hx⟩))
        go_wp2_with fail
        go_roundw
        case rel =>
          have e1 := HQ.out
          exact ⟨i, h, rfl, rfl, by omega, by omega, by omega, HE.out.trans (by with_reducible assumption), HLO.out, fun c h1 h2 =>
            ltS_trans2 (y := gt xs h) (ltS_trans (y := gt xs q) (HOB.out.le (by omega : r0 ≤ p - c) (by omega : p - c ≤ q) (by omega)) (by rw [HX.out.1, HX.out.2]; exact hle)) (HOA.out.le (by omega) h1 (by omega))⟩
        case measure => simp [intOf]; omega
      · have hz1 : 0 ≤ byZ (x1, x2) (y1, y2) := by
          by_cases hz : byZ (x1, x2) (y1, y2) < 0
          · rw [byZ_neg.1 hz] at hle; cases hle
          · omega
        have hz2 : decide (byZ (x1, x2) (y1, y2) < 0) = false := by simp; omega
        go_region_held3 (fun w1 => Ext W w1) (first | (with_reducible assumption) | (exact Ext.drew (by with_reducible assumption)) | (with_reducible exact Ext.drew (Ext.alloc (by with_reducible assumption) _)) | (with_reducible exact Ext.alloc (by with_reducible assumption) _) | (exact Ext.trans (by with_reducible assumption) (by with_reducible assumption))) (first | (go_at_call 61; refine (by_any (x1, x2) (y1, y2) _).mono ?_; rintro e w1 ⟨rfl, hx⟩))
        go_wp2_with fail
        go_roundw
        case rel =>
          have e1 := HQ.out
          exact ⟨h + 1, j, by go_num, rfl, by omega, by omega, by omega, HE.out.trans (by with_reducible assumption), fun c h1 h2 =>
            leS_trans _ _ _ (HOA.out.le (by omega : s0 ≤ c) (by omega : c ≤ h) (by omega)) (leS_trans _ _ _ (show leS (gt xs h) (gt xs q) = true by rw [HX.out.1, HX.out.2]; exact hle) (HOB.out.le (by omega) (by omega) (by omega))), HHI.out⟩
        case measure => simp [intOf]; omega
    · have k3 : (j : Int) ≤ (i : Int) := by omega
      obtain rfl : i = j := by omega
      obtain ⟨s, hsi⟩ : ∃ s, s = i := ⟨_, rfl⟩
      subst hsi
      obtain ⟨e, he⟩ : ∃ e, n = e + s := ⟨n - s, by omega⟩
      have k4 : (n : Int) - (s : Int) = (e : Int) := by omega
      have HSP := Lib.hid (fun (zs : List (Int × Int)) (h : Rot s r0 e xs zs) => sym_split (d := mid) h (by omega : s0 ≤ s) (by omega) (by omega) (by omega : e ≤ b) (by omega) HOA.out HOB.out
        (fun h1 h2 => by have h := HLO.out (s - 1) (by have := hSZ.out.1; omega) (by omega); rwa [show p - (s - 1) = e by omega] at h)
        (fun h1 h2 => by have h := HHI.out s (by omega) (by omega); rw [show p - s = e - 1 by omega] at h; exact leS_of_lt h))
      clear HO HLO HHI hlt
      by_cases hX : s < r0
      · by_cases hY : s0 < s
        · by_cases hZ : e < b
          · have f1 : (s : Int) < (r0 : Int) := by omega
            have f2 : (r0 : Int) < (e : Int) := by omega
            have f3 : (s0 : Int) < (s : Int) := by omega
            have f4 : (s : Int) < (mid : Int) := by omega
            have f5 : (mid : Int) < (e : Int) := by omega
            have f6 : (e : Int) < (b : Int) := by omega
            go_wp2_with fail
            refine (rotate_any B g N cap s r0 e xs _ hBg HN.out hN2 (by omega) (by omega) (by omega) HW.out).mono ?_
            rintro e1 w1 ⟨rfl, hb1, zs, hyl, ⟨hsg, hrt⟩, ho1⟩
            have SP := Lib.hid (HSP.out zs hrt)
            have SG := Lib.hid (hsg.mono (by omega : s0 ≤ s) (by omega : e ≤ b))
            have HL := Lib.hid hyl
            have HO1 := Lib.hid ho1
            have BE := Lib.hid ((Below.mono HE.out hB).trans hb1)
            clear hb1 hyl hsg hrt ho1
            have hsz : B ≤ w1.heap.size := by have := BE.out.size; omega
            go_wp2_with fail
            refine (HI.out s0 s mid _ _ (by omega) hsz HL.out (by omega) (by omega) (by omega) SP.out.o1 SP.out.o2 HO1.out).mono ?_
            rintro e1 w2 ⟨rfl, hb1, ls, hyl, ⟨hsg, hod⟩, ho1⟩
            have LS := Lib.hid hsg
            have LO := Lib.hid hod
            have HL2 := Lib.hid hyl
            have HO2 := Lib.hid ho1
            have BE2 := Lib.hid (BE.out.trans hb1)
            clear hb1 hyl hsg hod ho1 hsz
            have hsz : B ≤ w2.heap.size := by have := BE2.out.size; omega
            go_wp2_with fail
            refine (HI.out mid e b _ _ (by omega) hsz HL2.out (by omega) (by omega) (by omega) (SP.out.o3.congr fun i h1 h2 => LS.out.out i (by omega)) (SP.out.o4.congr fun i h1 h2 => LS.out.out i (by omega)) HO2.out).mono ?_
            rintro e1 w3 ⟨rfl, hb1, rs, hyl, ⟨hsg, hod⟩, ho1⟩
            have RS := Lib.hid hsg
            have RO := Lib.hid hod
            have HL3 := Lib.hid hyl
            have HO3 := Lib.hid ho1
            have BE3 := Lib.hid (BE2.out.trans hb1)
            clear hb1 hyl hsg hod ho1 hsz
            go_wp2_with fail
            go_end0
            have hd := SP.out.done (by omega) (by omega) (by omega) (by omega) LS.out LO.out RS.out RO.out
            exact ⟨rfl, BE3.out, _, HL3.out, ⟨SG.out.trans hd.1, hd.2⟩, HO3.out⟩
          · have f1 : (s : Int) < (r0 : Int) := by omega
            have f2 : (r0 : Int) < (e : Int) := by omega
            have f3 : (s0 : Int) < (s : Int) := by omega
            have f4 : (s : Int) < (mid : Int) := by omega
            have f5 : (mid : Int) < (e : Int) := by omega
            have f6 : decide (e < b) = false := by simp; omega
            have g6 : (b : Int) ≤ (e : Int) := by omega
            go_wp2_with fail
            refine (rotate_any B g N cap s r0 e xs _ hBg HN.out hN2 (by omega) (by omega) (by omega) HW.out).mono ?_
            rintro e1 w1 ⟨rfl, hb1, zs, hyl, ⟨hsg, hrt⟩, ho1⟩
            have SP := Lib.hid (HSP.out zs hrt)
            have SG := Lib.hid (hsg.mono (by omega : s0 ≤ s) (by omega : e ≤ b))
            have HL := Lib.hid hyl
            have HO1 := Lib.hid ho1
            have BE := Lib.hid ((Below.mono HE.out hB).trans hb1)
            clear hb1 hyl hsg hrt ho1
            have hsz : B ≤ w1.heap.size := by have := BE.out.size; omega
            go_wp2_with fail
            refine (HI.out s0 s mid _ _ (by omega) hsz HL.out (by omega) (by omega) (by omega) SP.out.o1 SP.out.o2 HO1.out).mono ?_
            rintro e1 w2 ⟨rfl, hb1, ls, hyl, ⟨hsg, hod⟩, ho1⟩
            have LS := Lib.hid hsg
            have LO := Lib.hid hod
            have HL2 := Lib.hid hyl
            have HO2 := Lib.hid ho1
            have BE2 := Lib.hid (BE.out.trans hb1)
            clear hb1 hyl hsg hod ho1 hsz
            have hsz : B ≤ w2.heap.size := by have := BE2.out.size; omega
            go_wp2_with fail
            have RS := Lib.hid (Seg.refl mid b ls)
            have RO := Lib.hid (show Ordered mid b ls by first | exact (SP.out.o4.sub (by omega) (by omega)).congr fun i h1 h2 => LS.out.out i (by omega) | exact (SP.out.o3.sub (by omega) (by omega)).congr fun i h1 h2 => LS.out.out i (by omega))
            have HL3 := HL2
            have HO3 := HO2
            have BE3 := BE2
            go_end0
            have hd := SP.out.done (by omega) (by omega) (by omega) (by omega) LS.out LO.out RS.out RO.out
            exact ⟨rfl, BE3.out, _, HL3.out, ⟨SG.out.trans hd.1, hd.2⟩, HO3.out⟩
        · by_cases hZ : e < b
          · have f1 : (s : Int) < (r0 : Int) := by omega
            have f2 : (r0 : Int) < (e : Int) := by omega
            have f3 : decide (s0 < s) = false := by simp; omega
            have g3 : (s : Int) ≤ (s0 : Int) := by omega
            have f4 : (s : Int) < (mid : Int) := by omega
            have f5 : (mid : Int) < (e : Int) := by omega
            have f6 : (e : Int) < (b : Int) := by omega
            go_wp2_with fail
            refine (rotate_any B g N cap s r0 e xs _ hBg HN.out hN2 (by omega) (by omega) (by omega) HW.out).mono ?_
            rintro e1 w1 ⟨rfl, hb1, zs, hyl, ⟨hsg, hrt⟩, ho1⟩
            have SP := Lib.hid (HSP.out zs hrt)
            have SG := Lib.hid (hsg.mono (by omega : s0 ≤ s) (by omega : e ≤ b))
            have HL := Lib.hid hyl
            have HO1 := Lib.hid ho1
            have BE := Lib.hid ((Below.mono HE.out hB).trans hb1)
            clear hb1 hyl hsg hrt ho1
            have hsz : B ≤ w1.heap.size := by have := BE.out.size; omega
            go_wp2_with fail
            have LS := Lib.hid (Seg.refl s0 mid zs)
            have LO := Lib.hid (show Ordered s0 mid _ by first | exact SP.out.o2.sub (by omega) (by omega) | exact SP.out.o1.sub (by omega) (by omega))
            have HL2 := HL
            have HO2 := HO1
            have BE2 := BE
            refine (HI.out mid e b _ _ (by omega) hsz HL2.out (by omega) (by omega) (by omega) (SP.out.o3.congr fun i h1 h2 => LS.out.out i (by omega)) (SP.out.o4.congr fun i h1 h2 => LS.out.out i (by omega)) HO2.out).mono ?_
            rintro e1 w3 ⟨rfl, hb1, rs, hyl, ⟨hsg, hod⟩, ho1⟩
            have RS := Lib.hid hsg
            have RO := Lib.hid hod
            have HL3 := Lib.hid hyl
            have HO3 := Lib.hid ho1
            have BE3 := Lib.hid (BE2.out.trans hb1)
            clear hb1 hyl hsg hod ho1 hsz
            go_wp2_with fail
            go_end0
            have hd := SP.out.done (by omega) (by omega) (by omega) (by omega) LS.out LO.out RS.out RO.out
            exact ⟨rfl, BE3.out, _, HL3.out, ⟨SG.out.trans hd.1, hd.2⟩, HO3.out⟩
          · have f1 : (s : Int) < (r0 : Int) := by omega
            have f2 : (r0 : Int) < (e : Int) := by omega
            have f3 : decide (s0 < s) = false := by simp; omega
            have g3 : (s : Int) ≤ (s0 : Int) := by omega
            have f4 : (s : Int) < (mid : Int) := by omega
            have f5 : (mid : Int) < (e : Int) := by omega
            have f6 : decide (e < b) = false := by simp; omega
            have g6 : (b : Int) ≤ (e : Int) := by omega
            go_wp2_with fail
            refine (rotate_any B g N cap s r0 e xs _ hBg HN.out hN2 (by omega) (by omega) (by omega) HW.out).mono ?_
            rintro e1 w1 ⟨rfl, hb1, zs, hyl, ⟨hsg, hrt⟩, ho1⟩
            have SP := Lib.hid (HSP.out zs hrt)
            have SG := Lib.hid (hsg.mono (by omega : s0 ≤ s) (by omega : e ≤ b))
            have HL := Lib.hid hyl
            have HO1 := Lib.hid ho1
            have BE := Lib.hid ((Below.mono HE.out hB).trans hb1)
            clear hb1 hyl hsg hrt ho1
            have hsz : B ≤ w1.heap.size := by have := BE.out.size; omega
            go_wp2_with fail
            have LS := Lib.hid (Seg.refl s0 mid zs)
            have LO := Lib.hid (show Ordered s0 mid _ by first | exact SP.out.o2.sub (by omega) (by omega) | exact SP.out.o1.sub (by omega) (by omega))
            have HL2 := HL
            have HO2 := HO1
            have BE2 := BE
            have RS := Lib.hid (Seg.refl mid b zs)
            have RO := Lib.hid (show Ordered mid b zs by first | exact (SP.out.o4.sub (by omega) (by omega)).congr fun i h1 h2 => LS.out.out i (by omega) | exact (SP.out.o3.sub (by omega) (by omega)).congr fun i h1 h2 => LS.out.out i (by omega))
            have HL3 := HL2
            have HO3 := HO2
            have BE3 := BE2
            go_end0
            have hd := SP.out.done (by omega) (by omega) (by omega) (by omega) LS.out LO.out RS.out RO.out
            exact ⟨rfl, BE3.out, _, HL3.out, ⟨SG.out.trans hd.1, hd.2⟩, HO3.out⟩
      · by_cases hU : s < mid
        · have f1 : decide (s < r0) = false := by simp; omega
          have g1 : (r0 : Int) ≤ (s : Int) := by omega
          have f2 : (s0 : Int) < (s : Int) := by omega
          have f3 : (s : Int) < (mid : Int) := by omega
          have f4 : decide (mid < e) = false := by simp; omega
          have g4 : (e : Int) ≤ (mid : Int) := by omega
          go_wp2_with fail
          have SP := Lib.hid (HSP.out xs (Rot.same (by omega) xs))
          have SG := Lib.hid (Seg.refl s0 b xs)
          have HL := HN
          have HO1 := HW
          have BE := Lib.hid (Below.mono HE.out hB)
          have hsz : B ≤ wr.heap.size := by have := BE.out.size; omega
          refine (HI.out s0 s mid _ _ (by omega) hsz HL.out (by omega) (by omega) (by omega) SP.out.o1 SP.out.o2 HO1.out).mono ?_
          rintro e1 w2 ⟨rfl, hb1, ls, hyl, ⟨hsg, hod⟩, ho1⟩
          have LS := Lib.hid hsg
          have LO := Lib.hid hod
          have HL2 := Lib.hid hyl
          have HO2 := Lib.hid ho1
          have BE2 := Lib.hid (BE.out.trans hb1)
          clear hb1 hyl hsg hod ho1 hsz
          have hsz : B ≤ w2.heap.size := by have := BE2.out.size; omega
          go_wp2_with fail
          have RS := Lib.hid (Seg.refl mid b ls)
          have RO := Lib.hid (show Ordered mid b ls by first | exact (SP.out.o4.sub (by omega) (by omega)).congr fun i h1 h2 => LS.out.out i (by omega) | exact (SP.out.o3.sub (by omega) (by omega)).congr fun i h1 h2 => LS.out.out i (by omega))
          have HL3 := HL2
          have HO3 := HO2
          have BE3 := BE2
          go_end0
          have hd := SP.out.done (by omega) (by omega) (by omega) (by omega) LS.out LO.out RS.out RO.out
          exact ⟨rfl, BE3.out, _, HL3.out, ⟨SG.out.trans hd.1, hd.2⟩, HO3.out⟩
        · have f1 : decide (s < r0) = false := by simp; omega
          have g1 : (r0 : Int) ≤ (s : Int) := by omega
          have f2 : (s0 : Int) < (s : Int) := by omega
          have f3 : decide (s < mid) = false := by simp; omega
          have g3 : (mid : Int) ≤ (s : Int) := by omega
          have f4 : decide (mid < e) = false := by simp; omega
          have g4 : (e : Int) ≤ (mid : Int) := by omega
          go_wp2_with fail
          have SP := Lib.hid (HSP.out xs (Rot.same (by omega) xs))
          have SG := Lib.hid (Seg.refl s0 b xs)
          have HL := HN
          have HO1 := HW
          have BE := Lib.hid (Below.mono HE.out hB)
          have hsz : B ≤ wr.heap.size := by have := BE.out.size; omega
          have LS := Lib.hid (Seg.refl s0 mid xs)
          have LO := Lib.hid (show Ordered s0 mid _ by first | exact SP.out.o2.sub (by omega) (by omega) | exact SP.out.o1.sub (by omega) (by omega))
          have HL2 := HL
          have HO2 := HO1
          have BE2 := BE
          have RS := Lib.hid (Seg.refl mid b xs)
          have RO := Lib.hid (show Ordered mid b xs by first | exact (SP.out.o4.sub (by omega) (by omega)).congr fun i h1 h2 => LS.out.out i (by omega) | exact (SP.out.o3.sub (by omega) (by omega)).congr fun i h1 h2 => LS.out.out i (by omega))
          have HL3 := HL2
          have HO3 := HO2
          have BE3 := BE2
          go_end0
          have hd := SP.out.done (by omega) (by omega) (by omega) (by omega) LS.out LO.out RS.out RO.out
          exact ⟨rfl, BE3.out, _, HL3.out, ⟨SG.out.trans hd.1, hd.2⟩, HO3.out⟩
end Go.Proofs.Ytllcekmbcmhckaa

/- symMergeCmpFunc at spans and span.by, whole. -/
set_option linter.unusedSimpArgs false
set_option linter.unusedVariables false
namespace Go.Proofs.Ytllcekmbcmhckaa

theorem sym_less (B g N cap : Nat) (hBg : B ≤ g) (hN2 : N ≤ 4000000000000) : ∀ K, SymLess B g N cap K := by
  intro K
  induction K with
  | zero => intro a m b xs w h; omega
  | succ K ih =>
    intro a m b xs w h hB hN ham hmb hb hoA hoB ho
    by_cases c1 : m = a + 1
    · exact symA_any B g N cap a m b xs w hB hBg hN hN2 c1 hmb hb hoB ho
    · by_cases c2 : b = m + 1
      · exact symB_any B g N cap a m b xs w hB hBg hN hN2 (by omega) c2 hb hoA ho
      · have IH : SymLess B g N cap (b - a) := fun a' m' b' xs' w' h' => ih a' m' b' xs' w' (by omega)
        by_cases c3 : (a + b) / 2 < m
        · exact symC1_any B g N cap a m b _ xs w hB hBg hN hN2 (by omega) (by omega) hb rfl c3 hoA hoB IH ho
        · exact symC2_any B g N cap a m b _ xs w hB hBg hN hN2 (by omega) (by omega) hb rfl (by omega) hoA hoB IH ho
theorem sym_any (B g N cap a m b : Nat) (xs : List (Int × Int)) (w : World) (hB : B ≤ w.heap.size) (hBg : B ≤ g) (hN : xs.length = N) (hN2 : N ≤ 4000000000000) (ham : a < m) (hmb : m < b) (hb : b ≤ N)
    (hoA : Ordered a m xs) (hoB : Ordered m b xs) (ho : OwnS w B (.slice (some ⟨g, 0, none⟩) N cap) xs) :
    Calls Try.prog 86 #[.slice (some ⟨g, 0, none⟩) N cap, .int .i64 a, .int .i64 m, .int .i64 b, .func (.func 61) #[] #[]] w
      (InPlace w B g N cap (fun ys => Seg a b xs ys ∧ Ordered a b ys)) :=
  sym_less B g N cap hBg hN2 (b - a + 1) a m b xs w (by omega) hB hN ham hmb hb hoA hoB ho
end Go.Proofs.Ytllcekmbcmhckaa

/- The walks of slices' stableCmpFunc and SortStableFunc, at spans and span.by. -/
set_option linter.unusedSimpArgs false
set_option linter.unusedVariables false
namespace Go.Proofs.Ytllcekmbcmhckaa
open Go.RowKit

theorem insSort_z (B g N cap a b : Nat) (xs : List (Int × Int)) (w : World) (x y : Int) (hx : x = a) (hy : y = b) (hB : B ≤ w.heap.size) (hBg : B ≤ g) (hN : xs.length = N) (hN2 : N ≤ 4000000000000) (hab : a ≤ b) (hb : b ≤ N)
    (ho : OwnS w B (.slice (some ⟨g, 0, none⟩) N cap) xs) :
    Calls Try.prog 85 #[.slice (some ⟨g, 0, none⟩) N cap, .int .i64 x, .int .i64 y, .func (.func 61) #[] #[]] w
      (InPlace w B g N cap (fun ys => Seg a b xs ys ∧ Ordered a b ys)) := by
  subst hx hy
  exact insSort_any B g N cap a b xs w hB hBg hN hN2 hab hb ho
theorem sym_z (B g N cap a m b : Nat) (xs : List (Int × Int)) (w : World) (x y z : Int) (hx : x = a) (hy : y = m) (hz : z = b) (hB : B ≤ w.heap.size) (hBg : B ≤ g) (hN : xs.length = N) (hN2 : N ≤ 4000000000000) (ham : a < m) (hmb : m < b) (hb : b ≤ N)
    (hoA : Ordered a m xs) (hoB : Ordered m b xs) (ho : OwnS w B (.slice (some ⟨g, 0, none⟩) N cap) xs) :
    Calls Try.prog 86 #[.slice (some ⟨g, 0, none⟩) N cap, .int .i64 x, .int .i64 y, .int .i64 z, .func (.func 61) #[] #[]] w
      (InPlace w B g N cap (fun ys => Seg a b xs ys ∧ Ordered a b ys)) := by
  subst hx hy hz
  exact sym_any B g N cap a m b xs w hB hBg hN hN2 ham hmb hb hoA hoB ho

def Stab1 (w : World) (B g N cap : Nat) (xs : List (Int × Int)) (va vb : Value) (wr : World) : Prop :=
  ∃ (a : Nat) (zs : List (Int × Int)), va = .int .i64 a ∧ vb = .int .i64 ((a : Int) + 20) ∧ a ≤ N ∧ Below B w wr ∧ zs.length = N ∧ Seg 0 N xs zs ∧ DBlk 20 zs a ∧ OwnS wr B (.slice (some ⟨g, 0, none⟩) N cap) zs
def Stab2 (w : World) (B g N cap : Nat) (xs : List (Int × Int)) (vs : Value) (wr : World) : Prop :=
  ∃ (s : Nat) (zs : List (Int × Int)), vs = .int .i64 s ∧ 0 < s ∧ s ≤ 8000000000000 ∧ Below B w wr ∧ zs.length = N ∧ Seg 0 N xs zs ∧ Blk s N zs 0 ∧ OwnS wr B (.slice (some ⟨g, 0, none⟩) N cap) zs
def Stab3 (w : World) (B g N cap s : Nat) (xs : List (Int × Int)) (va vb : Value) (wr : World) : Prop :=
  ∃ (a : Nat) (zs : List (Int × Int)), va = .int .i64 a ∧ vb = .int .i64 ((a : Int) + 2 * (s : Int)) ∧ a ≤ N ∧ Below B w wr ∧ zs.length = N ∧ Seg 0 N xs zs ∧ DBlk (2 * s) zs a ∧ Blk s N zs a ∧ OwnS wr B (.slice (some ⟨g, 0, none⟩) N cap) zs

set_option maxRecDepth 100000 in
set_option maxHeartbeats 8000000 in
theorem stable_any (B g N cap : Nat) (xs : List (Int × Int)) (w : World) (hB : B ≤ w.heap.size) (hBg : B ≤ g) (hN : xs.length = N) (hN2 : N ≤ 4000000000000)
    (ho : OwnS w B (.slice (some ⟨g, 0, none⟩) N cap) xs) :
    Calls Try.prog 79 #[.slice (some ⟨g, 0, none⟩) N cap, .int .i64 N, .func (.func 61) #[] #[]] w
      (InPlace w B g N cap (fun ys => Seg 0 N xs ys ∧ Ordered 0 N ys)) := by
  have HO := Lib.hid ho
  have HN := Lib.hid hN
  clear ho hN
  have i0 : (N : Int) ≤ 4000000000000 := by omega
  go_enter Try.func79, Try.ntmps79
  go_wp2_with fail
  go_loopw [7, 8] (fun a b wr => Stab1 w B g N cap xs a b wr) (fun a _ _ => N - (intOf a).toNat)
  case atStart => exact ⟨0, xs, rfl, rfl, by omega, Below.refl _ _, HN.out, Seg.refl _ _ _, DBlk.zero, HO.out⟩
  case round =>
    obtain ⟨a, zs, rfl, rfl, haN, hbel, hzl, hseg, hdb, hown⟩ := hrel
    have HW := Lib.hid hown
    have HBL := Lib.hid hbel
    have HY := Lib.hid hzl
    have HSG := Lib.hid hseg
    have HD := Lib.hid hdb
    clear hown hbel hzl hseg hdb HO HN
    have hsz : B ≤ wr.heap.size := by have := HBL.out.size; omega
    by_cases hlt : a + 20 ≤ N
    · have k1 : (a : Int) + 20 ≤ (N : Int) := by omega
      go_wp2_with fail
      refine (insSort_z B g N cap a (a + 20) zs _ _ _ (by omega) (by omega) hsz hBg HY.out hN2 (by omega) (by omega) HW.out).mono ?_
      rintro e w1 ⟨rfl, hb1, ys, hyl, ⟨hs1, ho1⟩, hw1⟩
      have H1 := Lib.hid hw1
      have H2 := Lib.hid hyl
      have H3 := Lib.hid (HBL.out.trans hb1)
      have H4 := Lib.hid (HSG.out.trans (hs1.mono (by omega : 0 ≤ a) (by omega : a + 20 ≤ N)))
      have H5 := Lib.hid (DBlk.snoc a (HD.out.congr fun i hi => hs1.out i (by omega)) ho1)
      clear hw1 hyl hb1 hs1 ho1
      go_wp2_with fail
      go_roundw
      case rel => exact ⟨a + 20, ys, by go_num, by congr 1, by omega, H3.out, H2.out, H4.out, H5.out, H1.out⟩
      case measure => simp [intOf]; omega
    · have k1 : (N : Int) < (a : Int) + 20 := by omega
      go_wp2_with fail
      refine (insSort_z B g N cap a N zs _ _ _ rfl rfl hsz hBg HY.out hN2 (by omega) (by omega) HW.out).mono ?_
      rintro e w1 ⟨rfl, hb1, ys, hyl, ⟨hs1, ho1⟩, hw1⟩
      have H1 := Lib.hid hw1
      have H2 := Lib.hid hyl
      have H3 := Lib.hid (HBL.out.trans hb1)
      have H4 := Lib.hid (HSG.out.trans (hs1.mono (by omega : 0 ≤ a) (by omega : N ≤ N)))
      have H5 := Lib.hid (DBlk.all (N := N) (HD.out.congr fun i hi => hs1.out i (by omega)) (Blk.last a haN (by omega) ho1) haN)
      clear hw1 hyl hb1 hs1 ho1 HW HBL HY HSG HD hsz
      go_wp2_with fail
      go_loopw [6, 7, 8, 9] (fun s _ _ _ wr => Stab2 w B g N cap xs s wr) (fun s _ _ _ _ => N - (intOf s).toNat)
      case atStart => exact ⟨20, ys, rfl, by omega, by omega, H3.out, H2.out, H4.out, H5.out, H1.out⟩
      case round =>
        clear H1 H2 H3 H4 H5
        obtain ⟨s, zs, rfl, hs0, hs8, hbel, hzl, hseg, hbk, hown⟩ := hrel
        have HW := Lib.hid hown
        have HBL := Lib.hid hbel
        have HY := Lib.hid hzl
        have HSG := Lib.hid hseg
        have HK := Lib.hid hbk
        clear hown hbel hzl hseg hbk
        by_cases hlt : s < N
        rotate_left
        · have k2 : (N : Int) ≤ (s : Int) := by omega
          have k3 : decide (s < N) = false := by simp; omega
          go_wp2_with fail
          go_end0
          exact ⟨rfl, HBL.out, zs, HY.out, ⟨HSG.out, HK.out.one (by omega)⟩, HW.out⟩
        have k2 : (s : Int) < (N : Int) := by omega
        have k3 : (0 : Int) < (s : Int) := by omega
        go_wp2_with fail
        go_loopw [7, 8] (fun a b wr => Stab3 w B g N cap s xs a b wr) (fun a _ _ => N - (intOf a).toNat)
        case atStart => exact ⟨0, zs, rfl, by congr 1; omega, by omega, HBL.out, HY.out, HSG.out, DBlk.zero, HK.out, HW.out⟩
        case round =>
          clear HW HBL HY HSG HK
          obtain ⟨c, ys, rfl, rfl, hcN, hbel, hzl, hseg, hdb, hbk, hown⟩ := hrel
          have HW := Lib.hid hown
          have HBL := Lib.hid hbel
          have HY := Lib.hid hzl
          have HSG := Lib.hid hseg
          have HD := Lib.hid hdb
          have HK := Lib.hid hbk
          clear hown hbel hzl hseg hdb hbk
          have hsz : B ≤ wr.heap.size := by have := HBL.out.size; omega
          by_cases hlt2 : c + 2 * s ≤ N
          · have k4 : (c : Int) + 2 * (s : Int) ≤ (N : Int) := by omega
            obtain ⟨o1, o2, hrest⟩ := HK.out.two hs0 hlt2
            have HR := Lib.hid hrest
            clear hrest
            go_wp2_with fail
            refine (sym_z B g N cap c (c + s) (c + 2 * s) ys _ _ _ _ (by omega) (by omega) (by omega) hsz hBg HY.out hN2 (by omega) (by omega) hlt2 o1 o2 HW.out).mono ?_
            rintro e w2 ⟨rfl, hb1, ts, hyl, ⟨hs1, ho1⟩, hw1⟩
            have H1 := Lib.hid hw1
            have H2 := Lib.hid hyl
            have H3 := Lib.hid (HBL.out.trans hb1)
            have H4 := Lib.hid (HSG.out.trans (hs1.mono (by omega : 0 ≤ c) hlt2))
            have H5 := Lib.hid (DBlk.snoc c (HD.out.congr fun i hi => hs1.out i (by omega)) ho1)
            have H6 := Lib.hid (HR.out.congr fun i hi => hs1.out i (by omega))
            clear hw1 hyl hb1 hs1 ho1 o1 o2
            go_wp2_with fail
            go_roundw
            case rel => exact ⟨c + 2 * s, ts, by go_num, by congr 1, by omega, H3.out, H2.out, H4.out, H5.out, H6.out, H1.out⟩
            case measure => simp [intOf]; omega
          · have k4 : (N : Int) < (c : Int) + 2 * (s : Int) := by omega
            by_cases hms : c + s < N
            · have k5 : (c : Int) + (s : Int) < (N : Int) := by omega
              obtain ⟨o1, o2⟩ := HK.out.lastTwo hms (by omega)
              go_wp2_with fail
              refine (sym_z B g N cap c (c + s) N ys _ _ _ _ (by omega) (by omega) (by omega) hsz hBg HY.out hN2 (by omega) (by omega) (by omega) o1 o2 HW.out).mono ?_
              rintro e w2 ⟨rfl, hb1, ts, hyl, ⟨hs1, ho1⟩, hw1⟩
              have H1 := Lib.hid hw1
              have H2 := Lib.hid hyl
              have H3 := Lib.hid (HBL.out.trans hb1)
              have H4 := Lib.hid (HSG.out.trans (hs1.mono (by omega : 0 ≤ c) (by omega : N ≤ N)))
              have H5 := Lib.hid (DBlk.all (N := N) (HD.out.congr fun i hi => hs1.out i (by omega)) (Blk.last c hcN (by omega) ho1) hcN)
              clear hw1 hyl hb1 hs1 ho1 o1 o2
              go_wp2_with fail
              go_roundw
              case rel => exact ⟨2 * s, ts, by congr 1; omega, by omega, by omega, H3.out, H2.out, H4.out, H5.out, H1.out⟩
              case measure => simp [intOf]; omega
            · have k5 : (N : Int) ≤ (c : Int) + (s : Int) := by omega
              have H5 := Lib.hid (DBlk.all (N := N) HD.out (Blk.last c hcN (by omega) (HK.out.one (by omega))) hcN)
              go_wp2_with fail
              go_roundw
              case rel => exact ⟨2 * s, ys, by congr 1; omega, by omega, by omega, HBL.out, HY.out, HSG.out, H5.out, HW.out⟩
              case measure => simp [intOf]; omega
end Go.Proofs.Ytllcekmbcmhckaa

/- What spans leave of one, as plain lists. Of no program. -/
set_option linter.unusedSimpArgs false
set_option linter.unusedVariables false
namespace Go.Proofs.Ytllcekmbcmhckaa

/-- A word of the whole that no span has. -/
def LeftB (a s : Int) (xs : List (Int × Int)) (p : Int) : Prop := hasB a s p = true ∧ coveredB xs p = false
def GapsOf (a s : Int) (xs zs : List (Int × Int)) : Prop := Canon zs (LeftB a s xs)

theorem between {ys : List (Int × Int)} {es : List Int} (h : EndsOf ys es) {i : Nat} (hi : i + 1 < es.length) {p : Int} (h1 : es[i] ≤ p) (h2 : p < es[i + 1]) {x : Int × Int} (hx : x ∈ ys) (hm : mayB x.1 x.2 = true) : InS x p ↔ InS x es[i] := by
  have no : ∀ z ∈ es, z ≤ es[i] ∨ es[i + 1] ≤ z := by
    intro z hz
    obtain ⟨j, hj, rfl⟩ := List.getElem_of_mem hz
    rcases Nat.lt_trichotomy j i with hlt | rfl | hgt
    · exact .inl (Int.le_of_lt (List.pairwise_iff_getElem.1 h.inc j i (by omega) (by omega) hlt))
    · exact .inl (Int.le_refl _)
    · rcases Nat.lt_or_ge (i + 1) j with h3 | h3
      · exact .inr (Int.le_of_lt (List.pairwise_iff_getElem.1 h.inc (i + 1) j (by omega) (by omega) h3))
      · obtain rfl : j = i + 1 := by omega
        exact .inr (Int.le_refl _)
  have a1 := no x.1 ((h.mem _).2 ⟨x, hx, hm, .inl rfl⟩)
  have a2 := no (x.1 + x.2) ((h.mem _).2 ⟨x, hx, hm, .inr rfl⟩)
  constructor
  · rintro ⟨b1, b2⟩; exact ⟨by omega, by omega⟩
  · rintro ⟨b1, b2⟩; exact ⟨by omega, by omega⟩
theorem left_between {a s : Int} {xs : List (Int × Int)} {es : List Int} (h : EndsOf ((a, s) :: xs) es) {i : Nat} (hi : i + 1 < es.length) {p : Int} (h1 : es[i] ≤ p) (h2 : p < es[i + 1]) : hasB a s p = hasB a s es[i] ∧ coveredB xs p = coveredB xs es[i] := by
  constructor
  · rw [Bool.eq_iff_iff, hasB_iff, hasB_iff]
    exact ⟨fun ⟨hm, hp⟩ => ⟨hm, (between h hi h1 h2 (x := (a, s)) (by simp) hm).1 hp⟩, fun ⟨hm, hp⟩ => ⟨hm, (between h hi h1 h2 (x := (a, s)) (by simp) hm).2 hp⟩⟩
  · rw [Bool.eq_iff_iff, covered_iff, covered_iff]
    exact ⟨fun ⟨x, hx, hm, hp⟩ => ⟨x, hx, hm, (between h hi h1 h2 (by simp [hx]) hm).1 hp⟩, fun ⟨x, hx, hm, hp⟩ => ⟨x, hx, hm, (between h hi h1 h2 (by simp [hx]) hm).2 hp⟩⟩
theorem left_covered {a s : Int} {xs : List (Int × Int)} {p : Int} (h : LeftB a s xs p) : coveredB ((a, s) :: xs) p = true := by
  rw [covered_iff]
  obtain ⟨hm, hp⟩ := hasB_iff.1 h.1
  exact ⟨(a, s), by simp, hm, hp⟩
theorem gap_start {a s : Int} {xs : List (Int × Int)} {es : List Int} (h : EndsOf ((a, s) :: xs) es) (h0 : 0 < es.length) : JoinTo (LeftB a s xs) es[0] [] := by
  refine ⟨Canon.nil fun p hp => ?_, by simp⟩
  obtain ⟨i, hi, h1, h2⟩ := covered_lt h (left_covered hp.1)
  rcases Nat.eq_zero_or_pos i with rfl | h3
  · omega
  · have := List.pairwise_iff_getElem.1 h.inc 0 i h0 (by omega) h3
    have := hp.2
    omega
theorem gap_end {a s : Int} {xs zs : List (Int × Int)} {es : List Int} (h : EndsOf ((a, s) :: xs) es) (h0 : 0 < es.length) (hz : JoinTo (LeftB a s xs) (es[es.length - 1]'(by omega)) zs) : GapsOf a s xs zs := by
  refine hz.canon.congr fun p => ⟨fun a => a.1, fun a => ⟨a, ?_⟩⟩
  obtain ⟨i, hi, h1, h2⟩ := covered_lt h (left_covered a)
  rcases Nat.lt_or_ge (i + 1) (es.length - 1) with h3 | h3
  · have := List.pairwise_iff_getElem.1 h.inc (i + 1) (es.length - 1) hi (by omega) h3
    omega
  · have e : i + 1 = es.length - 1 := by omega
    simp only [← e]
    exact h2
theorem gap_none {a s : Int} {xs : List (Int × Int)} {es : List Int} (h : EndsOf ((a, s) :: xs) es) (h0 : es.length ≤ 0) : GapsOf a s xs [] :=
  Canon.nil fun p hp => by obtain ⟨i, hi, _⟩ := covered_lt h (left_covered hp); omega
theorem gap_nonneg {a s : Int} {xs zs : List (Int × Int)} {e : Int} (h : JoinTo (LeftB a s xs) e zs) : ∀ x ∈ zs, 0 ≤ x.1 ∧ 0 ≤ x.2 ∧ x.1 + x.2 ≤ e := by
  intro x hx
  have h1 := h.canon.pos x hx
  have h2 := h.upto x hx
  have h3 := ((h.canon.mem x.1).1 ⟨x, hx, by omega, by omega⟩).1.1
  obtain ⟨hm, h4, h5⟩ := hasB_iff.1 h3
  have := may_bd hm
  omega

/-- One more joined span: what is left so far, and from where on. -/
def stepG (st : List (Int × Int) × Int) (x : Int × Int) : List (Int × Int) × Int := (if st.2 < x.1 then st.1 ++ [(st.2, x.1 - st.2)] else st.1, max st.2 (x.1 + x.2))
def foldG (a : Int) (l : List (Int × Int)) : List (Int × Int) × Int := l.foldl stepG ([], a)
/-- What is left behind the last. -/
def restG (a s : Int) (st : List (Int × Int) × Int) : List (Int × Int) := if st.2 < a + s then st.1 ++ [(st.2, a + s - st.2)] else st.1
theorem foldG_snoc (a : Int) (l : List (Int × Int)) (x : Int × Int) : foldG a (l ++ [x]) = stepG (foldG a l) x := by simp [foldG]

structure InvG (a : Int) (l : List (Int × Int)) (st : List (Int × Int) × Int) : Prop where
  canon : Canon st.1 (fun p => a ≤ p ∧ p < st.2 ∧ ¬ ∃ x ∈ l, InS x p)
  lt : ∀ y ∈ st.1, y.1 + y.2 < st.2
  ends : ∀ x ∈ l, x.1 + x.2 ≤ st.2
  att : st.2 = a ∨ ∃ x ∈ l, st.2 = x.1 + x.2
  ge : a ≤ st.2
theorem InvG.step {a : Int} {l : List (Int × Int)} {st : List (Int × Int) × Int} {x : Int × Int} (h : InvG a l st) (hx : 1 ≤ x.2) (hl : ∀ y ∈ l, y.1 + y.2 < x.1) : InvG a (l ++ [x]) (stepG st x) := by
  obtain ⟨out, at0⟩ := st
  obtain ⟨hc, hlt, he, ha, hg⟩ := h
  simp only at hc hlt he ha hg
  have hpre : ∀ p, (∃ y ∈ l ++ [x], InS y p) ↔ (∃ y ∈ l, InS y p) ∨ InS x p := by
    intro p
    constructor
    · rintro ⟨y, hy, hp⟩
      rw [List.mem_append, List.mem_singleton] at hy
      rcases hy with hy | rfl
      · exact .inl ⟨y, hy, hp⟩
      · exact .inr hp
    · rintro (⟨y, hy, hp⟩ | hp)
      · exact ⟨y, by simp [hy], hp⟩
      · exact ⟨x, by simp, hp⟩
  have hno : ∀ p, at0 ≤ p → ¬ ∃ y ∈ l, InS y p := by
    rintro p hp ⟨y, hy, h1, h2⟩
    have := he y hy
    omega
  have ends' : ∀ y ∈ l ++ [x], y.1 + y.2 ≤ max at0 (x.1 + x.2) := by
    intro y hy
    rw [List.mem_append, List.mem_singleton] at hy
    rcases hy with hy | rfl
    · have := he y hy; omega
    · omega
  by_cases hj : at0 < x.1
  · have e : stepG (out, at0) x = (out ++ [(at0, x.1 - at0)], max at0 (x.1 + x.2)) := by simp [stepG, hj]
    rw [e]
    refine ⟨canon_append hc (by simp only; omega) hlt fun p => ?_, fun y hy => ?_, ends', .inr ⟨x, by simp, by simp only; omega⟩, by simp only; omega⟩
    · simp only [hpre p]
      constructor
      · rintro ⟨h1, h2, h3⟩
        by_cases hp : p < at0
        · exact .inl ⟨h1, hp, fun h => h3 (.inl h)⟩
        · refine .inr ⟨by simp only; omega, ?_⟩
          have : ¬ InS x p := fun h => h3 (.inr h)
          simp only [InS] at this ⊢
          omega
      · rintro (⟨h1, h2, h3⟩ | ⟨h1, h2⟩)
        · exact ⟨h1, by omega, fun h => h.elim h3 (fun ⟨h4, _⟩ => by omega)⟩
        · simp only at h1 h2
          exact ⟨by omega, by omega, fun h => h.elim (hno p h1) (fun ⟨h4, _⟩ => by omega)⟩
    · rw [List.mem_append, List.mem_singleton] at hy
      rcases hy with hy | rfl
      · have := hlt y hy; simp only; omega
      · simp only; omega
  · have e : stepG (out, at0) x = (out, max at0 (x.1 + x.2)) := by simp [stepG, hj]
    have hat : at0 = a := by
      rcases ha with h | ⟨y, hy, h⟩
      · exact h
      · have := hl y hy; omega
    rw [e]
    refine ⟨hc.congr fun p => ?_, fun y hy => by have := hlt y hy; simp only; omega, ends', ?_, by simp only; omega⟩
    · simp only [hpre p]
      constructor
      · rintro ⟨h1, h2, h3⟩; omega
      · rintro ⟨h1, h2, h3⟩
        exfalso
        have : ¬ InS x p := fun h => h3 (.inr h)
        simp only [InS] at this
        omega
    · by_cases hm : at0 ≤ x.1 + x.2
      · exact .inr ⟨x, by simp, by simp only; omega⟩
      · exact .inl (by simp only; omega)

theorem InvG.start (a : Int) : InvG a [] ([], a) := ⟨Canon.nil (by intro p; simp only; omega), by simp, by simp, .inl rfl, Int.le_refl _⟩
/-- The joined spans rise and lie apart. -/
theorem invG (a : Int) (js : List (Int × Int)) (hp : ∀ x ∈ js, 1 ≤ x.2) (ha : js.Pairwise (fun x y => x.1 + x.2 < y.1)) : ∀ pre, pre <+: js → InvG a pre (foldG a pre) := by
  intro pre
  obtain ⟨n, hn⟩ : ∃ n, pre.length = n := ⟨_, rfl⟩
  induction n generalizing pre with
  | zero =>
    intro _
    obtain rfl := List.eq_nil_of_length_eq_zero hn
    exact InvG.start a
  | succ n ih =>
    intro h
    rcases List.eq_nil_or_concat pre with rfl | ⟨ys, x, rfl⟩
    · simp at hn
    rw [List.concat_eq_append] at *
    have hys : ys <+: js := (List.prefix_append ys [x]).trans h
    rw [foldG_snoc]
    have hpw := ha.sublist h.sublist
    rw [List.pairwise_append] at hpw
    exact (ih ys (by simpa using hn) hys).step (hp x (h.subset (by simp))) fun y hy => hpw.2.2 y hy x (by simp)
/-- All has come. -/
theorem gaps_all {a s : Int} {xs js : List (Int × Int)} (hm : mayB a s = true) (hj : JoinOf xs js) {pre : List (Int × Int)} (hpre : pre <+: js) (hlt : ∀ x ∈ pre, x.1 < a + s)
    (hrest : pre = js ∨ ∃ x, pre ++ [x] <+: js ∧ a + s ≤ x.1) : GapsOf a s xs (restG a s (foldG a pre)) := by
  have hI := invG a js hj.pos hj.apart pre hpre
  have hmb := may_bd hm
  have hcov : ∀ p, p < a + s → (coveredB xs p = true ↔ ∃ x ∈ pre, InS x p) := by
    intro p hp
    rw [← hj.mem p]
    constructor
    · rintro ⟨y, hy, h1, h2⟩
      rcases hrest with rfl | ⟨x, ⟨tl, ht⟩, hx⟩
      · exact ⟨y, hy, h1, h2⟩
      · rw [← ht, List.mem_append, List.mem_append, List.mem_singleton] at hy
        rcases hy with (hy | rfl) | hy
        · exact ⟨y, hy, h1, h2⟩
        · omega
        · have hap := hj.apart
          rw [← ht, List.pairwise_append] at hap
          have := hap.2.2 x (by simp) y hy
          have := hj.pos x (by rw [← ht]; simp)
          omega
    · rintro ⟨y, hy, h⟩
      exact ⟨y, hpre.subset hy, h⟩
  generalize foldG a pre = st at *
  obtain ⟨out, at0⟩ := st
  obtain ⟨hc, hl, he, ha, hg⟩ := hI
  simp only at hc hl he ha hg
  have hleft : ∀ p, LeftB a s xs p ↔ a ≤ p ∧ p < a + s ∧ ¬ ∃ x ∈ pre, InS x p := by
    intro p
    unfold LeftB
    rw [hasB_iff]
    constructor
    · rintro ⟨⟨_, h1, h2⟩, h3⟩
      exact ⟨h1, h2, fun h => by rw [(hcov p h2).2 h] at h3; cases h3⟩
    · rintro ⟨h1, h2, h3⟩
      refine ⟨⟨hm, h1, h2⟩, ?_⟩
      cases hb : coveredB xs p
      · rfl
      · exact absurd ((hcov p h2).1 hb) h3
  have hno : ∀ p, at0 ≤ p → ¬ ∃ y ∈ pre, InS y p := by
    rintro p hp ⟨y, hy, h1, h2⟩
    have := he y hy
    omega
  unfold restG GapsOf
  by_cases hr : at0 < a + s
  · rw [if_pos hr]
    refine canon_append hc (by simp only; omega) hl fun p => ?_
    rw [hleft p]
    constructor
    · rintro ⟨h1, h2, h3⟩
      by_cases hp : p < at0
      · exact .inl ⟨h1, hp, h3⟩
      · exact .inr ⟨by simp only; omega, by simp only; omega⟩
    · rintro (⟨h1, h2, h3⟩ | ⟨h1, h2⟩)
      · exact ⟨h1, by omega, h3⟩
      · simp only at h1 h2
        exact ⟨by omega, by omega, hno p h1⟩
  · rw [if_neg hr]
    refine hc.congr fun p => ?_
    rw [hleft p]
    constructor
    · rintro ⟨h1, h2, h3⟩
      refine ⟨h1, ?_, h3⟩
      rcases ha with h | ⟨y, hy, h⟩
      · omega
      · rcases Int.lt_or_le p (a + s) with h4 | h4
        · exact h4
        · have := hlt y hy
          exact absurd ⟨y, hy, by omega, by omega⟩ h3
    · rintro ⟨h1, h2, h3⟩; exact ⟨h1, by omega, h3⟩
end Go.Proofs.Ytllcekmbcmhckaa

