/- Merged by program (merge.py) out of: SortF, SortG, SortH, SortI, SpanC. -/
import Derived.WalkSpells
import Derived.Lib.SliceRun
import Derived.Test.YtkcpfimhbogdcaaMw20
import Derived.Test.YtkcpfimhbogdcaaMw8
import Derived.Test.YtkcpfimhbogdcaaMw1
/- The walk of slices' symMergeCmpFunc, at spans and span.by: the general way. Printed by mksortf.py. -/
set_option linter.unusedSimpArgs false
set_option linter.unusedVariables false
namespace Go.Proofs.Ytkcpfimhbogdcaa
open Go.RowKit

def SearchC (w : World) (s0 r0 p : Nat) (xs : List (Int × Int)) (vi vj : Value) (wr : World) : Prop :=
  ∃ (i j : Nat), vi = .int .i64 i ∧ vj = .int .i64 j ∧ s0 ≤ i ∧ i ≤ j ∧ j ≤ r0 ∧ Ext w wr ∧ (∀ c, s0 ≤ c → c < i → leS (gt xs c) (gt xs (p - c)) = true) ∧ (∀ c, j ≤ c → c < r0 → leS (gt xs c) (gt xs (p - c)) = false)
theorem Rot.same {s m e : Nat} (h : s = m ∨ e = m) (xs : List (Int × Int)) : Rot s m e xs xs := by
  rcases h with h | h
  · subst h; exact Rot.id1 xs
  · subst h; exact Rot.id2 xs
/-- symMerge at rows shorter than K. -/
def SymLess (B g N cap K : Nat) : Prop := ∀ (a m b : Nat) (xs : List (Int × Int)) (w : World), b - a < K → B ≤ w.heap.size → xs.length = N → a < m → m < b → b ≤ N → Ordered a m xs → Ordered m b xs →
    OwnS w B (.slice (some ⟨g, 0, none⟩) N cap) xs →
    Calls Try.prog 183 #[.slice (some ⟨g, 0, none⟩) N cap, .int .i64 a, .int .i64 m, .int .i64 b, .func (.func 162) #[] #[]] w
      (InPlace w B g N cap (fun ys => Seg a b xs ys ∧ Ordered a b ys))

set_option maxRecDepth 100000 in
set_option maxHeartbeats 8000000 in
theorem symC1_any (B g N cap a m b mid : Nat) (xs : List (Int × Int)) (w : World) (hB : B ≤ w.heap.size) (hBg : B ≤ g) (hN : xs.length = N) (hN2 : N ≤ 4000000000000) (ham : a + 1 < m) (hmb : m + 1 < b) (hb : b ≤ N)
    (hmid : mid = (a + b) / 2) (hc : mid < m) (hoA : Ordered a m xs) (hoB : Ordered m b xs) (IH : SymLess B g N cap (b - a)) (ho : OwnS w B (.slice (some ⟨g, 0, none⟩) N cap) xs) :
    Calls Try.prog 183 #[.slice (some ⟨g, 0, none⟩) N cap, .int .i64 a, .int .i64 m, .int .i64 b, .func (.func 162) #[] #[]] w
      (InPlace w B g N cap (fun ys => Seg a b xs ys ∧ Ordered a b ys)) := by
  have HO := Lib.hid ho
  have HN := Lib.hid hN
  have HI := Lib.hid IH
  have HOA := Lib.hid hoA
  have HOB := Lib.hid hoB
  clear ho hN hoB hoA IH
  obtain ⟨n, hn⟩ : ∃ n, n = mid + m := ⟨_, rfl⟩
  obtain ⟨p, hp⟩ : ∃ p, n = p + 1 := ⟨n - 1, by omega⟩
  obtain ⟨s0, hs⟩ : ∃ s0, s0 = n - b := ⟨_, rfl⟩
  obtain ⟨r0, hr⟩ : ∃ r0, r0 = mid := ⟨_, rfl⟩
  have b0 : a ≤ s0 := by omega
  have b1 : r0 ≤ m := by omega
  have b2 : m + r0 ≤ n := by omega
  have b3 : n ≤ b + s0 := by omega
  have b4 : s0 ≤ r0 := by omega
  have i1 : ((m : Int) - (a : Int) == 1) = false := by simp; omega
  have i2 : ((b : Int) - (m : Int) == 1) = false := by simp; omega
  have i3 : (b : Int) ≤ 4000000000000 := by omega
  have i4 : (0 : Int) ≤ (a : Int) := by omega
  have i5 : (a : Int) < (m : Int) := by omega
  have i6 : (b : Int) ≤ (N : Int) := by omega
  have i7 : (m : Int) < (b : Int) := by omega
  have i8 : ((a : Int) + (b : Int)) / 2 = (mid : Int) := by omega
  have i9 : (mid : Int) + (m : Int) = (n : Int) := by omega
  have m1 : (a : Int) < (mid : Int) := by omega
  have m2 : (mid : Int) < (b : Int) := by omega
  have l2 : (n : Int) - 1 = (p : Int) := by omega
  have l0 : (mid : Int) < (m : Int) := by omega
  have l1 : (n : Int) - (b : Int) = (s0 : Int) := by omega
  have hSZ := Lib.hid (And.intro hs hr)
  clear hs hr hn hp hmid
  have hrm : r0 = mid := hSZ.out.2
  subst hrm
  go_enter Try.func183, Try.ntmps183
  go_wp2_with fail
  go_loopw [20, 21] (fun i j wr => SearchC w s0 r0 p xs i j wr) (fun i j _ => (intOf j).toNat - (intOf i).toNat)
  case atStart => exact ⟨s0, r0, rfl, rfl, by omega, by omega, by omega, Ext.refl _, fun p h1 h2 => by omega, fun p h1 h2 => by omega⟩
  case round =>
    obtain ⟨i, j, rfl, rfl, hmi, hij, hjb, hext, hlo, hhi⟩ := hrel
    have HLO := Lib.hid hlo
    have HHI := Lib.hid hhi
    have HW := Lib.hid (HO.out.ext hext)
    have HE := Lib.hid hext
    clear hlo hhi hext
    by_cases hlt : i < j
    · obtain ⟨h, hh⟩ : ∃ h, h = (i + j) / 2 := ⟨_, rfl⟩
      obtain ⟨q, hq⟩ : ∃ q, p = q + h := ⟨p - h, by omega⟩
      have k1 : (i : Int) ≤ (h : Int) := by omega
      have k2 : (h : Int) < (j : Int) := by omega
      have k3 : (i : Int) < (j : Int) := by omega
      have k4 : (s0 : Int) ≤ (i : Int) := by omega
      have k5 : (j : Int) ≤ (r0 : Int) := by omega
      have hm : ((i : Int) + (j : Int)) / 2 = (h : Int) := by omega
      have hpq : (p : Int) - (h : Int) = (q : Int) := by omega
      have hqN : q < N := by omega
      have hhN : h < N := by omega
      have HH := Lib.hid hh
      have HQ := Lib.hid hq
      clear hh hq
      go_wp2_with fail
      clear hm
      obtain ⟨W, rfl⟩ : ∃ W : World, W = wr := ⟨_, rfl⟩
      have hs0 : Ext W W := Ext.refl W
      obtain ⟨p1, p2, -, -⟩ := HW.out.at HN.out hqN
      obtain ⟨q1, q2, -, -⟩ := HW.out.at HN.out hhN
      obtain ⟨x, hgx⟩ : ∃ x, gt xs q = x := ⟨_, rfl⟩
      obtain ⟨y, hgy⟩ : ∃ y, gt xs h = y := ⟨_, rfl⟩
      rw [hgx] at p1 p2
      rw [hgy] at q1 q2
      have HX := Lib.hid (And.intro hgx hgy)
      clear hgx hgy
      obtain ⟨x1, x2⟩ := x
      obtain ⟨y1, y2⟩ := y
      simp only at p1 p2 q1 q2
      have P1 := Lib.hid p1
      have P2 := Lib.hid p2
      have Q1 := Lib.hid q1
      have Q2 := Lib.hid q2
      clear p1 p2 q1 q2
      have c1 : ∀ w', Ext W w' → w'.cell? ⟨g, q * 2, none⟩ = some (.int .i64 x1) := fun w' h => h.cell P1.out
      have c2 : ∀ w', Ext W w' → w'.cell? ⟨g, q * 2 + 1, none⟩ = some (.int .i64 x2) := fun w' h => h.cell P2.out
      have c3 : ∀ w', Ext W w' → w'.cell? ⟨g, h * 2, none⟩ = some (.int .i64 y1) := fun w' h => h.cell Q1.out
      have c4 : ∀ w', Ext W w' → w'.cell? ⟨g, h * 2 + 1, none⟩ = some (.int .i64 y2) := fun w' h => h.cell Q2.out
      have k6 : (0 : Int) ≤ (h : Int) := by omega
      have k7 : (h : Int) < (N : Int) := by omega
      have k8 : (0 : Int) ≤ (q : Int) := by omega
      have k9 : (q : Int) < (N : Int) := by omega
      have j1 : IntKind.i64.wrap (q : Int) = (q : Int) := IntWalk.i64_in _ (by omega)
      cases hle : leS (y1, y2) (x1, x2)
      · have hz : byZ (x1, x2) (y1, y2) < 0 := byZ_neg.2 hle
        go_region_held3 (fun w1 => Ext W w1) (first | (with_reducible assumption) | (exact Ext.drew (by with_reducible assumption)) | (with_reducible exact Ext.drew (Ext.alloc (by with_reducible assumption) _)) | (with_reducible exact Ext.alloc (by with_reducible assumption) _) | (exact Ext.trans (by with_reducible assumption) (by with_reducible assumption))) (first | (go_at_call 162; refine (by_any (x1, x2) (y1, y2) _).mono ?_; rintro e w1 ⟨rfl, hx⟩))
        go_wp2_with fail
        go_roundw
        case rel =>
          have e1 := HQ.out
          exact ⟨i, h, rfl, rfl, by omega, by omega, by omega, HE.out.trans (by with_reducible assumption), HLO.out, fun c h1 h2 =>
            ltS_trans2 (y := gt xs h) (ltS_trans (y := gt xs q) (HOB.out.le (by omega : m ≤ p - c) (by omega : p - c ≤ q) (by omega)) (by rw [HX.out.1, HX.out.2]; exact hle)) (HOA.out.le (by omega) h1 (by omega))⟩
        case measure => simp [intOf]; omega
      · have hz1 : 0 ≤ byZ (x1, x2) (y1, y2) := by
          by_cases hz : byZ (x1, x2) (y1, y2) < 0
          · rw [byZ_neg.1 hz] at hle; cases hle
          · omega
        have hz2 : decide (byZ (x1, x2) (y1, y2) < 0) = false := by simp; omega
        go_region_held3 (fun w1 => Ext W w1) (first | (with_reducible assumption) | (exact Ext.drew (by with_reducible assumption)) | (with_reducible exact Ext.drew (Ext.alloc (by with_reducible assumption) _)) | (with_reducible exact Ext.alloc (by with_reducible assumption) _) | (exact Ext.trans (by with_reducible assumption) (by with_reducible assumption))) (first | (go_at_call 162; refine (by_any (x1, x2) (y1, y2) _).mono ?_; rintro e w1 ⟨rfl, hx⟩))
        go_wp2_with fail
        go_roundw
        case rel =>
          have e1 := HQ.out
          exact ⟨h + 1, j, by go_num, rfl, by omega, by omega, by omega, HE.out.trans (by with_reducible assumption), fun c h1 h2 =>
            leS_trans _ _ _ (HOA.out.le (by omega : a ≤ c) (by omega : c ≤ h) (by omega)) (leS_trans _ _ _ (show leS (gt xs h) (gt xs q) = true by rw [HX.out.1, HX.out.2]; exact hle) (HOB.out.le (by omega) (by omega) (by omega))), HHI.out⟩
        case measure => simp [intOf]; omega
    · have k3 : (j : Int) ≤ (i : Int) := by omega
      obtain rfl : i = j := by omega
      obtain ⟨s, hsi⟩ : ∃ s, s = i := ⟨_, rfl⟩
      subst hsi
      obtain ⟨e, he⟩ : ∃ e, n = e + s := ⟨n - s, by omega⟩
      have k4 : (n : Int) - (s : Int) = (e : Int) := by omega
      have HSP := Lib.hid (fun (zs : List (Int × Int)) (h : Rot s m e xs zs) => sym_split (d := r0) h (by omega : a ≤ s) (by omega) (by omega) (by omega : e ≤ b) (by omega) HOA.out HOB.out
        (fun h1 h2 => by have h := HLO.out (s - 1) (by have := hSZ.out.1; omega) (by omega); rwa [show p - (s - 1) = e by omega] at h)
        (fun h1 h2 => by have h := HHI.out s (by omega) (by omega); rw [show p - s = e - 1 by omega] at h; exact leS_of_lt h))
      clear HO HLO HHI hlt
      by_cases hX : s < r0
      · by_cases hY : a < s
        · by_cases hZ : e < b
          · have f1 : (s : Int) < (m : Int) := by omega
            have f2 : (m : Int) < (e : Int) := by omega
            have f3 : (a : Int) < (s : Int) := by omega
            have f4 : (s : Int) < (r0 : Int) := by omega
            have f5 : (r0 : Int) < (e : Int) := by omega
            have f6 : (e : Int) < (b : Int) := by omega
            go_wp2_with fail
            refine (rotate_any B g N cap s m e xs _ hBg HN.out hN2 (by omega) (by omega) (by omega) HW.out).mono ?_
            rintro e1 w1 ⟨rfl, hb1, zs, hyl, ⟨hsg, hrt⟩, ho1⟩
            have SP := Lib.hid (HSP.out zs hrt)
            have SG := Lib.hid (hsg.mono (by omega : a ≤ s) (by omega : e ≤ b))
            have HL := Lib.hid hyl
            have HO1 := Lib.hid ho1
            have BE := Lib.hid ((Below.mono HE.out hB).trans hb1)
            clear hb1 hyl hsg hrt ho1
            have hsz : B ≤ w1.heap.size := by have := BE.out.size; omega
            go_wp2_with fail
            refine (HI.out a s r0 _ _ (by omega) hsz HL.out (by omega) (by omega) (by omega) SP.out.o1 SP.out.o2 HO1.out).mono ?_
            rintro e1 w2 ⟨rfl, hb1, ls, hyl, ⟨hsg, hod⟩, ho1⟩
            have LS := Lib.hid hsg
            have LO := Lib.hid hod
            have HL2 := Lib.hid hyl
            have HO2 := Lib.hid ho1
            have BE2 := Lib.hid (BE.out.trans hb1)
            clear hb1 hyl hsg hod ho1 hsz
            have hsz : B ≤ w2.heap.size := by have := BE2.out.size; omega
            go_wp2_with fail
            refine (HI.out r0 e b _ _ (by omega) hsz HL2.out (by omega) (by omega) (by omega) (SP.out.o3.congr fun i h1 h2 => LS.out.out i (by omega)) (SP.out.o4.congr fun i h1 h2 => LS.out.out i (by omega)) HO2.out).mono ?_
            rintro e1 w3 ⟨rfl, hb1, rs, hyl, ⟨hsg, hod⟩, ho1⟩
            have RS := Lib.hid hsg
            have RO := Lib.hid hod
            have HL3 := Lib.hid hyl
            have HO3 := Lib.hid ho1
            have BE3 := Lib.hid (BE2.out.trans hb1)
            clear hb1 hyl hsg hod ho1 hsz
            go_wp2_with fail
            go_end0
            have hd := SP.out.done (by omega) (by omega) (by omega) (by omega) LS.out LO.out RS.out RO.out
            exact ⟨rfl, BE3.out, _, HL3.out, ⟨SG.out.trans hd.1, hd.2⟩, HO3.out⟩
          · have f1 : (s : Int) < (m : Int) := by omega
            have f2 : (m : Int) < (e : Int) := by omega
            have f3 : (a : Int) < (s : Int) := by omega
            have f4 : (s : Int) < (r0 : Int) := by omega
            have f5 : (r0 : Int) < (e : Int) := by omega
            have f6 : decide (e < b) = false := by simp; omega
            have g6 : (b : Int) ≤ (e : Int) := by omega
            go_wp2_with fail
            refine (rotate_any B g N cap s m e xs _ hBg HN.out hN2 (by omega) (by omega) (by omega) HW.out).mono ?_
            rintro e1 w1 ⟨rfl, hb1, zs, hyl, ⟨hsg, hrt⟩, ho1⟩
            have SP := Lib.hid (HSP.out zs hrt)
            have SG := Lib.hid (hsg.mono (by omega : a ≤ s) (by omega : e ≤ b))
            have HL := Lib.hid hyl
            have HO1 := Lib.hid ho1
            have BE := Lib.hid ((Below.mono HE.out hB).trans hb1)
            clear hb1 hyl hsg hrt ho1
            have hsz : B ≤ w1.heap.size := by have := BE.out.size; omega
            go_wp2_with fail
            refine (HI.out a s r0 _ _ (by omega) hsz HL.out (by omega) (by omega) (by omega) SP.out.o1 SP.out.o2 HO1.out).mono ?_
            rintro e1 w2 ⟨rfl, hb1, ls, hyl, ⟨hsg, hod⟩, ho1⟩
            have LS := Lib.hid hsg
            have LO := Lib.hid hod
            have HL2 := Lib.hid hyl
            have HO2 := Lib.hid ho1
            have BE2 := Lib.hid (BE.out.trans hb1)
            clear hb1 hyl hsg hod ho1 hsz
            have hsz : B ≤ w2.heap.size := by have := BE2.out.size; omega
            go_wp2_with fail
            have RS := Lib.hid (Seg.refl r0 b ls)
            have RO := Lib.hid (show Ordered r0 b ls by first | exact (SP.out.o4.sub (by omega) (by omega)).congr fun i h1 h2 => LS.out.out i (by omega) | exact (SP.out.o3.sub (by omega) (by omega)).congr fun i h1 h2 => LS.out.out i (by omega))
            have HL3 := HL2
            have HO3 := HO2
            have BE3 := BE2
            go_end0
            have hd := SP.out.done (by omega) (by omega) (by omega) (by omega) LS.out LO.out RS.out RO.out
            exact ⟨rfl, BE3.out, _, HL3.out, ⟨SG.out.trans hd.1, hd.2⟩, HO3.out⟩
        · by_cases hZ : e < b
          · have f1 : (s : Int) < (m : Int) := by omega
            have f2 : (m : Int) < (e : Int) := by omega
            have f3 : decide (a < s) = false := by simp; omega
            have g3 : (s : Int) ≤ (a : Int) := by omega
            have f4 : (s : Int) < (r0 : Int) := by omega
            have f5 : (r0 : Int) < (e : Int) := by omega
            have f6 : (e : Int) < (b : Int) := by omega
            go_wp2_with fail
            refine (rotate_any B g N cap s m e xs _ hBg HN.out hN2 (by omega) (by omega) (by omega) HW.out).mono ?_
            rintro e1 w1 ⟨rfl, hb1, zs, hyl, ⟨hsg, hrt⟩, ho1⟩
            have SP := Lib.hid (HSP.out zs hrt)
            have SG := Lib.hid (hsg.mono (by omega : a ≤ s) (by omega : e ≤ b))
            have HL := Lib.hid hyl
            have HO1 := Lib.hid ho1
            have BE := Lib.hid ((Below.mono HE.out hB).trans hb1)
            clear hb1 hyl hsg hrt ho1
            have hsz : B ≤ w1.heap.size := by have := BE.out.size; omega
            go_wp2_with fail
            have LS := Lib.hid (Seg.refl a r0 zs)
            have LO := Lib.hid (show Ordered a r0 _ by first | exact SP.out.o2.sub (by omega) (by omega) | exact SP.out.o1.sub (by omega) (by omega))
            have HL2 := HL
            have HO2 := HO1
            have BE2 := BE
            refine (HI.out r0 e b _ _ (by omega) hsz HL2.out (by omega) (by omega) (by omega) (SP.out.o3.congr fun i h1 h2 => LS.out.out i (by omega)) (SP.out.o4.congr fun i h1 h2 => LS.out.out i (by omega)) HO2.out).mono ?_
            rintro e1 w3 ⟨rfl, hb1, rs, hyl, ⟨hsg, hod⟩, ho1⟩
            have RS := Lib.hid hsg
            have RO := Lib.hid hod
            have HL3 := Lib.hid hyl
            have HO3 := Lib.hid ho1
            have BE3 := Lib.hid (BE2.out.trans hb1)
            clear hb1 hyl hsg hod ho1 hsz
            go_wp2_with fail
            go_end0
            have hd := SP.out.done (by omega) (by omega) (by omega) (by omega) LS.out LO.out RS.out RO.out
            exact ⟨rfl, BE3.out, _, HL3.out, ⟨SG.out.trans hd.1, hd.2⟩, HO3.out⟩
          · have f1 : (s : Int) < (m : Int) := by omega
            have f2 : (m : Int) < (e : Int) := by omega
            have f3 : decide (a < s) = false := by simp; omega
            have g3 : (s : Int) ≤ (a : Int) := by omega
            have f4 : (s : Int) < (r0 : Int) := by omega
            have f5 : (r0 : Int) < (e : Int) := by omega
            have f6 : decide (e < b) = false := by simp; omega
            have g6 : (b : Int) ≤ (e : Int) := by omega
            go_wp2_with fail
            refine (rotate_any B g N cap s m e xs _ hBg HN.out hN2 (by omega) (by omega) (by omega) HW.out).mono ?_
            rintro e1 w1 ⟨rfl, hb1, zs, hyl, ⟨hsg, hrt⟩, ho1⟩
            have SP := Lib.hid (HSP.out zs hrt)
            have SG := Lib.hid (hsg.mono (by omega : a ≤ s) (by omega : e ≤ b))
            have HL := Lib.hid hyl
            have HO1 := Lib.hid ho1
            have BE := Lib.hid ((Below.mono HE.out hB).trans hb1)
            clear hb1 hyl hsg hrt ho1
            have hsz : B ≤ w1.heap.size := by have := BE.out.size; omega
            go_wp2_with fail
            have LS := Lib.hid (Seg.refl a r0 zs)
            have LO := Lib.hid (show Ordered a r0 _ by first | exact SP.out.o2.sub (by omega) (by omega) | exact SP.out.o1.sub (by omega) (by omega))
            have HL2 := HL
            have HO2 := HO1
            have BE2 := BE
            have RS := Lib.hid (Seg.refl r0 b zs)
            have RO := Lib.hid (show Ordered r0 b zs by first | exact (SP.out.o4.sub (by omega) (by omega)).congr fun i h1 h2 => LS.out.out i (by omega) | exact (SP.out.o3.sub (by omega) (by omega)).congr fun i h1 h2 => LS.out.out i (by omega))
            have HL3 := HL2
            have HO3 := HO2
            have BE3 := BE2
            go_end0
            have hd := SP.out.done (by omega) (by omega) (by omega) (by omega) LS.out LO.out RS.out RO.out
            exact ⟨rfl, BE3.out, _, HL3.out, ⟨SG.out.trans hd.1, hd.2⟩, HO3.out⟩
      · by_cases hZ : e < b
        · have f1 : (s : Int) < (m : Int) := by omega
          have f2 : decide (m < e) = false := by simp; omega
          have g2 : (e : Int) ≤ (m : Int) := by omega
          have f3 : (a : Int) < (s : Int) := by omega
          have f4 : decide (s < r0) = false := by simp; omega
          have g4 : (r0 : Int) ≤ (s : Int) := by omega
          have f5 : (r0 : Int) < (e : Int) := by omega
          have f6 : (e : Int) < (b : Int) := by omega
          go_wp2_with fail
          have SP := Lib.hid (HSP.out xs (Rot.same (by omega) xs))
          have SG := Lib.hid (Seg.refl a b xs)
          have HL := HN
          have HO1 := HW
          have BE := Lib.hid (Below.mono HE.out hB)
          have hsz : B ≤ wr.heap.size := by have := BE.out.size; omega
          have LS := Lib.hid (Seg.refl a r0 xs)
          have LO := Lib.hid (show Ordered a r0 _ by first | exact SP.out.o2.sub (by omega) (by omega) | exact SP.out.o1.sub (by omega) (by omega))
          have HL2 := HL
          have HO2 := HO1
          have BE2 := BE
          refine (HI.out r0 e b _ _ (by omega) hsz HL2.out (by omega) (by omega) (by omega) (SP.out.o3.congr fun i h1 h2 => LS.out.out i (by omega)) (SP.out.o4.congr fun i h1 h2 => LS.out.out i (by omega)) HO2.out).mono ?_
          rintro e1 w3 ⟨rfl, hb1, rs, hyl, ⟨hsg, hod⟩, ho1⟩
          have RS := Lib.hid hsg
          have RO := Lib.hid hod
          have HL3 := Lib.hid hyl
          have HO3 := Lib.hid ho1
          have BE3 := Lib.hid (BE2.out.trans hb1)
          clear hb1 hyl hsg hod ho1 hsz
          go_wp2_with fail
          go_end0
          have hd := SP.out.done (by omega) (by omega) (by omega) (by omega) LS.out LO.out RS.out RO.out
          exact ⟨rfl, BE3.out, _, HL3.out, ⟨SG.out.trans hd.1, hd.2⟩, HO3.out⟩
        · have f1 : (s : Int) < (m : Int) := by omega
          have f2 : decide (m < e) = false := by simp; omega
          have g2 : (e : Int) ≤ (m : Int) := by omega
          have f3 : (a : Int) < (s : Int) := by omega
          have f4 : decide (s < r0) = false := by simp; omega
          have g4 : (r0 : Int) ≤ (s : Int) := by omega
          have f5 : (r0 : Int) < (e : Int) := by omega
          have f6 : decide (e < b) = false := by simp; omega
          have g6 : (b : Int) ≤ (e : Int) := by omega
          go_wp2_with fail
          have SP := Lib.hid (HSP.out xs (Rot.same (by omega) xs))
          have SG := Lib.hid (Seg.refl a b xs)
          have HL := HN
          have HO1 := HW
          have BE := Lib.hid (Below.mono HE.out hB)
          have hsz : B ≤ wr.heap.size := by have := BE.out.size; omega
          have LS := Lib.hid (Seg.refl a r0 xs)
          have LO := Lib.hid (show Ordered a r0 _ by first | exact SP.out.o2.sub (by omega) (by omega) | exact SP.out.o1.sub (by omega) (by omega))
          have HL2 := HL
          have HO2 := HO1
          have BE2 := BE
          have RS := Lib.hid (Seg.refl r0 b xs)
          have RO := Lib.hid (show Ordered r0 b xs by first | exact (SP.out.o4.sub (by omega) (by omega)).congr fun i h1 h2 => LS.out.out i (by omega) | exact (SP.out.o3.sub (by omega) (by omega)).congr fun i h1 h2 => LS.out.out i (by omega))
          have HL3 := HL2
          have HO3 := HO2
          have BE3 := BE2
          go_end0
          have hd := SP.out.done (by omega) (by omega) (by omega) (by omega) LS.out LO.out RS.out RO.out
          exact ⟨rfl, BE3.out, _, HL3.out, ⟨SG.out.trans hd.1, hd.2⟩, HO3.out⟩

set_option maxRecDepth 100000 in
set_option maxHeartbeats 8000000 in
theorem symC2_any (B g N cap a m b mid : Nat) (xs : List (Int × Int)) (w : World) (hB : B ≤ w.heap.size) (hBg : B ≤ g) (hN : xs.length = N) (hN2 : N ≤ 4000000000000) (ham : a + 1 < m) (hmb : m + 1 < b) (hb : b ≤ N)
    (hmid : mid = (a + b) / 2) (hc : m ≤ mid) (hoA : Ordered a m xs) (hoB : Ordered m b xs) (IH : SymLess B g N cap (b - a)) (ho : OwnS w B (.slice (some ⟨g, 0, none⟩) N cap) xs) :
    Calls Try.prog 183 #[.slice (some ⟨g, 0, none⟩) N cap, .int .i64 a, .int .i64 m, .int .i64 b, .func (.func 162) #[] #[]] w
      (InPlace w B g N cap (fun ys => Seg a b xs ys ∧ Ordered a b ys)) := by
  have HO := Lib.hid ho
  have HN := Lib.hid hN
  have HI := Lib.hid IH
  have HOA := Lib.hid hoA
  have HOB := Lib.hid hoB
  clear ho hN hoB hoA IH
  obtain ⟨n, hn⟩ : ∃ n, n = mid + m := ⟨_, rfl⟩
  obtain ⟨p, hp⟩ : ∃ p, n = p + 1 := ⟨n - 1, by omega⟩
  obtain ⟨s0, hs⟩ : ∃ s0, s0 = a := ⟨_, rfl⟩
  obtain ⟨r0, hr⟩ : ∃ r0, r0 = m := ⟨_, rfl⟩
  have b0 : a ≤ s0 := by omega
  have b1 : r0 ≤ m := by omega
  have b2 : m + r0 ≤ n := by omega
  have b3 : n ≤ b + s0 := by omega
  have b4 : s0 ≤ r0 := by omega
  have i1 : ((m : Int) - (a : Int) == 1) = false := by simp; omega
  have i2 : ((b : Int) - (m : Int) == 1) = false := by simp; omega
  have i3 : (b : Int) ≤ 4000000000000 := by omega
  have i4 : (0 : Int) ≤ (a : Int) := by omega
  have i5 : (a : Int) < (m : Int) := by omega
  have i6 : (b : Int) ≤ (N : Int) := by omega
  have i7 : (m : Int) < (b : Int) := by omega
  have i8 : ((a : Int) + (b : Int)) / 2 = (mid : Int) := by omega
  have i9 : (mid : Int) + (m : Int) = (n : Int) := by omega
  have m1 : (a : Int) < (mid : Int) := by omega
  have m2 : (mid : Int) < (b : Int) := by omega
  have l2 : (n : Int) - 1 = (p : Int) := by omega
  have l0 : (m : Int) ≤ (mid : Int) := by omega
  have l1 : decide (mid < m) = false := by simp; omega
  have hSZ := Lib.hid (And.intro hs hr)
  clear hs hr hn hp hmid
  have hsa : s0 = a := hSZ.out.1
  have hrm : r0 = m := hSZ.out.2
  subst hsa hrm
  go_enter Try.func183, Try.ntmps183
  go_wp2_with fail
  go_loopw [20, 21] (fun i j wr => SearchC w s0 r0 p xs i j wr) (fun i j _ => (intOf j).toNat - (intOf i).toNat)
  case atStart => exact ⟨s0, r0, rfl, rfl, by omega, by omega, by omega, Ext.refl _, fun p h1 h2 => by omega, fun p h1 h2 => by omega⟩
  case round =>
    obtain ⟨i, j, rfl, rfl, hmi, hij, hjb, hext, hlo, hhi⟩ := hrel
    have HLO := Lib.hid hlo
    have HHI := Lib.hid hhi
    have HW := Lib.hid (HO.out.ext hext)
    have HE := Lib.hid hext
    clear hlo hhi hext
    by_cases hlt : i < j
    · obtain ⟨h, hh⟩ : ∃ h, h = (i + j) / 2 := ⟨_, rfl⟩
      obtain ⟨q, hq⟩ : ∃ q, p = q + h := ⟨p - h, by omega⟩
      have k1 : (i : Int) ≤ (h : Int) := by omega
      have k2 : (h : Int) < (j : Int) := by omega
      have k3 : (i : Int) < (j : Int) := by omega
      have k4 : (s0 : Int) ≤ (i : Int) := by omega
      have k5 : (j : Int) ≤ (r0 : Int) := by omega
      have hm : ((i : Int) + (j : Int)) / 2 = (h : Int) := by omega
      have hpq : (p : Int) - (h : Int) = (q : Int) := by omega
      have hqN : q < N := by omega
      have hhN : h < N := by omega
      have HH := Lib.hid hh
      have HQ := Lib.hid hq
      clear hh hq
      go_wp2_with fail
      clear hm
      obtain ⟨W, rfl⟩ : ∃ W : World, W = wr := ⟨_, rfl⟩
      have hs0 : Ext W W := Ext.refl W
      obtain ⟨p1, p2, -, -⟩ := HW.out.at HN.out hqN
      obtain ⟨q1, q2, -, -⟩ := HW.out.at HN.out hhN
      obtain ⟨x, hgx⟩ : ∃ x, gt xs q = x := ⟨_, rfl⟩
      obtain ⟨y, hgy⟩ : ∃ y, gt xs h = y := ⟨_, rfl⟩
      rw [hgx] at p1 p2
      rw [hgy] at q1 q2
      have HX := Lib.hid (And.intro hgx hgy)
      clear hgx hgy
      obtain ⟨x1, x2⟩ := x
      obtain ⟨y1, y2⟩ := y
      simp only at p1 p2 q1 q2
      have P1 := Lib.hid p1
      have P2 := Lib.hid p2
      have Q1 := Lib.hid q1
      have Q2 := Lib.hid q2
      clear p1 p2 q1 q2
      have c1 : ∀ w', Ext W w' → w'.cell? ⟨g, q * 2, none⟩ = some (.int .i64 x1) := fun w' h => h.cell P1.out
      have c2 : ∀ w', Ext W w' → w'.cell? ⟨g, q * 2 + 1, none⟩ = some (.int .i64 x2) := fun w' h => h.cell P2.out
      have c3 : ∀ w', Ext W w' → w'.cell? ⟨g, h * 2, none⟩ = some (.int .i64 y1) := fun w' h => h.cell Q1.out
      have c4 : ∀ w', Ext W w' → w'.cell? ⟨g, h * 2 + 1, none⟩ = some (.int .i64 y2) := fun w' h => h.cell Q2.out
      have k6 : (0 : Int) ≤ (h : Int) := by omega
      have k7 : (h : Int) < (N : Int) := by omega
      have k8 : (0 : Int) ≤ (q : Int) := by omega
      have k9 : (q : Int) < (N : Int) := by omega
      have j1 : IntKind.i64.wrap (q : Int) = (q : Int) := IntWalk.i64_in _ (by omega)
      cases hle : leS (y1, y2) (x1, x2)
      · have hz : byZ (x1, x2) (y1, y2) < 0 := byZ_neg.2 hle
        go_region_held3 (fun w1 => Ext W w1) (first | (with_reducible assumption) | (exact Ext.drew (by with_reducible assumption)) | (with_reducible exact Ext.drew (Ext.alloc (by with_reducible assumption) _)) | (with_reducible exact Ext.alloc (by with_reducible assumption) _) | (exact Ext.trans (by with_reducible assumption) (by with_reducible assumption))) (first | (go_at_call 162; refine (by_any (x1, x2) (y1, y2) _).mono ?_; rintro e w1 ⟨rfl, hx⟩))
        go_wp2_with fail
        go_roundw
        case rel =>
          have e1 := HQ.out
          exact ⟨i, h, rfl, rfl, by omega, by omega, by omega, HE.out.trans (by with_reducible assumption), HLO.out, fun c h1 h2 =>
            ltS_trans2 (y := gt xs h) (ltS_trans (y := gt xs q) (HOB.out.le (by omega : r0 ≤ p - c) (by omega : p - c ≤ q) (by omega)) (by rw [HX.out.1, HX.out.2]; exact hle)) (HOA.out.le (by omega) h1 (by omega))⟩
        case measure => simp [intOf]; omega
      · have hz1 : 0 ≤ byZ (x1, x2) (y1, y2) := by
          by_cases hz : byZ (x1, x2) (y1, y2) < 0
          · rw [byZ_neg.1 hz] at hle; cases hle
          · omega
        have hz2 : decide (byZ (x1, x2) (y1, y2) < 0) = false := by simp; omega
        go_region_held3 (fun w1 => Ext W w1) (first | (with_reducible assumption) | (exact Ext.drew (by with_reducible assumption)) | (with_reducible exact Ext.drew (Ext.alloc (by with_reducible assumption) _)) | (with_reducible exact Ext.alloc (by with_reducible assumption) _) | (exact Ext.trans (by with_reducible assumption) (by with_reducible assumption))) (first | (go_at_call 162; refine (by_any (x1, x2) (y1, y2) _).mono ?_; rintro e w1 ⟨rfl, hx⟩))
        go_wp2_with fail
        go_roundw
        case rel =>
          have e1 := HQ.out
          exact ⟨h + 1, j, by go_num, rfl, by omega, by omega, by omega, HE.out.trans (by with_reducible assumption), fun c h1 h2 =>
            leS_trans _ _ _ (HOA.out.le (by omega : s0 ≤ c) (by omega : c ≤ h) (by omega)) (leS_trans _ _ _ (show leS (gt xs h) (gt xs q) = true by rw [HX.out.1, HX.out.2]; exact hle) (HOB.out.le (by omega) (by omega) (by omega))), HHI.out⟩
        case measure => simp [intOf]; omega
    · have k3 : (j : Int) ≤ (i : Int) := by omega
      obtain rfl : i = j := by omega
      obtain ⟨s, hsi⟩ : ∃ s, s = i := ⟨_, rfl⟩
      subst hsi
      obtain ⟨e, he⟩ : ∃ e, n = e + s := ⟨n - s, by omega⟩
      have k4 : (n : Int) - (s : Int) = (e : Int) := by omega
      have HSP := Lib.hid (fun (zs : List (Int × Int)) (h : Rot s r0 e xs zs) => sym_split (d := mid) h (by omega : s0 ≤ s) (by omega) (by omega) (by omega : e ≤ b) (by omega) HOA.out HOB.out
        (fun h1 h2 => by have h := HLO.out (s - 1) (by have := hSZ.out.1; omega) (by omega); rwa [show p - (s - 1) = e by omega] at h)
        (fun h1 h2 => by have h := HHI.out s (by omega) (by omega); rw [show p - s = e - 1 by omega] at h; exact leS_of_lt h))
      clear HO HLO HHI hlt
      by_cases hX : s < r0
      · by_cases hY : s0 < s
        · by_cases hZ : e < b
          · have f1 : (s : Int) < (r0 : Int) := by omega
            have f2 : (r0 : Int) < (e : Int) := by omega
            have f3 : (s0 : Int) < (s : Int) := by omega
            have f4 : (s : Int) < (mid : Int) := by omega
            have f5 : (mid : Int) < (e : Int) := by omega
            have f6 : (e : Int) < (b : Int) := by omega
            go_wp2_with fail
            refine (rotate_any B g N cap s r0 e xs _ hBg HN.out hN2 (by omega) (by omega) (by omega) HW.out).mono ?_
            rintro e1 w1 ⟨rfl, hb1, zs, hyl, ⟨hsg, hrt⟩, ho1⟩
            have SP := Lib.hid (HSP.out zs hrt)
            have SG := Lib.hid (hsg.mono (by omega : s0 ≤ s) (by omega : e ≤ b))
            have HL := Lib.hid hyl
            have HO1 := Lib.hid ho1
            have BE := Lib.hid ((Below.mono HE.out hB).trans hb1)
            clear hb1 hyl hsg hrt ho1
            have hsz : B ≤ w1.heap.size := by have := BE.out.size; omega
            go_wp2_with fail
            refine (HI.out s0 s mid _ _ (by omega) hsz HL.out (by omega) (by omega) (by omega) SP.out.o1 SP.out.o2 HO1.out).mono ?_
            rintro e1 w2 ⟨rfl, hb1, ls, hyl, ⟨hsg, hod⟩, ho1⟩
            have LS := Lib.hid hsg
            have LO := Lib.hid hod
            have HL2 := Lib.hid hyl
            have HO2 := Lib.hid ho1
            have BE2 := Lib.hid (BE.out.trans hb1)
            clear hb1 hyl hsg hod ho1 hsz
            have hsz : B ≤ w2.heap.size := by have := BE2.out.size; omega
            go_wp2_with fail
            refine (HI.out mid e b _ _ (by omega) hsz HL2.out (by omega) (by omega) (by omega) (SP.out.o3.congr fun i h1 h2 => LS.out.out i (by omega)) (SP.out.o4.congr fun i h1 h2 => LS.out.out i (by omega)) HO2.out).mono ?_
            rintro e1 w3 ⟨rfl, hb1, rs, hyl, ⟨hsg, hod⟩, ho1⟩
            have RS := Lib.hid hsg
            have RO := Lib.hid hod
            have HL3 := Lib.hid hyl
            have HO3 := Lib.hid ho1
            have BE3 := Lib.hid (BE2.out.trans hb1)
            clear hb1 hyl hsg hod ho1 hsz
            go_wp2_with fail
            go_end0
            have hd := SP.out.done (by omega) (by omega) (by omega) (by omega) LS.out LO.out RS.out RO.out
            exact ⟨rfl, BE3.out, _, HL3.out, ⟨SG.out.trans hd.1, hd.2⟩, HO3.out⟩
          · have f1 : (s : Int) < (r0 : Int) := by omega
            have f2 : (r0 : Int) < (e : Int) := by omega
            have f3 : (s0 : Int) < (s : Int) := by omega
            have f4 : (s : Int) < (mid : Int) := by omega
            have f5 : (mid : Int) < (e : Int) := by omega
            have f6 : decide (e < b) = false := by simp; omega
            have g6 : (b : Int) ≤ (e : Int) := by omega
            go_wp2_with fail
            refine (rotate_any B g N cap s r0 e xs _ hBg HN.out hN2 (by omega) (by omega) (by omega) HW.out).mono ?_
            rintro e1 w1 ⟨rfl, hb1, zs, hyl, ⟨hsg, hrt⟩, ho1⟩
            have SP := Lib.hid (HSP.out zs hrt)
            have SG := Lib.hid (hsg.mono (by omega : s0 ≤ s) (by omega : e ≤ b))
            have HL := Lib.hid hyl
            have HO1 := Lib.hid ho1
            have BE := Lib.hid ((Below.mono HE.out hB).trans hb1)
            clear hb1 hyl hsg hrt ho1
            have hsz : B ≤ w1.heap.size := by have := BE.out.size; omega
            go_wp2_with fail
            refine (HI.out s0 s mid _ _ (by omega) hsz HL.out (by omega) (by omega) (by omega) SP.out.o1 SP.out.o2 HO1.out).mono ?_
            rintro e1 w2 ⟨rfl, hb1, ls, hyl, ⟨hsg, hod⟩, ho1⟩
            have LS := Lib.hid hsg
            have LO := Lib.hid hod
            have HL2 := Lib.hid hyl
            have HO2 := Lib.hid ho1
            have BE2 := Lib.hid (BE.out.trans hb1)
            clear hb1 hyl hsg hod ho1 hsz
            have hsz : B ≤ w2.heap.size := by have := BE2.out.size; omega
            go_wp2_with fail
            have RS := Lib.hid (Seg.refl mid b ls)
            have RO := Lib.hid (show Ordered mid b ls by first | exact (SP.out.o4.sub (by omega) (by omega)).congr fun i h1 h2 => LS.out.out i (by omega) | exact (SP.out.o3.sub (by omega) (by omega)).congr fun i h1 h2 => LS.out.out i (by omega))
            have HL3 := HL2
            have HO3 := HO2
            have BE3 := BE2
            go_end0
            have hd := SP.out.done (by omega) (by omega) (by omega) (by omega) LS.out LO.out RS.out RO.out
            exact ⟨rfl, BE3.out, _, HL3.out, ⟨SG.out.trans hd.1, hd.2⟩, HO3.out⟩
        · by_cases hZ : e < b
          · have f1 : (s : Int) < (r0 : Int) := by omega
            have f2 : (r0 : Int) < (e : Int) := by omega
            have f3 : decide (s0 < s) = false := by simp; omega
            have g3 : (s : Int) ≤ (s0 : Int) := by omega
            have f4 : (s : Int) < (mid : Int) := by omega
            have f5 : (mid : Int) < (e : Int) := by omega
            have f6 : (e : Int) < (b : Int) := by omega
            go_wp2_with fail
            refine (rotate_any B g N cap s r0 e xs _ hBg HN.out hN2 (by omega) (by omega) (by omega) HW.out).mono ?_
            rintro e1 w1 ⟨rfl, hb1, zs, hyl, ⟨hsg, hrt⟩, ho1⟩
            have SP := Lib.hid (HSP.out zs hrt)
            have SG := Lib.hid (hsg.mono (by omega : s0 ≤ s) (by omega : e ≤ b))
            have HL := Lib.hid hyl
            have HO1 := Lib.hid ho1
            have BE := Lib.hid ((Below.mono HE.out hB).trans hb1)
            clear hb1 hyl hsg hrt ho1
            have hsz : B ≤ w1.heap.size := by have := BE.out.size; omega
            go_wp2_with fail
            have LS := Lib.hid (Seg.refl s0 mid zs)
            have LO := Lib.hid (show Ordered s0 mid _ by first | exact SP.out.o2.sub (by omega) (by omega) | exact SP.out.o1.sub (by omega) (by omega))
            have HL2 := HL
            have HO2 := HO1
            have BE2 := BE
            refine (HI.out mid e b _ _ (by omega) hsz HL2.out (by omega) (by omega) (by omega) (SP.out.o3.congr fun i h1 h2 => LS.out.out i (by omega)) (SP.out.o4.congr fun i h1 h2 => LS.out.out i (by omega)) HO2.out).mono ?_
            rintro e1 w3 ⟨rfl, hb1, rs, hyl, ⟨hsg, hod⟩, ho1⟩
            have RS := Lib.hid hsg
            have RO := Lib.hid hod
            have HL3 := Lib.hid hyl
            have HO3 := Lib.hid ho1
            have BE3 := Lib.hid (BE2.out.trans hb1)
            clear hb1 hyl hsg hod ho1 hsz
            go_wp2_with fail
            go_end0
            have hd := SP.out.done (by omega) (by omega) (by omega) (by omega) LS.out LO.out RS.out RO.out
            exact ⟨rfl, BE3.out, _, HL3.out, ⟨SG.out.trans hd.1, hd.2⟩, HO3.out⟩
          · have f1 : (s : Int) < (r0 : Int) := by omega
            have f2 : (r0 : Int) < (e : Int) := by omega
            have f3 : decide (s0 < s) = false := by simp; omega
            have g3 : (s : Int) ≤ (s0 : Int) := by omega
            have f4 : (s : Int) < (mid : Int) := by omega
            have f5 : (mid : Int) < (e : Int) := by omega
            have f6 : decide (e < b) = false := by simp; omega
            have g6 : (b : Int) ≤ (e : Int) := by omega
            go_wp2_with fail
            refine (rotate_any B g N cap s r0 e xs _ hBg HN.out hN2 (by omega) (by omega) (by omega) HW.out).mono ?_
            rintro e1 w1 ⟨rfl, hb1, zs, hyl, ⟨hsg, hrt⟩, ho1⟩
            have SP := Lib.hid (HSP.out zs hrt)
            have SG := Lib.hid (hsg.mono (by omega : s0 ≤ s) (by omega : e ≤ b))
            have HL := Lib.hid hyl
            have HO1 := Lib.hid ho1
            have BE := Lib.hid ((Below.mono HE.out hB).trans hb1)
            clear hb1 hyl hsg hrt ho1
            have hsz : B ≤ w1.heap.size := by have := BE.out.size; omega
            go_wp2_with fail
            have LS := Lib.hid (Seg.refl s0 mid zs)
            have LO := Lib.hid (show Ordered s0 mid _ by first | exact SP.out.o2.sub (by omega) (by omega) | exact SP.out.o1.sub (by omega) (by omega))
            have HL2 := HL
            have HO2 := HO1
            have BE2 := BE
            have RS := Lib.hid (Seg.refl mid b zs)
            have RO := Lib.hid (show Ordered mid b zs by first | exact (SP.out.o4.sub (by omega) (by omega)).congr fun i h1 h2 => LS.out.out i (by omega) | exact (SP.out.o3.sub (by omega) (by omega)).congr fun i h1 h2 => LS.out.out i (by omega))
            have HL3 := HL2
            have HO3 := HO2
            have BE3 := BE2
            go_end0
            have hd := SP.out.done (by omega) (by omega) (by omega) (by omega) LS.out LO.out RS.out RO.out
            exact ⟨rfl, BE3.out, _, HL3.out, ⟨SG.out.trans hd.1, hd.2⟩, HO3.out⟩
      · by_cases hU : s < mid
        · have f1 : decide (s < r0) = false := by simp; omega
          have g1 : (r0 : Int) ≤ (s : Int) := by omega
          have f2 : (s0 : Int) < (s : Int) := by omega
          have f3 : (s : Int) < (mid : Int) := by omega
          have f4 : decide (mid < e) = false := by simp; omega
          have g4 : (e : Int) ≤ (mid : Int) := by omega
          go_wp2_with fail
          have SP := Lib.hid (HSP.out xs (Rot.same (by omega) xs))
          have SG := Lib.hid (Seg.refl s0 b xs)
          have HL := HN
          have HO1 := HW
          have BE := Lib.hid (Below.mono HE.out hB)
          have hsz : B ≤ wr.heap.size := by have := BE.out.size; omega
          refine (HI.out s0 s mid _ _ (by omega) hsz HL.out (by omega) (by omega) (by omega) SP.out.o1 SP.out.o2 HO1.out).mono ?_
          rintro e1 w2 ⟨rfl, hb1, ls, hyl, ⟨hsg, hod⟩, ho1⟩
          have LS := Lib.hid hsg
          have LO := Lib.hid hod
          have HL2 := Lib.hid hyl
          have HO2 := Lib.hid ho1
          have BE2 := Lib.hid (BE.out.trans hb1)
          clear hb1 hyl hsg hod ho1 hsz
          have hsz : B ≤ w2.heap.size := by have := BE2.out.size; omega
          go_wp2_with fail
          have RS := Lib.hid (Seg.refl mid b ls)
          have RO := Lib.hid (show Ordered mid b ls by first | exact (SP.out.o4.sub (by omega) (by omega)).congr fun i h1 h2 => LS.out.out i (by omega) | exact (SP.out.o3.sub (by omega) (by omega)).congr fun i h1 h2 => LS.out.out i (by omega))
          have HL3 := HL2
          have HO3 := HO2
          have BE3 := BE2
          go_end0
          have hd := SP.out.done (by omega) (by omega) (by omega) (by omega) LS.out LO.out RS.out RO.out
          exact ⟨rfl, BE3.out, _, HL3.out, ⟨SG.out.trans hd.1, hd.2⟩, HO3.out⟩
        · have f1 : decide (s < r0) = false := by simp; omega
          have g1 : (r0 : Int) ≤ (s : Int) := by omega
          have f2 : (s0 : Int) < (s : Int) := by omega
          have f3 : decide (s < mid) = false := by simp; omega
          have g3 : (mid : Int) ≤ (s : Int) := by omega
          have f4 : decide (mid < e) = false := by simp; omega
          have g4 : (e : Int) ≤ (mid : Int) := by omega
          go_wp2_with fail
          have SP := Lib.hid (HSP.out xs (Rot.same (by omega) xs))
          have SG := Lib.hid (Seg.refl s0 b xs)
          have HL := HN
          have HO1 := HW
          have BE := Lib.hid (Below.mono HE.out hB)
          have hsz : B ≤ wr.heap.size := by have := BE.out.size; omega
          have LS := Lib.hid (Seg.refl s0 mid xs)
          have LO := Lib.hid (show Ordered s0 mid _ by first | exact SP.out.o2.sub (by omega) (by omega) | exact SP.out.o1.sub (by omega) (by omega))
          have HL2 := HL
          have HO2 := HO1
          have BE2 := BE
          have RS := Lib.hid (Seg.refl mid b xs)
          have RO := Lib.hid (show Ordered mid b xs by first | exact (SP.out.o4.sub (by omega) (by omega)).congr fun i h1 h2 => LS.out.out i (by omega) | exact (SP.out.o3.sub (by omega) (by omega)).congr fun i h1 h2 => LS.out.out i (by omega))
          have HL3 := HL2
          have HO3 := HO2
          have BE3 := BE2
          go_end0
          have hd := SP.out.done (by omega) (by omega) (by omega) (by omega) LS.out LO.out RS.out RO.out
          exact ⟨rfl, BE3.out, _, HL3.out, ⟨SG.out.trans hd.1, hd.2⟩, HO3.out⟩
end Go.Proofs.Ytkcpfimhbogdcaa

/- symMergeCmpFunc at spans and span.by, whole. -/
set_option linter.unusedSimpArgs false
set_option linter.unusedVariables false
namespace Go.Proofs.Ytkcpfimhbogdcaa

theorem sym_less (B g N cap : Nat) (hBg : B ≤ g) (hN2 : N ≤ 4000000000000) : ∀ K, SymLess B g N cap K := by
  intro K
  induction K with
  | zero => intro a m b xs w h; omega
  | succ K ih =>
    intro a m b xs w h hB hN ham hmb hb hoA hoB ho
    by_cases c1 : m = a + 1
    · exact symA_any B g N cap a m b xs w hB hBg hN hN2 c1 hmb hb hoB ho
    · by_cases c2 : b = m + 1
      · exact symB_any B g N cap a m b xs w hB hBg hN hN2 (by omega) c2 hb hoA ho
      · have IH : SymLess B g N cap (b - a) := fun a' m' b' xs' w' h' => ih a' m' b' xs' w' (by omega)
        by_cases c3 : (a + b) / 2 < m
        · exact symC1_any B g N cap a m b _ xs w hB hBg hN hN2 (by omega) (by omega) hb rfl c3 hoA hoB IH ho
        · exact symC2_any B g N cap a m b _ xs w hB hBg hN hN2 (by omega) (by omega) hb rfl (by omega) hoA hoB IH ho
theorem sym_any (B g N cap a m b : Nat) (xs : List (Int × Int)) (w : World) (hB : B ≤ w.heap.size) (hBg : B ≤ g) (hN : xs.length = N) (hN2 : N ≤ 4000000000000) (ham : a < m) (hmb : m < b) (hb : b ≤ N)
    (hoA : Ordered a m xs) (hoB : Ordered m b xs) (ho : OwnS w B (.slice (some ⟨g, 0, none⟩) N cap) xs) :
    Calls Try.prog 183 #[.slice (some ⟨g, 0, none⟩) N cap, .int .i64 a, .int .i64 m, .int .i64 b, .func (.func 162) #[] #[]] w
      (InPlace w B g N cap (fun ys => Seg a b xs ys ∧ Ordered a b ys)) :=
  sym_less B g N cap hBg hN2 (b - a + 1) a m b xs w (by omega) hB hN ham hmb hb hoA hoB ho
end Go.Proofs.Ytkcpfimhbogdcaa

/- The walks of slices' stableCmpFunc and SortStableFunc, at spans and span.by. -/
set_option linter.unusedSimpArgs false
set_option linter.unusedVariables false
namespace Go.Proofs.Ytkcpfimhbogdcaa
open Go.RowKit

theorem insSort_z (B g N cap a b : Nat) (xs : List (Int × Int)) (w : World) (x y : Int) (hx : x = a) (hy : y = b) (hB : B ≤ w.heap.size) (hBg : B ≤ g) (hN : xs.length = N) (hN2 : N ≤ 4000000000000) (hab : a ≤ b) (hb : b ≤ N)
    (ho : OwnS w B (.slice (some ⟨g, 0, none⟩) N cap) xs) :
    Calls Try.prog 182 #[.slice (some ⟨g, 0, none⟩) N cap, .int .i64 x, .int .i64 y, .func (.func 162) #[] #[]] w
      (InPlace w B g N cap (fun ys => Seg a b xs ys ∧ Ordered a b ys)) := by
  subst hx hy
  exact insSort_any B g N cap a b xs w hB hBg hN hN2 hab hb ho
theorem sym_z (B g N cap a m b : Nat) (xs : List (Int × Int)) (w : World) (x y z : Int) (hx : x = a) (hy : y = m) (hz : z = b) (hB : B ≤ w.heap.size) (hBg : B ≤ g) (hN : xs.length = N) (hN2 : N ≤ 4000000000000) (ham : a < m) (hmb : m < b) (hb : b ≤ N)
    (hoA : Ordered a m xs) (hoB : Ordered m b xs) (ho : OwnS w B (.slice (some ⟨g, 0, none⟩) N cap) xs) :
    Calls Try.prog 183 #[.slice (some ⟨g, 0, none⟩) N cap, .int .i64 x, .int .i64 y, .int .i64 z, .func (.func 162) #[] #[]] w
      (InPlace w B g N cap (fun ys => Seg a b xs ys ∧ Ordered a b ys)) := by
  subst hx hy hz
  exact sym_any B g N cap a m b xs w hB hBg hN hN2 ham hmb hb hoA hoB ho

def Stab1 (w : World) (B g N cap : Nat) (xs : List (Int × Int)) (va vb : Value) (wr : World) : Prop :=
  ∃ (a : Nat) (zs : List (Int × Int)), va = .int .i64 a ∧ vb = .int .i64 ((a : Int) + 20) ∧ a ≤ N ∧ Below B w wr ∧ zs.length = N ∧ Seg 0 N xs zs ∧ DBlk 20 zs a ∧ OwnS wr B (.slice (some ⟨g, 0, none⟩) N cap) zs
def Stab2 (w : World) (B g N cap : Nat) (xs : List (Int × Int)) (vs : Value) (wr : World) : Prop :=
  ∃ (s : Nat) (zs : List (Int × Int)), vs = .int .i64 s ∧ 0 < s ∧ s ≤ 8000000000000 ∧ Below B w wr ∧ zs.length = N ∧ Seg 0 N xs zs ∧ Blk s N zs 0 ∧ OwnS wr B (.slice (some ⟨g, 0, none⟩) N cap) zs
def Stab3 (w : World) (B g N cap s : Nat) (xs : List (Int × Int)) (va vb : Value) (wr : World) : Prop :=
  ∃ (a : Nat) (zs : List (Int × Int)), va = .int .i64 a ∧ vb = .int .i64 ((a : Int) + 2 * (s : Int)) ∧ a ≤ N ∧ Below B w wr ∧ zs.length = N ∧ Seg 0 N xs zs ∧ DBlk (2 * s) zs a ∧ Blk s N zs a ∧ OwnS wr B (.slice (some ⟨g, 0, none⟩) N cap) zs

set_option maxRecDepth 100000 in
set_option maxHeartbeats 8000000 in
theorem stable_any (B g N cap : Nat) (xs : List (Int × Int)) (w : World) (hB : B ≤ w.heap.size) (hBg : B ≤ g) (hN : xs.length = N) (hN2 : N ≤ 4000000000000)
    (ho : OwnS w B (.slice (some ⟨g, 0, none⟩) N cap) xs) :
    Calls Try.prog 174 #[.slice (some ⟨g, 0, none⟩) N cap, .int .i64 N, .func (.func 162) #[] #[]] w
      (InPlace w B g N cap (fun ys => Seg 0 N xs ys ∧ Ordered 0 N ys)) := by
  have HO := Lib.hid ho
  have HN := Lib.hid hN
  clear ho hN
  have i0 : (N : Int) ≤ 4000000000000 := by omega
  go_enter Try.func174, Try.ntmps174
  go_wp2_with fail
  go_loopw [7, 8] (fun a b wr => Stab1 w B g N cap xs a b wr) (fun a _ _ => N - (intOf a).toNat)
  case atStart => exact ⟨0, xs, rfl, rfl, by omega, Below.refl _ _, HN.out, Seg.refl _ _ _, DBlk.zero, HO.out⟩
  case round =>
    obtain ⟨a, zs, rfl, rfl, haN, hbel, hzl, hseg, hdb, hown⟩ := hrel
    have HW := Lib.hid hown
    have HBL := Lib.hid hbel
    have HY := Lib.hid hzl
    have HSG := Lib.hid hseg
    have HD := Lib.hid hdb
    clear hown hbel hzl hseg hdb HO HN
    have hsz : B ≤ wr.heap.size := by have := HBL.out.size; omega
    by_cases hlt : a + 20 ≤ N
    · have k1 : (a : Int) + 20 ≤ (N : Int) := by omega
      go_wp2_with fail
      refine (insSort_z B g N cap a (a + 20) zs _ _ _ (by omega) (by omega) hsz hBg HY.out hN2 (by omega) (by omega) HW.out).mono ?_
      rintro e w1 ⟨rfl, hb1, ys, hyl, ⟨hs1, ho1⟩, hw1⟩
      have H1 := Lib.hid hw1
      have H2 := Lib.hid hyl
      have H3 := Lib.hid (HBL.out.trans hb1)
      have H4 := Lib.hid (HSG.out.trans (hs1.mono (by omega : 0 ≤ a) (by omega : a + 20 ≤ N)))
      have H5 := Lib.hid (DBlk.snoc a (HD.out.congr fun i hi => hs1.out i (by omega)) ho1)
      clear hw1 hyl hb1 hs1 ho1
      go_wp2_with fail
      go_roundw
      case rel => exact ⟨a + 20, ys, by go_num, by congr 1, by omega, H3.out, H2.out, H4.out, H5.out, H1.out⟩
      case measure => simp [intOf]; omega
    · have k1 : (N : Int) < (a : Int) + 20 := by omega
      go_wp2_with fail
      refine (insSort_z B g N cap a N zs _ _ _ rfl rfl hsz hBg HY.out hN2 (by omega) (by omega) HW.out).mono ?_
      rintro e w1 ⟨rfl, hb1, ys, hyl, ⟨hs1, ho1⟩, hw1⟩
      have H1 := Lib.hid hw1
      have H2 := Lib.hid hyl
      have H3 := Lib.hid (HBL.out.trans hb1)
      have H4 := Lib.hid (HSG.out.trans (hs1.mono (by omega : 0 ≤ a) (by omega : N ≤ N)))
      have H5 := Lib.hid (DBlk.all (N := N) (HD.out.congr fun i hi => hs1.out i (by omega)) (Blk.last a haN (by omega) ho1) haN)
      clear hw1 hyl hb1 hs1 ho1 HW HBL HY HSG HD hsz
      go_wp2_with fail
      go_loopw [6, 7, 8, 9] (fun s _ _ _ wr => Stab2 w B g N cap xs s wr) (fun s _ _ _ _ => N - (intOf s).toNat)
      case atStart => exact ⟨20, ys, rfl, by omega, by omega, H3.out, H2.out, H4.out, H5.out, H1.out⟩
      case round =>
        clear H1 H2 H3 H4 H5
        obtain ⟨s, zs, rfl, hs0, hs8, hbel, hzl, hseg, hbk, hown⟩ := hrel
        have HW := Lib.hid hown
        have HBL := Lib.hid hbel
        have HY := Lib.hid hzl
        have HSG := Lib.hid hseg
        have HK := Lib.hid hbk
        clear hown hbel hzl hseg hbk
        by_cases hlt : s < N
        rotate_left
        · have k2 : (N : Int) ≤ (s : Int) := by omega
          have k3 : decide (s < N) = false := by simp; omega
          go_wp2_with fail
          go_end0
          exact ⟨rfl, HBL.out, zs, HY.out, ⟨HSG.out, HK.out.one (by omega)⟩, HW.out⟩
        have k2 : (s : Int) < (N : Int) := by omega
        have k3 : (0 : Int) < (s : Int) := by omega
        go_wp2_with fail
        go_loopw [7, 8] (fun a b wr => Stab3 w B g N cap s xs a b wr) (fun a _ _ => N - (intOf a).toNat)
        case atStart => exact ⟨0, zs, rfl, by congr 1; omega, by omega, HBL.out, HY.out, HSG.out, DBlk.zero, HK.out, HW.out⟩
        case round =>
          clear HW HBL HY HSG HK
          obtain ⟨c, ys, rfl, rfl, hcN, hbel, hzl, hseg, hdb, hbk, hown⟩ := hrel
          have HW := Lib.hid hown
          have HBL := Lib.hid hbel
          have HY := Lib.hid hzl
          have HSG := Lib.hid hseg
          have HD := Lib.hid hdb
          have HK := Lib.hid hbk
          clear hown hbel hzl hseg hdb hbk
          have hsz : B ≤ wr.heap.size := by have := HBL.out.size; omega
          by_cases hlt2 : c + 2 * s ≤ N
          · have k4 : (c : Int) + 2 * (s : Int) ≤ (N : Int) := by omega
            obtain ⟨o1, o2, hrest⟩ := HK.out.two hs0 hlt2
            have HR := Lib.hid hrest
            clear hrest
            go_wp2_with fail
            refine (sym_z B g N cap c (c + s) (c + 2 * s) ys _ _ _ _ (by omega) (by omega) (by omega) hsz hBg HY.out hN2 (by omega) (by omega) hlt2 o1 o2 HW.out).mono ?_
            rintro e w2 ⟨rfl, hb1, ts, hyl, ⟨hs1, ho1⟩, hw1⟩
            have H1 := Lib.hid hw1
            have H2 := Lib.hid hyl
            have H3 := Lib.hid (HBL.out.trans hb1)
            have H4 := Lib.hid (HSG.out.trans (hs1.mono (by omega : 0 ≤ c) hlt2))
            have H5 := Lib.hid (DBlk.snoc c (HD.out.congr fun i hi => hs1.out i (by omega)) ho1)
            have H6 := Lib.hid (HR.out.congr fun i hi => hs1.out i (by omega))
            clear hw1 hyl hb1 hs1 ho1 o1 o2
            go_wp2_with fail
            go_roundw
            case rel => exact ⟨c + 2 * s, ts, by go_num, by congr 1, by omega, H3.out, H2.out, H4.out, H5.out, H6.out, H1.out⟩
            case measure => simp [intOf]; omega
          · have k4 : (N : Int) < (c : Int) + 2 * (s : Int) := by omega
            by_cases hms : c + s < N
            · have k5 : (c : Int) + (s : Int) < (N : Int) := by omega
              obtain ⟨o1, o2⟩ := HK.out.lastTwo hms (by omega)
              go_wp2_with fail
              refine (sym_z B g N cap c (c + s) N ys _ _ _ _ (by omega) (by omega) (by omega) hsz hBg HY.out hN2 (by omega) (by omega) (by omega) o1 o2 HW.out).mono ?_
              rintro e w2 ⟨rfl, hb1, ts, hyl, ⟨hs1, ho1⟩, hw1⟩
              have H1 := Lib.hid hw1
              have H2 := Lib.hid hyl
              have H3 := Lib.hid (HBL.out.trans hb1)
              have H4 := Lib.hid (HSG.out.trans (hs1.mono (by omega : 0 ≤ c) (by omega : N ≤ N)))
              have H5 := Lib.hid (DBlk.all (N := N) (HD.out.congr fun i hi => hs1.out i (by omega)) (Blk.last c hcN (by omega) ho1) hcN)
              clear hw1 hyl hb1 hs1 ho1 o1 o2
              go_wp2_with fail
              go_roundw
              case rel => exact ⟨2 * s, ts, by congr 1; omega, by omega, by omega, H3.out, H2.out, H4.out, H5.out, H1.out⟩
              case measure => simp [intOf]; omega
            · have k5 : (N : Int) ≤ (c : Int) + (s : Int) := by omega
              have H5 := Lib.hid (DBlk.all (N := N) HD.out (Blk.last c hcN (by omega) (HK.out.one (by omega))) hcN)
              go_wp2_with fail
              go_roundw
              case rel => exact ⟨2 * s, ys, by congr 1; omega, by omega, by omega, HBL.out, HY.out, HSG.out, H5.out, HW.out⟩
              case measure => simp [intOf]; omega
end Go.Proofs.Ytkcpfimhbogdcaa

/- The walks of slices' SortStableFunc and Clone at spans, and of span.Sort. -/
set_option linter.unusedSimpArgs false
set_option linter.unusedVariables false
namespace Go.Proofs.Ytkcpfimhbogdcaa
open Go.RowKit

set_option maxHeartbeats 1000000 in
theorem sortStable_any (B g N cap : Nat) (xs : List (Int × Int)) (w : World) (hB : B ≤ w.heap.size) (hBg : B ≤ g) (hN : xs.length = N) (hN2 : N ≤ 4000000000000)
    (ho : OwnS w B (.slice (some ⟨g, 0, none⟩) N cap) xs) :
    Calls Try.prog 161 #[.slice (some ⟨g, 0, none⟩) N cap, .func (.func 162) #[] #[]] w
      (InPlace w B g N cap (fun ys => Seg 0 N xs ys ∧ Ordered 0 N ys)) := by
  have HO := Lib.hid ho
  have HN := Lib.hid hN
  clear ho hN
  go_enter Try.func161, Try.ntmps161
  go_wp2_with fail
  refine (stable_any B g N cap xs _ hB hBg HN.out hN2 HO.out).mono ?_
  rintro e w1 ⟨rfl, hb1, ys, hyl, hs1, hw1⟩
  have H1 := Lib.hid hw1
  have H2 := Lib.hid hyl
  have H3 := Lib.hid hb1
  have H4 := Lib.hid hs1
  clear hw1 hyl hb1 hs1
  go_wp2_with fail
  go_end0
  exact ⟨rfl, H3.out, ys, H2.out, H4.out, H1.out⟩

theorem Ordered.all {N : Nat} {ys : List (Int × Int)} (h : Ordered 0 N ys) (hl : ys.length = N) : ys.Pairwise (fun x y => leS x y = true) := by
  rw [List.pairwise_iff_getElem]
  intro i j hi hj hij
  have := h i j (by omega) hij (by omega)
  simpa [gt, List.getElem?_eq_getElem hi, List.getElem?_eq_getElem hj] using this
theorem insSort_nil (w : World) :
    Calls Try.prog 182 #[.slice none 0 0, .int .i64 0, .int .i64 0, .func (.func 162) #[] #[]] w fun e w' => e = .returned (.tuple #[]) ∧ Ext w w' := by
  go_enter Try.func182, Try.ntmps182
  go_wp2_with fail
  go_loopw [8] (fun i wr => i = .int .i64 1 ∧ Ext w wr) (fun _ _ => 0)
  case atStart => exact ⟨rfl, Ext.refl _⟩
  case round =>
    obtain ⟨rfl, hx⟩ := hrel
    go_wp2_with fail
    go_end0
    exact ⟨rfl, hx⟩

theorem stable_nil (w : World) :
    Calls Try.prog 174 #[.slice none 0 0, .int .i64 0, .func (.func 162) #[] #[]] w fun e w' => e = .returned (.tuple #[]) ∧ Ext w w' := by
  go_enter Try.func174, Try.ntmps174
  go_wp2_with fail
  go_loopw [7, 8] (fun a b wr => a = .int .i64 0 ∧ b = .int .i64 20 ∧ Ext w wr) (fun _ _ _ => 0)
  case atStart => exact ⟨rfl, rfl, Ext.refl _⟩
  case round =>
    obtain ⟨rfl, rfl, hx⟩ := hrel
    go_wp2_with fail
    refine (insSort_nil _).mono ?_
    rintro e w1 ⟨rfl, hx1⟩
    replace hx := hx.trans hx1
    clear hx1
    go_wp2_with fail
    go_loopw [6] (fun s wr => s = .int .i64 20 ∧ Ext w wr) (fun _ _ => 0)
    case atStart => exact ⟨rfl, hx⟩
    case round =>
      obtain ⟨rfl, hx⟩ := hrel
      go_wp2_with fail
      go_end0
      exact ⟨rfl, hx⟩

theorem sortStable_nil (w : World) :
    Calls Try.prog 161 #[.slice none 0 0, .func (.func 162) #[] #[]] w fun e w' => e = .returned (.tuple #[]) ∧ Ext w w' := by
  go_enter Try.func161, Try.ntmps161
  go_wp2_with fail
  refine (stable_nil _).mono ?_
  rintro e w1 ⟨rfl, hx⟩
  go_wp2_with fail
  go_end0
  exact ⟨rfl, hx⟩

set_option maxHeartbeats 1000000 in
theorem clone_none (cap : Nat) (W : World) :
    Calls Try.prog 86 #[.slice none 0 cap] W fun e w' => e = .returned (.slice none 0 0) ∧ Ext W w' := by
  have he := fun w => Lib.run_eql_slice_nil (P := Try.prog) w 45 23 none 0 cap 0 0 Try.underlying45
  simp only [Option.isNone_none] at he
  go_enter Try.func86, Try.ntmps86
  go_wp2_with fail
  go_ret
  exact ⟨rfl, Ext.refl _⟩
set_option maxHeartbeats 1000000 in
theorem clone_some (ad : Addr) (cap : Nat) (xs : List (Int × Int)) (W : World) (hlen : xs.length ≤ 4000000000000) (hl : SpansAt W (some ad) xs) :
    Calls Try.prog 86 #[.slice (some ad) xs.length cap] W fun e w' => ∃ g cap, e = .returned (.slice (some ⟨g, 0, none⟩) xs.length cap) ∧ OwnS w' W.heap.size (.slice (some ⟨g, 0, none⟩) xs.length cap) xs ∧ Below W.heap.size W w' := by
  have he := fun w => Lib.run_eql_slice_nil (P := Try.prog) w 45 23 (some ad) xs.length cap 0 0 Try.underlying45
  simp only [Option.isNone_some] at he
  have HL := Lib.hid hl
  clear hl
  go_enter Try.func86, Try.ntmps86
  go_wp2_with (at_builtin; refine wpList_app rfl (.tmp 5) (.tmp 6) 45 rfl spanInfo spanCells rfl (by exact Own.empty 23 2 spanC W W.heap.size (Nat.le_refl _)) xs ad cap xs.length xs.length (by simp) rfl rfl (by exact RowAt.ext HL.out ((Ext.refl _).alloc _)) (by omega) (by simp [maxLen]; try omega) (by simp) ?_; intro A3 cap3 w3 hown3 hgr3 hat3; have HO3 := Lib.hid hown3; have hX3 : Ext W w3 := Own.below (Own.empty 23 2 spanC W W.heap.size (Nat.le_refl _)) ((Below.refl _ _).alloc (Nat.le_refl _) _) hgr3 (by simp); have HT := Lib.hid hat3; clear hown3 hgr3 hat3)
  have hA : ∃ g, A3 = some ⟨g, 0, none⟩ := by
    rcases HO3.out.2 with ⟨h, _⟩ | ⟨g, _, _, h, _⟩
    · exfalso
      have := HT.out
      injection h with h1 h2 h3
      subst h1
      simp [Value.ownBlock, Act.eval] at this
    · injection h with h1 h2 h3
      exact ⟨g, h1⟩
  obtain ⟨g, rfl⟩ := hA
  go_ret
  exact ⟨g, cap3, rfl, by simpa using HO3.out, hX3⟩

set_option maxHeartbeats 1000000 in
theorem sort_any (A : Option Addr) (cap : Nat) (xs : List (Int × Int)) (W : World) (hlen : xs.length ≤ 1000000) (hl : SpansAt W A xs) :
    Calls Try.prog 129 #[.slice A xs.length cap] W (RetS W W.heap.size (sortS xs)) := by
  have HL := Lib.hid hl
  clear hl
  cases A with
  | none =>
    obtain rfl := row_none HL.out
    simp only [List.length_nil]
    go_enter Try.func129, Try.ntmps129
    go_wp2_with fail
    refine (clone_none _ _).mono ?_
    rintro e w1 ⟨rfl, hx⟩
    go_wp2_with fail
    refine (sortStable_nil _).mono ?_
    rintro e w2 ⟨rfl, hx2⟩
    have hx' := hx.trans hx2
    clear hx hx2
    go_wp2_with fail
    go_ret
    exact ⟨_, rfl, by rw [show sortS [] = [] from by simp [sortS]]; exact Own.nil _ _ _ _ _, hx'⟩
  | some ad =>
    go_enter Try.func129, Try.ntmps129
    go_wp2_with fail
    refine (clone_some ad cap xs _ (by omega) HL.out).mono ?_
    rintro e w1 ⟨g, cap1, rfl, ho, hb⟩
    have HO := Lib.hid ho
    have HB := Lib.hid hb
    clear ho hb
    have hg : W.heap.size ≤ g := by
      rcases HO.out.2 with ⟨h, _⟩ | ⟨g', _, _, h, hb, _⟩
      · simp at h
      · simp at h; omega
    go_wp2_with fail
    refine (sortStable_any W.heap.size g xs.length cap1 xs _ (Ext.size HB.out) hg rfl (by omega) HO.out).mono ?_
    rintro e w2 ⟨rfl, hb2, ys, hyl, ⟨hs, hord⟩, ho2⟩
    have HO2 := Lib.hid ho2
    have HB2 := Lib.hid (HB.out.trans hb2)
    have HS := Lib.hid hs
    have HD := Lib.hid hord
    have HY := Lib.hid hyl
    clear ho2 hb2 hs hord hyl
    go_wp2_with fail
    go_ret
    have he : sortS xs = ys := (sortS_unique (Seg.perm HS.out) (Ordered.all HD.out HY.out)).symm
    exact ⟨_, rfl, by rw [he]; exact HO2.out, HB2.out⟩
end Go.Proofs.Ytkcpfimhbogdcaa

/- The walks of span.Total, span.Apart, and of the reference's Total and Same. -/
set_option linter.unusedSimpArgs false
set_option linter.unusedVariables false
namespace Go.Proofs.Ytkcpfimhbogdcaa
open Go.RowKit

def most62 : Int := 4611686018427387904
def addT (n : Int) (x : Int × Int) : Int := if mayB x.1 x.2 then min (n + x.2) most62 else n
def totalL (xs : List (Int × Int)) : Int := xs.foldl addT 0
theorem total_snoc {xs : List (Int × Int)} {k : Nat} (hk : k < xs.length) : totalL (xs.take (k + 1)) = addT (totalL (xs.take k)) (xs.getD k (0, 0)) := by
  unfold totalL
  rw [List.take_succ_eq_append_getElem hk, List.foldl_append]
  simp [List.getElem?_eq_getElem hk]
theorem addT_bd {n : Int} {x : Int × Int} (h : 0 ≤ n ∧ n ≤ most62) : 0 ≤ addT n x ∧ addT n x ≤ most62 := by
  unfold addT
  split
  · rename_i hm
    have := may_bd hm
    unfold most62 at *
    omega
  · exact h
theorem total_bd (xs : List (Int × Int)) : 0 ≤ totalL xs ∧ totalL xs ≤ most62 := by
  unfold totalL
  suffices ∀ (l : List (Int × Int)) (n : Int), 0 ≤ n ∧ n ≤ most62 → 0 ≤ l.foldl addT n ∧ l.foldl addT n ≤ most62 from this xs 0 (by unfold most62; omega)
  intro l
  induction l with
  | nil => exact fun n h => h
  | cons x l ih => exact fun n h => ih _ (addT_bd h)

end Go.Proofs.Ytkcpfimhbogdcaa

