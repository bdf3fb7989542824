/- The walk of the law BumpApart. -/
import Derived.Test.YtbdedcgecmbalaaBumpPlays
import Derived.Test.YtbdedcgecmbalaaRef03E
set_option linter.unusedSimpArgs false
set_option linter.unusedVariables false
namespace Go.Proofs.Ytbdedcgecmbalaa
open Go.RowKit

/-- Spans one behind the other, from a up to z. -/
structure Tile (a : Int) (xs : List (Int × Int)) (z : Int) : Prop where
  pos : ∀ x ∈ xs, 1 ≤ x.2 ∧ a ≤ x.1 ∧ x.1 + x.2 ≤ z
  apart : xs.Pairwise (fun x y => x.1 + x.2 ≤ y.1)
  cover : ∀ p, a ≤ p → p < z → ∃ x ∈ xs, InS x p
theorem Tile.nil (a : Int) : Tile a [] a := ⟨by simp, List.Pairwise.nil, fun p h1 h2 => by omega⟩
theorem Tile.snoc {a z n : Int} {xs : List (Int × Int)} (h : Tile a xs z) (haz : a ≤ z) (hn : 1 ≤ n) : Tile a (xs ++ [(z, n)]) (z + n) := by
  refine ⟨fun x hx => ?_, ?_, fun p h1 h2 => ?_⟩
  · rw [List.mem_append] at hx
    rcases hx with hx | hx
    · have := h.pos x hx; omega
    · simp only [List.mem_singleton] at hx; subst hx; simp only; omega
  · rw [List.pairwise_append]
    refine ⟨h.apart, by simp, fun x hx y hy => ?_⟩
    simp only [List.mem_singleton] at hy; subst hy
    exact (h.pos x hx).2.2
  · rcases Int.lt_or_le p z with hp | hp
    · obtain ⟨x, hx, hxp⟩ := h.cover p h1 hp
      exact ⟨x, List.mem_append.2 (.inl hx), hxp⟩
    · exact ⟨(z, n), by simp, by simp only; omega, by simp only; omega⟩
theorem Tile.apartB {a s : Int} {xs : List (Int × Int)} (h : Tile a xs (a + s)) (hm : mayB a s = true) : Go.Proofs.Ytbdedcgecmbalaa.apartB xs = true := by
  have hb := may_bd hm
  have gd : ∀ i (h : i < xs.length), xs.getD i (0, 0) = xs[i]'h := fun i h => by simp [List.getD, List.getElem?_eq_getElem h]
  refine apart_yes fun i hi => ⟨?_, fun k hk => ?_⟩
  · rw [gd i hi]
    have := h.pos xs[i] (List.getElem_mem _)
    unfold mayB
    rw [decide_eq_true_eq]
    omega
  · rw [gd i hi, gd k (by omega)]
    have h1 := h.pos xs[i] (List.getElem_mem _)
    have h2 := h.pos (xs[k]'(by omega)) (List.getElem_mem _)
    have h3 := List.pairwise_iff_getElem.1 h.apart k i (by omega) hi hk
    unfold meetsB
    rw [Bool.and_eq_false_iff]
    right
    rw [Bool.or_eq_false_iff]
    constructor
    · rw [Bool.eq_false_iff]; intro hh; rw [hasB_iff] at hh; omega
    · rw [Bool.eq_false_iff]; intro hh; rw [hasB_iff] at hh; omega
theorem Tile.join {a s : Int} {xs : List (Int × Int)} (h : Tile a xs (a + s)) (hm : mayB a s = true) : JoinOf xs [(a, s)] := by
  have hb := may_bd hm
  refine ⟨by simp; omega, by simp, fun p => ?_⟩
  rw [covered_iff]
  constructor
  · rintro ⟨y, hy, h1, h2⟩
    simp only [List.mem_singleton] at hy; subst hy
    simp only at h1 h2
    obtain ⟨x, hx, hxp⟩ := h.cover p h1 h2
    have := h.pos x hx
    exact ⟨x, hx, by unfold mayB; rw [decide_eq_true_eq]; omega, hxp⟩
  · rintro ⟨x, hx, -, h1, h2⟩
    have := h.pos x hx
    exact ⟨(a, s), by simp, by simp only; omega, by simp only; omega⟩

theorem Own.only {α : Type} {e : TypeId} {n : Nat} {f : α → List Value} {w w' : World} {B b : Nat} {v : Value} {xs : List α} (h : Own e n f w B v xs) (ho : Only b w w') (hb : b < B) : Own e n f w' B v xs := by
  refine h.kept ho ?_
  rcases hv : v.ownBlock with _ | k
  · exact .inl rfl
  · have := (World.ownsRow.lt h k hv).1
    exact .inr (fun e => by injection e with e; omega)
theorem Only.below {b B : Nat} {u w w' : World} (h : Only b u w) (hb : Below B w w') (hB : u.heap.size ≤ B) : Only b u w' :=
  ⟨hb.os.trans h.os, hb.tape.trans h.tape, hb.output.trans h.output, Nat.le_trans h.size hb.size, fun k hk hne => (hb.block k (by omega)).trans (h.block k hk hne)⟩
theorem BumpAt.below {w w' : World} {b B : Nat} {a s u : Int} (h : BumpAt w b a s u) (hb : Below B w w') (hB : b < B) : BumpAt w' b a s u := by
  unfold BumpAt at *
  rw [hb.block b hB, h]

theorem refjoin_n (A : Option Addr) (cap : Nat) (xs : List (Int × Int)) (W0 : World) (n : Nat) (hn : xs.length = n) (hlen : n ≤ 400000) (hl : SpansAt W0 A xs) :
    Calls Try.prog 30 #[.slice A n cap] W0 (fun e w' => ∃ zs, JoinOf xs zs ∧ RetS W0 W0.heap.size zs e w') := by
  subst hn; exact refjoin_any A cap xs W0 hlen hl
theorem refapart_n (A : Option Addr) (cap : Nat) (xs : List (Int × Int)) (W : World) (n : Nat) (hn : xs.length = n) (hlen : n ≤ 9223372036854775807) (hl : SpansAt W A xs) :
    Calls Try.prog 31 #[.slice A n cap] W fun e w' => e = .returned (.bool (apartB xs)) ∧ Ext W w' := by
  subst hn; exact refapart_any A cap xs W hlen hl

def ApartRel (W : World) (b : Nat) (a s : Int) (len : Nat) (v i : Value) (wr : World) : Prop :=
  ∃ (k n : Nat) (u : Int) (A : Option Addr) (cap : Nat) (xs : List (Int × Int)), k ≤ len ∧ i = .int .i64 k ∧ v = .slice A n cap ∧ n ≤ k ∧ xs.length = n ∧ 0 ≤ u ∧ u ≤ s ∧ BumpAt wr b a s u ∧ Only b W wr ∧
    OwnS wr W.heap.size v xs ∧ Tile a xs (a + u)

set_option maxRecDepth 100000 in
set_option maxHeartbeats 4000000 in
theorem bumpApart_any (a s : Int) (A : Option Addr) (cap : Nat) (zs : List Int) (w : World) (hlen : zs.length ≤ 9223372036854775807)
    (hzs : ∀ z ∈ zs, -9223372036854775808 ≤ z ∧ z ≤ 9223372036854775807) (hl : IntsAt w A zs) :
    Calls Try.prog 5 #[.agg #[.int .i64 (a), .int .i64 (s)], .slice A zs.length cap] w fun e w' => e = .returned (.bool true) ∧ Ext w w' := by
  have HL := Lib.hid hl
  have HZ := Lib.hid hzs
  clear hl hzs
  by_cases hg : 100 < zs.length
  · go_enter Try.func5, Try.ntmps5
    go_wp2_with (go_at_call 22; refine (awake05_any _).mono ?_; rintro e w1 ⟨rfl, hx⟩; obtain ⟨hcc, hff, hzz⟩ := ecell hx; (try simp only [World.size_alloc] at hzz); (try (have hz0 := Nat.lt_of_succ_le hzz)); (try (have hz1 := Nat.lt_of_succ_lt hz0)); (try (have hz2 := Nat.lt_of_succ_lt hz1)); (try (have hz3 := Nat.lt_of_succ_lt hz2)))
    go_ret
    exact ⟨rfl, (by repeat (first | (with_reducible exact Ext.refl _) | (with_reducible assumption) | (with_reducible refine Ext.drew ?_) | (with_reducible refine Ext.alloc ?_ _) | ((with_reducible refine Ext.setCell ?_ ?_ _); rotate_left; (focus (simp; try omega))) | (with_reducible refine Ext.trans ?_ (by assumption))))⟩
  by_cases hb : mayB a s = true
  rotate_left
  · have hb' : mayB a s = false := by simpa using hb
    go_enter Try.func5, Try.ntmps5
    go_wp2_with (first | (go_at_call 23; refine (new_no _ _ _ hb').mono ?_; rintro e w1 ⟨rfl, hx⟩; obtain ⟨hcc, hff, hzz⟩ := ecell hx; (try simp only [World.size_alloc] at hzz); (try (have hz0 := Nat.lt_of_succ_le hzz)); (try (have hz1 := Nat.lt_of_succ_lt hz0)); (try (have hz2 := Nat.lt_of_succ_lt hz1)); (try (have hz3 := Nat.lt_of_succ_lt hz2))) | (go_at_call 22; refine (awake05_any _).mono ?_; rintro e w1 ⟨rfl, hx⟩; obtain ⟨hcc, hff, hzz⟩ := ecell hx; (try simp only [World.size_alloc] at hzz); (try (have hz0 := Nat.lt_of_succ_le hzz)); (try (have hz1 := Nat.lt_of_succ_lt hz0)); (try (have hz2 := Nat.lt_of_succ_lt hz1)); (try (have hz3 := Nat.lt_of_succ_lt hz2))))
    go_ret
    exact ⟨rfl, (by repeat (first | (with_reducible exact Ext.refl _) | (with_reducible assumption) | (with_reducible refine Ext.drew ?_) | (with_reducible refine Ext.alloc ?_ _) | ((with_reducible refine Ext.setCell ?_ ?_ _); rotate_left; (focus (simp; try omega))) | (with_reducible refine Ext.trans ?_ (by assumption))))⟩
  have HM := Lib.hid hb
  obtain ⟨h1, h2, h3, h5⟩ := may_bd hb
  replace h5 : s ≤ 1099511627776 := by omega
  go_enter Try.func5, Try.ntmps5
  go_wp2_with fail
  have hW0 : Ext w (w.alloc (.cells #[.int .i64 a, .int .i64 s] 27)) := (Ext.refl w).alloc _
  have k0 := boxed w #[.int .i64 a, .int .i64 s] 27 0 _ rfl
  have k1 := boxed w #[.int .i64 a, .int .i64 s] 27 1 _ rfl
  have hsz : w.heap.size < (w.alloc (.cells #[.int .i64 a, .int .i64 s] 27)).heap.size := by simp
  generalize w.alloc (.cells #[.int .i64 a, .int .i64 s] 27) = W0 at *
  refine (new_ok a s _ hb).mono ?_
  rintro e W ⟨b, rfl, hlo, hhi, hba, hx⟩
  have hbne : w.heap.size ≠ b := by omega
  have K0 := Lib.hid (k0 _ hx)
  have K1 := Lib.hid (k1 _ hx)
  have hX : Ext w W := hW0.trans hx
  have hwb : w.heap.size ≤ b := by omega
  clear k0 k1 hsz hlo hb
  have c0 : ∀ w', Only b W w' → w'.cell? ⟨w.heap.size, 0, none⟩ = some (.int .i64 a) := fun w' h => h.cell K0.out hbne
  have c1 : ∀ w', Only b W w' → w'.cell? ⟨w.heap.size, 1, none⟩ = some (.int .i64 s) := fun w' h => h.cell K1.out hbne
  have HX := Lib.hid hX
  have HB := Lib.hid hba
  clear hX hba hx hW0 K0 K1
  have hs0 : Only b W W := Only.refl _ _
  go_wp2_with fail
  go_loopw [7, 8] (fun v i wr => ApartRel W b a s zs.length v i wr) (fun _ i _ => zs.length - (intOf i).toNat)
  case atStart => exact ⟨0, 0, 0, none, 0, [], by omega, rfl, rfl, by omega, rfl, by omega, by omega, HB.out, hs0, Own.nil _ _ _ _ _, by rw [Int.add_zero]; exact Tile.nil a⟩
  case round =>
    obtain ⟨k, n, u, A1, cap1, xs, hk, rfl, rfl, hnk, hxl, q3, q4, hbr, hor, hown, htile⟩ := hrel
    replace HB := Lib.hid hbr
    have HO := Lib.hid hown
    have HT := Lib.hid htile
    have HXL := Lib.hid hxl
    clear hbr hown htile hxl hs0
    by_cases hlt : k < zs.length
    rotate_left
    · obtain rfl : k = zs.length := by omega
      have hk100 : n ≤ 100 := by omega
      go_wp2_with fail
      refine (room_at _ b a s u HB.out h1 h2 q3 q4 h5).mono ?_
      rintro e w2 ⟨rfl, hq⟩
      replace HB := Lib.hid (HB.out.quiet hq)
      replace HO := Lib.hid (HO.out.ext hq.ext)
      replace hor := hor.trans (hq.only b)
      clear hq
      by_cases hus : u = s
      · subst hus
        obtain ⟨A0, cap0, hv, hrow, -, -, -, -⟩ := Own.form HO.out spanCells (by decide)
        injection hv with hv1 hv2 hv3
        subst hv1 hv3
        have HRC := Lib.hid hrow
        clear hrow hv2
        go_wp2_with fail
        refine (refjoin_n A1 cap1 xs _ n HXL.out (by omega) HRC.out).mono ?_
        rintro e W4 ⟨js, hj, v4, rfl, hown4, hb4⟩
        obtain rfl : js = [(a, u)] := Canon.unique hj (HT.out.join HM.out)
        have hx4 : Ext _ W4 := hb4
        replace HB := Lib.hid (HB.out.ext hx4)
        have HR4 := Lib.hid (RowAt.ext HRC.out hx4)
        replace hor := hor.trans (Only.of_ext hx4)
        obtain ⟨g, cap4, rfl, -, hgs⟩ := World.ownsRow.form hown4 (by simp)
        have J0 : W4.cell? ⟨g, 0, none⟩ = some (.int .i64 a) := World.ownsRow.cellAt hown4 0 (by simp)
        have J1 : W4.cell? ⟨g, 1, none⟩ = some (.int .i64 u) := World.ownsRow.cellAt hown4 1 (by simp)
        have HJ0 := Lib.hid J0
        have HJ1 := Lib.hid J1
        have HC0 := Lib.hid (c0 _ hor)
        have HC1 := Lib.hid (c1 _ hor)
        have d0 : ∀ w', Ext W4 w' → w'.cell? ⟨g, 0, none⟩ = some (.int .i64 a) := fun w' h => h.cell HJ0.out
        have d1 : ∀ w', Ext W4 w' → w'.cell? ⟨g, 1, none⟩ = some (.int .i64 u) := fun w' h => h.cell HJ1.out
        have d2 : ∀ w', Ext W4 w' → w'.cell? ⟨w.heap.size, 0, none⟩ = some (.int .i64 a) := fun w' h => h.cell HC0.out
        have d3 : ∀ w', Ext W4 w' → w'.cell? ⟨w.heap.size, 1, none⟩ = some (.int .i64 u) := fun w' h => h.cell HC1.out
        have hap : apartB xs = true := HT.out.apartB HM.out
        have HE := Lib.hid (hor.ext HX.out hwb)
        have hs0 : Ext W4 W4 := Ext.refl _
        clear hj hown4 hb4 hx4 J0 J1 c0 c1 hor
        simp only [List.length_cons, List.length_nil, Nat.zero_add]
        go_wp2_with fail
        go_region_held3 (fun w1 => Ext W4 w1) (first | (with_reducible assumption) | (exact Ext.drew (by with_reducible assumption)) | (exact Ext.trans (by with_reducible assumption) (by with_reducible assumption))) (first
          | (go_at_call 31; refine (refapart_n A1 cap1 xs _ n HXL.out (by omega) (by exact RowAt.ext HR4.out (by first | (with_reducible assumption) | exact Ext.drew (Ext.refl _)))).mono ?_; rintro e w1 ⟨rfl, hx⟩)
          | (go_at_call 29; refine (room_at _ b a u u (by exact HB.out.ext (by with_reducible assumption)) h1 h2 (by omega) (by omega) h5).mono ?_; rintro e w1 ⟨rfl, hq⟩; have hx := hq.ext; clear hq)
          | (go_at_call 22; refine (awake05_any _).mono ?_; rintro e w1 ⟨rfl, hx⟩))
        go_wp2
        go_ret
        exact ⟨rfl, Ext.trans HE.out (by assumption)⟩
      · have hus2 : 0 < s - u := by omega
        go_wp2_with fail
        refine (take_ok _ b a s u (s - u) HB.out h1 h2 q3 q4 h5 (by omega) (by omega)).mono ?_
        rintro e w3 ⟨rfl, hb2, ho2⟩
        have hss : u + (s - u) = s := by omega
        rw [hss] at hb2
        replace HB := Lib.hid hb2
        replace HO := Lib.hid (HO.out.only ho2 hhi)
        replace hor := hor.trans ho2
        have hszr2 : W.heap.size ≤ w3.heap.size := hor.size
        clear hb2 ho2 hss
        go_wp2_with (at_builtin; refine wpList_app_lit rfl (.tmp 69) (.tmp 73) 45 rfl spanInfo spanCells rfl (by exact HO.out) [(a + u, s - u)] 1 _ rfl (n + 1) 1 (by rw [HXL.out]; rfl) rfl _ rfl (by first | rfl | simp) (by omega) (by simp [maxLen]; try omega) (by exact hszr2) ?_; intro A3 cap3 w5 hown3 hgr3 hat3; have HO3 := Lib.hid hown3; have HG3 := Lib.hid (Own.below HO.out ((Below.refl W.heap.size w3).alloc hszr2 _) hgr3 (by simp; omega)); clear hown3 hgr3 hat3; go_wp2_with fail)
        replace HB := Lib.hid (HB.out.below HG3.out hhi)
        replace hor := hor.below HG3.out (Nat.le_refl _)
        have hTT : Tile a (xs ++ [(a + u, s - u)]) (a + s) := by
          have := HT.out.snoc (n := s - u) (by omega) (by omega)
          rwa [show a + u + (s - u) = a + s by omega] at this
        replace HT := Lib.hid hTT
        have hXX : (xs ++ [(a + u, s - u)]).length = n + 1 := by simp [HXL.out]
        replace HXL := Lib.hid hXX
        obtain ⟨A0, cap0, hv, hrow, -, -, -, -⟩ := Own.form HO3.out spanCells (by decide)
        injection hv with hv1 hv2 hv3
        subst hv1 hv3
        have HRC := Lib.hid hrow
        clear hrow hv2 hTT hXX HO HG3 hszr2
        generalize xs ++ [(a + u, s - u)] = ys at *
        go_wp2_with fail
        refine (refjoin_n A3 cap3 ys _ (n + 1) HXL.out (by omega) HRC.out).mono ?_
        rintro e W4 ⟨js, hj, v4, rfl, hown4, hb4⟩
        obtain rfl : js = [(a, s)] := Canon.unique hj (HT.out.join HM.out)
        have hx4 : Ext _ W4 := hb4
        replace HB := Lib.hid (HB.out.ext hx4)
        have HR4 := Lib.hid (RowAt.ext HRC.out hx4)
        replace hor := hor.trans (Only.of_ext hx4)
        obtain ⟨g, cap4, rfl, -, hgs⟩ := World.ownsRow.form hown4 (by simp)
        have J0 : W4.cell? ⟨g, 0, none⟩ = some (.int .i64 a) := World.ownsRow.cellAt hown4 0 (by simp)
        have J1 : W4.cell? ⟨g, 1, none⟩ = some (.int .i64 s) := World.ownsRow.cellAt hown4 1 (by simp)
        have HJ0 := Lib.hid J0
        have HJ1 := Lib.hid J1
        have HC0 := Lib.hid (c0 _ hor)
        have HC1 := Lib.hid (c1 _ hor)
        have d0 : ∀ w', Ext W4 w' → w'.cell? ⟨g, 0, none⟩ = some (.int .i64 a) := fun w' h => h.cell HJ0.out
        have d1 : ∀ w', Ext W4 w' → w'.cell? ⟨g, 1, none⟩ = some (.int .i64 s) := fun w' h => h.cell HJ1.out
        have d2 : ∀ w', Ext W4 w' → w'.cell? ⟨w.heap.size, 0, none⟩ = some (.int .i64 a) := fun w' h => h.cell HC0.out
        have d3 : ∀ w', Ext W4 w' → w'.cell? ⟨w.heap.size, 1, none⟩ = some (.int .i64 s) := fun w' h => h.cell HC1.out
        have hap : apartB ys = true := HT.out.apartB HM.out
        have HE := Lib.hid (hor.ext HX.out hwb)
        have hs0 : Ext W4 W4 := Ext.refl _
        clear hj hown4 hb4 hx4 J0 J1 c0 c1 hor
        simp only [List.length_cons, List.length_nil, Nat.zero_add]
        go_wp2_with fail
        go_region_held3 (fun w1 => Ext W4 w1) (first | (with_reducible assumption) | (exact Ext.drew (by with_reducible assumption)) | (exact Ext.trans (by with_reducible assumption) (by with_reducible assumption))) (first
          | (go_at_call 31; refine (refapart_n A3 cap3 ys _ (n + 1) HXL.out (by omega) (by exact RowAt.ext HR4.out (by first | (with_reducible assumption) | exact Ext.drew (Ext.refl _)))).mono ?_; rintro e w1 ⟨rfl, hx⟩)
          | (go_at_call 29; refine (room_at _ b a s s (by exact HB.out.ext (by with_reducible assumption)) h1 h2 (by omega) (by omega) h5).mono ?_; rintro e w1 ⟨rfl, hq⟩; have hx := hq.ext; clear hq)
          | (go_at_call 22; refine (awake05_any _).mono ?_; rintro e w1 ⟨rfl, hx⟩))
        go_wp2
        go_ret
        exact ⟨rfl, Ext.trans HE.out (by assumption)⟩
    have hz := HZ.out (zs.getD k 0) (by simp [hlt])
    obtain ⟨lb, off, rfl, hc⟩ := HL.out.get (by omega)
    have hlb : lb ≠ b := by
      have := ints_cell hc hlt
      intro e
      subst e
      have hlow : lb < w.heap.size := by
        rcases Nat.lt_or_ge lb w.heap.size with h | h
        · exact h
        · simp [World.cell?, Array.getElem?_eq_none h] at this
      omega
    have KC := Lib.hid (HX.out.cell (ints_cell hc hlt))
    have cl : ∀ w', Only b W w' → w'.cell? ⟨lb, off + k, none⟩ = some (.int .i64 (zs.getD k 0)) := fun w' h => h.cell KC.out hlb
    clear hc KC HL
    generalize zs.getD k 0 = z at *
    have hszr : W.heap.size ≤ wr.heap.size := hor.size
    by_cases hn : z < 1
    · go_wp2_with fail
      refine (take_size _ b a s u z HB.out h1 h2 q3 q4 h5 hn).mono ?_
      rintro e w2 ⟨rfl, hq⟩
      replace HB := Lib.hid (HB.out.quiet hq)
      replace HO := Lib.hid (HO.out.ext hq.ext)
      replace hor := hor.trans (hq.only b)
      clear hq hszr
      go_wp2_with fail
      go_roundw
      case rel => exact ⟨k + 1, n, u, A1, cap1, xs, by omega, by go_num, rfl, by omega, HXL.out, q3, q4, HB.out, hor, HO.out, HT.out⟩
      case measure => simp [intOf]; omega
    by_cases hn2 : z ≤ s - u
    rotate_left
    · go_wp2_with fail
      refine (take_memory _ b a s u z HB.out h1 h2 q3 q4 h5 (by omega) (by omega)).mono ?_
      rintro e w2 ⟨rfl, hq⟩
      replace HB := Lib.hid (HB.out.quiet hq)
      replace HO := Lib.hid (HO.out.ext hq.ext)
      replace hor := hor.trans (hq.only b)
      clear hq hszr
      go_wp2_with fail
      go_roundw
      case rel => exact ⟨k + 1, n, u, A1, cap1, xs, by omega, by go_num, rfl, by omega, HXL.out, q3, q4, HB.out, hor, HO.out, HT.out⟩
      case measure => simp [intOf]; omega
    · go_wp2_with fail
      refine (take_ok _ b a s u z HB.out h1 h2 q3 q4 h5 (by omega) hn2).mono ?_
      rintro e w2 ⟨rfl, hb2, ho2⟩
      replace HB := Lib.hid hb2
      replace HO := Lib.hid (HO.out.only ho2 hhi)
      replace hor := hor.trans ho2
      have hszr2 : W.heap.size ≤ w2.heap.size := hor.size
      clear hb2 ho2 hszr
      go_wp2_with (at_builtin; refine wpList_app_lit rfl (.tmp 48) (.tmp 55) 45 rfl spanInfo spanCells rfl (by exact HO.out) [(a + u, z)] 1 _ rfl (n + 1) 1 (by rw [HXL.out]; rfl) rfl _ rfl (by first | rfl | simp) (by omega) (by simp [maxLen]; try omega) (by exact hszr2) ?_; intro A3 cap3 w3 hown3 hgr3 hat3; have HO3 := Lib.hid hown3; have HG3 := Lib.hid (Own.below HO.out ((Below.refl W.heap.size w2).alloc hszr2 _) hgr3 (by simp; omega)); clear hown3 hgr3 hat3)
      go_roundw
      case rel => exact ⟨k + 1, n + 1, u + z, A3, cap3, xs ++ [(a + u, z)], by omega, by go_num, rfl, by omega, by simp [HXL.out], by omega, by omega, HB.out.below HG3.out hhi, hor.below HG3.out (Nat.le_refl _), HO3.out, by rw [show a + (u + z) = a + u + z by omega]; exact HT.out.snoc (by omega) (by omega)⟩
      case measure => simp [intOf]; omega
theorem bumpApart_fin {v0 v1 : Value} {w : World} (h0 : ∃ a s : Int, v0 = .agg #[.int .i64 (a), .int .i64 (s)] ∧ (-9223372036854775808 ≤ a ∧ a ≤ 9223372036854775807) ∧ (-9223372036854775808 ≤ s ∧ s ≤ 9223372036854775807))
    (h1 : ∃ (A : Option Addr) (cap : Nat) (zs : List Int), v1 = .slice A zs.length cap ∧ zs.length ≤ 9223372036854775807 ∧ (∀ z ∈ zs, -9223372036854775808 ≤ z ∧ z ≤ 9223372036854775807) ∧ IntsAt w A zs) :
    Calls Try.prog 5 #[v0, v1] w fun e w' => e = .returned (.bool true) ∧ Ext w w' := by
  obtain ⟨a, s, rfl, _, _⟩ := h0
  obtain ⟨A, cap, zs, rfl, h2, h3, h4⟩ := h1
  exact bumpApart_any a s A cap zs w h2 h3 h4
end Go.Proofs.Ytbdedcgecmbalaa
