/- The walks of the laws SpanLists and SpanParts. -/
import Derived.Test.YtllcekmbcmhckaaLaw03C
set_option linter.unusedSimpArgs false
set_option linter.unusedVariables false
namespace Go.Proofs.Ytllcekmbcmhckaa
open Go.RowKit

theorem refsort_c (A : Option Addr) (cap : Nat) (xs : List (Int × Int)) (n m : Nat) (V : World) (hn : xs.length = n) (hm : (sortS xs).length = m) (hlen : n ≤ 1000000) (hl : SpansAt V A xs) :
    Calls Try.prog 24 #[.slice A n cap] V fun e w' => ∃ A2 cap2, e = .returned (.slice A2 m cap2) ∧ SpansAt w' A2 (sortS xs) ∧ Ext V w' := by
  subst hn hm
  exact (refsort_any A cap xs V hlen hl).mono fun e w' h => h.open
theorem refjoin_c (A : Option Addr) (cap : Nat) (xs : List (Int × Int)) (n m : Nat) (V : World) (hn : xs.length = n) (hm : (joinL xs).length = m) (hlen : n ≤ 400000) (hl : SpansAt V A xs) :
    Calls Try.prog 30 #[.slice A n cap] V fun e w' => ∃ A2 cap2, e = .returned (.slice A2 m cap2) ∧ SpansAt w' A2 (joinL xs) ∧ Ext V w' := by
  subst hn hm
  refine (refjoin_any A cap xs V hlen hl).mono fun e w' ⟨zs, hj, h⟩ => ?_
  obtain rfl := Canon.unique hj (join_canon xs)
  exact h.open
theorem reftotal_c (A : Option Addr) (cap : Nat) (xs : List (Int × Int)) (n : Nat) (V : World) (hn : xs.length = n) (hlen : n ≤ 1000000) (hl : SpansAt V A xs) :
    Calls Try.prog 26 #[.slice A n cap] V fun e w' => e = .returned (.int .i64 (totalL xs)) ∧ Ext V w' := by
  subst hn
  exact reftotal_any A cap xs V (by omega) hl
theorem refapart_c (A : Option Addr) (cap : Nat) (xs : List (Int × Int)) (n : Nat) (V : World) (hn : xs.length = n) (hlen : n ≤ 1000000) (hl : SpansAt V A xs) :
    Calls Try.prog 28 #[.slice A n cap] V fun e w' => e = .returned (.bool (apartB xs)) ∧ Ext V w' := by
  subst hn
  exact refapart_any A cap xs V (by omega) hl

set_option maxRecDepth 100000 in
set_option maxHeartbeats 4000000 in
theorem spanLists_any (A : Option Addr) (cap : Nat) (xs : List (Int × Int)) (w : World) (hA : A = none → cap = 0) (hlen : xs.length ≤ 9223372036854775807) (hl : SpansAt w A xs) :
    Calls Try.prog 4 #[.slice A xs.length cap] w fun e w' => e = .returned (.bool true) ∧ Ext w w' := by
  by_cases hbig : 100 < xs.length
  · have h1 : decide ((100 : Int) < (xs.length : Int)) = true := by simp; omega
    go_enter Try.func4, Try.ntmps4
    go_wp2_with fail
    refine (awake03_any _).mono ?_
    rintro e w1 ⟨rfl, hx⟩
    go_wp2_with fail
    go_ret
    exact ⟨rfl, hx⟩
  · have h1 : decide ((100 : Int) < (xs.length : Int)) = false := by simp; omega
    have HL := Lib.hid hl
    clear hl
    have hsl := sortS_length xs
    have HSL := Lib.hid hsl
    clear hsl
    go_enter Try.func4, Try.ntmps4
    go_wp2_with (at_builtin; refine wpList_app_src rfl (.tmp 9) (.tmp 10) 29 rfl spanInfo spanCells rfl (by exact Own.empty 23 2 spanC w w.heap.size (Nat.le_refl _)) xs A cap hA xs.length xs.length (by simp) rfl rfl (by exact RowAt.ext HL.out ((Ext.refl _).alloc _)) (by omega) (by simp [maxLen]; omega) (by simp) ?_; intro A3 cap3 W hown3 hgr3 hat3; have HO3 := Lib.hid hown3; have hW : Ext w W := Own.below (Own.empty 23 2 spanC w w.heap.size (Nat.le_refl _)) ((Below.refl _ _).alloc (Nat.le_refl _) _) hgr3 (by simp); clear hown3 hgr3 hat3)
    have HO : Hid (SpansAt W A3 xs) := Lib.hid (by
      obtain ⟨_, _, e3, hrow3, _⟩ := HO3.out.form spanCells (by decide)
      obtain ⟨rfl, _, rfl⟩ : _ ∧ _ ∧ _ := by simpa only [Value.slice.injEq, List.nil_append] using e3
      simpa using hrow3)
    clear HO3
    have hlen1 : xs.length ≤ 1000000 := by omega
    refine (sort_c A3 cap3 xs _ _ xs.length W rfl rfl HSL.out (by omega) HO.out).mono ?_
    rintro e W1 ⟨A1, cap1, rfl, hs, hx⟩
    have HS := Lib.hid hs
    clear hs
    go_wp2_with fail
    refine (refsort_c A cap xs _ xs.length W1 rfl HSL.out (by omega) (HL.out.ext (hW.trans hx))).mono ?_
    rintro e W2 ⟨A2, cap2, rfl, hs2, hx2⟩
    have HS2 := Lib.hid hs2
    clear hs2
    go_wp2_with fail
    refine (refsame_is A1 A2 cap1 cap2 (sortS xs) (sortS xs) xs.length xs.length true W2 HSL.out HSL.out (by simp) (by omega) (by omega) (HS.out.ext hx2) HS2.out).mono ?_
    rintro e W3 ⟨rfl, hx3⟩
    have hy := hx.trans (hx2.trans hx3)
    clear hx hx2 hx3 HS HS2
    go_wp2_with fail
    refine (total_c A3 cap3 xs _ _ W3 rfl rfl (by omega) (HO.out.ext hy)).mono ?_
    rintro e W4 ⟨rfl, hx⟩
    replace hy := hy.trans hx
    clear hx
    go_wp2_with fail
    refine (reftotal_c A cap xs _ W4 rfl (by omega) (HL.out.ext (hW.trans hy))).mono ?_
    rintro e W5 ⟨rfl, hx⟩
    replace hy := hy.trans hx
    clear hx
    go_wp2_with fail
    refine (apart_c A3 cap3 xs _ _ W5 rfl rfl (by omega) (HO.out.ext hy)).mono ?_
    rintro e W6 ⟨rfl, hx⟩
    replace hy := hy.trans hx
    clear hx
    go_wp2_with fail
    refine (refapart_c A cap xs _ W6 rfl (by omega) (HL.out.ext (hW.trans hy))).mono ?_
    rintro e W7 ⟨rfl, hx⟩
    replace hy := hy.trans hx
    clear hx
    go_wp2_with fail
    have hjl := joinL_length xs
    refine (join_c A3 cap3 xs _ _ _ W7 rfl rfl rfl (by omega) (HO.out.ext hy)).mono ?_
    rintro e W8 ⟨A8, cap8, rfl, hj8, hx8⟩
    replace hy := hy.trans hx8
    have HJ := Lib.hid hj8
    clear hj8 hx8
    go_wp2_with fail
    refine (refjoin_c A cap xs _ _ W8 rfl rfl (by omega) (HL.out.ext (hW.trans hy))).mono ?_
    rintro e W9 ⟨A9, cap9, rfl, hj9, hx9⟩
    replace hy := hy.trans hx9
    have HJ9 := Lib.hid hj9
    clear hj9
    go_wp2_with fail
    refine (refsame_is A8 A9 cap8 cap9 (joinL xs) (joinL xs) _ _ true W9 rfl rfl (by simp) (by omega) (by omega) (HJ.out.ext hx9) HJ9.out).mono ?_
    rintro e W10 ⟨rfl, hx⟩
    replace hy := hy.trans hx
    clear hx hx9
    go_wp2_with fail
    refine (refsame_is A3 A cap3 cap xs xs _ _ true W10 rfl rfl (by simp) (by omega) (by omega) (HO.out.ext hy) (HL.out.ext (hW.trans hy))).mono ?_
    rintro e W11 ⟨rfl, hx⟩
    replace hy := hy.trans hx
    clear hx
    go_wp2_with fail
    refine (awake03_any _).mono ?_
    rintro e W12 ⟨rfl, hx⟩
    replace hy := hy.trans hx
    clear hx
    go_wp2_with fail
    go_ret
    exact ⟨rfl, hW.trans hy⟩

/-! ### What is left lies apart, is joined as it is, and has each word once. -/
theorem gap_may {a s : Int} {xs zs : List (Int × Int)} (h : GapsOf a s xs zs) {z : Int × Int} (hz : z ∈ zs) : mayB z.1 z.2 = true := by
  have h1 := h.pos z hz
  obtain ⟨hm, h2, _⟩ := hasB_iff.1 ((h.mem z.1).1 ⟨z, hz, by omega, by omega⟩).1
  obtain ⟨_, _, h3⟩ := hasB_iff.1 ((h.mem (z.1 + z.2 - 1)).1 ⟨z, hz, by omega, by omega⟩).1
  have := may_bd hm
  simp only [mayB, decide_eq_true_eq]
  omega
theorem gap_apart {a s : Int} {xs zs : List (Int × Int)} (h : GapsOf a s xs zs) : apartB zs = true := by
  rw [apart_iff]
  refine ⟨fun z hz => gap_may h hz, ?_⟩
  have hp := h.apart
  have hm : ∀ z ∈ zs, mayB z.1 z.2 = true := fun z hz => gap_may h hz
  clear h
  induction zs with
  | nil => exact List.Pairwise.nil
  | cons z zs ih =>
    rw [List.pairwise_cons] at hp ⊢
    refine ⟨fun y hy => ?_, ih hp.2 fun y hy => hm y (by simp [hy])⟩
    rw [meets_alt (hm z (by simp)) (hm y (by simp [hy]))]
    have := hp.1 y hy
    simp
    omega
theorem gap_join {a s : Int} {xs zs : List (Int × Int)} (h : GapsOf a s xs zs) : joinL zs = zs := by
  refine Canon.unique (join_canon zs) ⟨h.pos, h.apart, fun p => ?_⟩
  rw [covered_iff]
  exact ⟨fun ⟨x, hx, hp⟩ => ⟨x, hx, gap_may h hx, hp⟩, fun ⟨x, hx, _, hp⟩ => ⟨x, hx, hp⟩⟩
/-- How many of some spans have a place. -/
def countB (p : Int) (zs : List (Int × Int)) : Nat := (zs.filter fun z => hasB z.1 z.2 p).length
theorem count_snoc {p : Int} {zs : List (Int × Int)} {k : Nat} (hk : k < zs.length) : countB p (zs.take (k + 1)) = countB p (zs.take k) + if hasB (zs.getD k (0, 0)).1 (zs.getD k (0, 0)).2 p then 1 else 0 := by
  unfold countB
  rw [List.take_succ_eq_append_getElem hk, List.filter_append, List.length_append]
  simp only [List.getD_eq_getElem?_getD, List.getElem?_eq_getElem hk, Option.getD_some]
  by_cases h : hasB zs[k].1 zs[k].2 p = true
  · simp [h]
  · simp [h]
theorem covered_snoc_k {p : Int} {xs : List (Int × Int)} {k : Nat} (hk : k < xs.length) : coveredB (xs.take (k + 1)) p = (coveredB (xs.take k) p || hasB (xs.getD k (0, 0)).1 (xs.getD k (0, 0)).2 p) := by
  unfold coveredB
  rw [List.take_succ_eq_append_getElem hk, List.any_append]
  simp [List.getElem?_eq_getElem hk]
theorem gap_count {a s p : Int} {xs zs : List (Int × Int)} (h : GapsOf a s xs zs) : countB p zs = if hasB a s p = true ∧ coveredB xs p = false then 1 else 0 := by
  have h1 : (∃ z ∈ zs, hasB z.1 z.2 p = true) ↔ (hasB a s p = true ∧ coveredB xs p = false) := by
    rw [← show LeftB a s xs p ↔ (hasB a s p = true ∧ coveredB xs p = false) from Iff.rfl, ← h.mem p]
    exact ⟨fun ⟨z, hz, hp⟩ => ⟨z, hz, (hasB_iff.1 hp).2⟩, fun ⟨z, hz, hp⟩ => ⟨z, hz, hasB_iff.2 ⟨gap_may h hz, hp⟩⟩⟩
  have h2 : countB p zs ≤ 1 := by
    have hp := h.apart
    clear h h1
    unfold countB
    induction zs with
    | nil => simp
    | cons z zs ih =>
      rw [List.pairwise_cons] at hp
      by_cases hz : hasB z.1 z.2 p = true
      · have : zs.filter (fun z => hasB z.1 z.2 p) = [] := by
          rw [List.filter_eq_nil_iff]
          intro y hy hb
          have := hp.1 y hy
          have := (hasB_iff.1 hz).2
          have := (hasB_iff.1 hb).2
          omega
        simp [hz, this]
      · simp only [List.filter_cons, hz, Bool.false_eq_true, if_false]
        exact ih hp.2
  by_cases hc : hasB a s p = true ∧ coveredB xs p = false
  · rw [if_pos hc]
    obtain ⟨z, hz, hb⟩ := h1.2 hc
    have : 0 < countB p zs := by
      unfold countB
      exact List.length_pos_of_mem (List.mem_filter.2 ⟨hz, hb⟩)
    omega
  · rw [if_neg hc]
    unfold countB
    rw [List.length_eq_zero_iff, List.filter_eq_nil_iff]
    intro z hz hb
    exact hc (h1.1 ⟨z, hz, hb⟩)
end Go.Proofs.Ytllcekmbcmhckaa
