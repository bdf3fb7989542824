/- The reference's Leads; a number's place in a list. -/
import Derived.Test.YtidfibheehcdgaaGraE
set_option linter.unusedSimpArgs false
set_option linter.unusedVariables false
namespace Go.Proofs.Ytidfibheehcdgaa
open Go.RowKit Go.Shelf
set_option maxRecDepth 100000
set_option maxHeartbeats 4000000
theorem refleads_any (G : GraphD) (i : Int) (V : World) (hG : GraphAt V G) (hn : G.ns.length ≤ 9223372036854775807) (hf : ∀ x ∈ G.ns, x.fields.length ≤ 8796093022208) :
    Calls Try.prog 15 #[.agg #[.slice G.nA G.ns.length G.ncap, .slice G.rA G.rs.length G.rcap], .int .i64 i] V (RetI V (leadG G.ns i)) := by
  have k0 := fun w' => boxed V #[.slice G.nA G.ns.length G.ncap, .slice G.rA G.rs.length G.rcap] 25 0 (.slice G.nA G.ns.length G.ncap) rfl w'
  have HG := Lib.hid hG
  have HF := Lib.hid hf
  have hV : Ext V (V.alloc (.cells #[.slice G.nA G.ns.length G.ncap, .slice G.rA G.rs.length G.rcap] 25)) := (Ext.refl V).alloc _
  have HV := Lib.hid hV
  clear hG hV hf
  by_cases hi : 0 ≤ i ∧ i < G.ns.length
  rotate_left
  · have HR := Lib.hid (show leadG G.ns i = [] from if_neg hi)
    have hcase : i < 0 ∨ (0 ≤ i ∧ ¬ i < G.ns.length) := by omega
    clear hi
    rcases hcase with hi | ⟨hi, hi2⟩
    · have hd : decide (i < (0 : Int)) = true := by simp; omega
      go_enter Try.func15, Try.ntmps15
      go_wp2_with fail
      go_ret
      rw [HR.out]
      exact retI_of rfl (Own.nil _ _ _ _ _) HV.out
    · have hd : decide (i < (0 : Int)) = false := by simp; omega
      have hd2 : decide ((G.ns.length : Int) ≤ i) = true := by simp; omega
      go_enter Try.func15, Try.ntmps15
      go_wp2_with fail
      go_ret
      rw [HR.out]
      exact retI_of rfl (Own.nil _ _ _ _ _) HV.out
  have HR := Lib.hid (show leadG G.ns i = leadsL (G.ns.getD i.toNat default).fields from if_pos hi)
  obtain ⟨hi1, hi2⟩ := hi
  obtain ⟨j, rfl⟩ := Int.eq_ofNat_of_zero_le hi1
  have hj : j < G.ns.length := by omega
  rw [Int.toNat_natCast] at HR
  obtain ⟨nb, noff, hA, hcn⟩ := HG.out.nodes.row.get (by omega)
  obtain ⟨d0, d1, d2⟩ := nodes_cell hcn hj
  have HS := Lib.hid (HG.out.nodes.each _ (getD_mem (d := default) hj)).fields
  have hfl := HF.out _ (getD_mem (d := default) hj)
  generalize G.ns.getD j default = x at *
  have e1 : ∀ w', Ext V w' → w'.cell? ⟨nb, noff + j * 3 + 1, none⟩ = some (.slice x.fA x.fields.length x.fcap) := fun w' h => h.cell d1
  have e1' := HV.out.cell d1
  clear hcn d0 d1 d2 HG HF
  have hd : decide ((j : Int) < 0) = false := by simp
  have hd2 : decide (G.ns.length ≤ j) = false := by simp; omega
  obtain ⟨nA, ncap, ns, rA, rcap, rs⟩ := G
  obtain ⟨xk, xA, xc, fs, yA, yc, ys⟩ := x
  simp only at *
  subst hA
  go_enter Try.func15, Try.ntmps15
  go_wp2_with fail
  go_loopw [5, 7] (fun v i wr => LeadRel V fs v i wr) (fun _ i _ => fs.length - (intOf i).toNat)
  case atStart => exact ⟨0, 0, none, 0, by omega, rfl, rfl, by omega, rfl, Own.nil _ _ _ _ _, HV.out⟩
  case round =>
    obtain ⟨k, n, A1, cap1, hk, rfl, rfl, hnk, hyl, hown, hE⟩ := hrel
    have HO := Lib.hid hown
    have HY := Lib.hid hyl
    have HE := Lib.hid hE
    clear hown hyl e1 e1' k0
    by_cases hlt : k < fs.length
    rotate_left
    · obtain rfl : k = fs.length := by omega
      go_wp2_with fail
      go_ret
      have ho := HO.out
      have hy := HY.out
      rw [List.take_length] at ho hy
      rw [HR.out]
      exact retI_of hy ho hE
    obtain ⟨lb, off, rfl, hc⟩ := HS.out.get (by omega)
    obtain ⟨f1, f2⟩ := spans_cell hc hlt
    have c1 := HE.out.cell f1
    have c2 := HE.out.cell f2
    have HT := Lib.hid (leads_snoc hlt)
    have ib1 : (k : Int) < (fs.length : Int) := by omega
    have ib0 : (0 : Int) ≤ (k : Int) := by omega
    have hsz : V.heap.size ≤ wr.heap.size := Ext.size HE.out
    clear hc f1 f2 hE
    generalize fs.getD k (0, 0) = y at *
    obtain ⟨p, q⟩ := y
    simp only at c1 c2 HT
    by_cases hp : p = 2
    · subst hp
      have HT2 := Lib.hid (HT.out.trans (if_pos rfl))
      clear HT
      go_wp2_with (at_builtin; refine wpList_app_lit rfl (.tmp 36) (.tmp 42) 26 rfl intInfo intCells rfl (by exact HO.out) [q] 1 _ rfl (n + 1) 1 (by rw [HY.out]; rfl) rfl _ rfl (by first | rfl | simp) (by omega) (by simp [maxLen]; try omega) (by exact hsz) ?_; intro A4 cap4 w4 hown4 hgr4 hat4; have HO4 := Lib.hid hown4; have hE4 : Ext V w4 := Own.below HO.out (Below.alloc HE.out hsz _) hgr4 (by simp; omega); clear hown4 hgr4 hat4)
      go_roundw
      case rel => exact ⟨k + 1, n + 1, A4, cap4, by omega, by go_num, rfl, by omega, by rw [HT2.out]; simp [HY.out], by rw [HT2.out]; exact HO4.out, hE4⟩
      case measure => simp [intOf]; omega
    · have HT2 := Lib.hid (HT.out.trans (if_neg hp))
      have hb : (p == 2) = false := by simpa using hp
      clear HT hp
      go_wp2_with fail
      go_roundw
      case rel => exact ⟨k + 1, n, A1, cap1, by omega, by go_num, rfl, by omega, by rw [HT2.out]; exact HY.out, by rw [HT2.out]; exact HO.out, HE.out⟩
      case measure => simp [intOf]; omega

/-- The first place of a number; -1. -/
def placeZ (l : List Int) (x : Int) : Int := match l.findIdx? (fun y => decide (y = x)) with
  | some i => i
  | none => -1
theorem place_hit {l : List Int} {x : Int} {k : Nat} (hk : k < l.length) (h : l.getD k 0 = x) (hq : ∀ i, i < k → l.getD i 0 ≠ x) : placeZ l x = k := by
  have : l.findIdx? (fun y => decide (y = x)) = some k := by
    rw [List.findIdx?_eq_some_iff_getElem]
    refine ⟨hk, by simpa [List.getElem?_eq_getElem hk] using h, fun j hj => ?_⟩
    have := hq j hj
    simpa [List.getElem?_eq_getElem (show j < l.length by omega)] using this
  simp [placeZ, this]
theorem place_miss {l : List Int} {x : Int} (hq : ∀ i, i < l.length → l.getD i 0 ≠ x) : placeZ l x = -1 := by
  have : l.findIdx? (fun y => decide (y = x)) = none := by
    rw [List.findIdx?_eq_none_iff]
    intro y hy
    obtain ⟨i, hi, rfl⟩ := List.getElem_of_mem hy
    simpa [List.getElem?_eq_getElem hi] using hq i hi
  simp [placeZ, this]
theorem place_cases (l : List Int) (x : Int) : (placeZ l x = -1 ∧ ∀ y ∈ l, y ≠ x) ∨ ∃ k : Nat, k < l.length ∧ placeZ l x = k ∧ l.getD k 0 = x ∧ ∀ i, i < k → l.getD i 0 ≠ x := by
  cases h : l.findIdx? (fun y => decide (y = x)) with
  | none =>
    refine .inl ⟨by simp [placeZ, h], fun y hy => ?_⟩
    have := List.findIdx?_eq_none_iff.1 h y hy
    simpa using this
  | some k =>
    obtain ⟨hk, h1, h2⟩ := List.findIdx?_eq_some_iff_getElem.1 h
    refine .inr ⟨k, hk, by simp [placeZ, h], by simpa [List.getElem?_eq_getElem hk] using h1, fun i hi => ?_⟩
    have := h2 i hi
    simpa [List.getElem?_eq_getElem (show i < l.length by omega)] using this
theorem place_any (A : Option Addr) (cap : Nat) (l : List Int) (x : Int) (W : World) (hlen : l.length ≤ 9223372036854775807) (hl : IntsAt W A l) :
    Calls Try.prog 31 #[.slice A l.length cap, .int .i64 x] W fun e w' => e = .returned (.int .i64 (placeZ l x)) ∧ Ext W w' := by
  have HL := Lib.hid hl
  clear hl
  go_enter Try.func31, Try.ntmps31
  go_wp2_with fail
  go_loopw [5] (fun i wr => ∃ k : Nat, k ≤ l.length ∧ i = .int .i64 k ∧ Ext W wr ∧ Hid (∀ i, i < k → l.getD i 0 ≠ x)) (fun i _ => l.length - (intOf i).toNat)
  case atStart => exact ⟨0, by omega, rfl, Ext.refl _, Lib.hid (by omega)⟩
  case round =>
    obtain ⟨k, hk, rfl, hxr, hq⟩ := hrel
    by_cases hlt : k < l.length
    rotate_left
    · have HR := Lib.hid (place_miss (l := l) (x := x) (fun i hi => hq.out i (by omega)))
      clear hq
      go_wp2_with fail
      go_ret
      exact ⟨ret_int HR.out.symm, hxr⟩
    obtain ⟨lb, off, rfl, hc⟩ := HL.out.get (by omega)
    have c1 := hxr.cell (ints_cell hc hlt)
    have HS := Lib.hid (fun (h : l.getD k 0 ≠ x) => (fun i (hi : i < k + 1) => by
      rcases Nat.lt_or_ge i k with h' | h'
      · exact hq.out i h'
      · obtain rfl : i = k := by omega
        exact h : ∀ i, i < k + 1 → l.getD i 0 ≠ x))
    have HH := Lib.hid (fun (h : l.getD k 0 = x) => place_hit hlt h hq.out)
    have ib1 : (k : Int) < (l.length : Int) := by omega
    clear hc HL hq
    generalize l.getD k 0 = y at *
    by_cases he : y = x
    · have HR := Lib.hid (HH.out he)
      subst he
      clear HH HS
      go_wp2_with fail
      go_ret
      exact ⟨ret_int HR.out.symm, hxr⟩
    · have HR := Lib.hid (HS.out he)
      have hb : (y == x) = false := by simpa using he
      clear HH HS he
      go_wp2_with fail
      go_roundw
      case rel => exact ⟨k + 1, by omega, by go_num, hxr, HR⟩
      case measure => simp [intOf]; omega
end Go.Proofs.Ytidfibheehcdgaa
