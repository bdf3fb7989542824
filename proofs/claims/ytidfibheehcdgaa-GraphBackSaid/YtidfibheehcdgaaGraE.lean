/- Where a node leads, and its reference. -/
import Derived.Test.YtidfibheehcdgaaGraD
set_option linter.unusedSimpArgs false
set_option linter.unusedVariables false
namespace Go.Proofs.Ytidfibheehcdgaa
open Go.RowKit Go.Shelf

/-- The values that lead somewhere. -/
def leadsL (l : List (Int × Int)) : List Int := (l.filter fun x => decide (x.1 = 2)).map (·.2)
theorem leads_snoc {l : List (Int × Int)} {k : Nat} (hk : k < l.length) : leadsL (l.take (k + 1)) = if (l.getD k (0, 0)).1 = 2 then leadsL (l.take k) ++ [(l.getD k (0, 0)).2] else leadsL (l.take k) := by
  rw [List.take_add_one, List.getElem?_eq_getElem hk]
  unfold leadsL
  rw [Option.toList_some, List.filter_append, List.map_append]
  have hg : l.getD k (0, 0) = l[k] := by simp [hk]
  rw [hg]
  by_cases h : l[k].1 = 2 <;> simp [h]
theorem leads_len (l : List (Int × Int)) : (leadsL l).length ≤ l.length := by unfold leadsL; rw [List.length_map]; exact List.length_filter_le _ _
def leadG (ns : List NodeD) (i : Int) : List Int := if 0 ≤ i ∧ i < ns.length then leadsL (ns.getD i.toNat default).fields else []
def LeadRel (V : World) (fs : List (Int × Int)) (v i : Value) (wr : World) : Prop :=
  ∃ (k n : Nat) (A1 : Option Addr) (cap1 : Nat), k ≤ fs.length ∧ i = .int .i64 k ∧ v = .slice A1 n cap1 ∧ n ≤ k ∧ (leadsL (fs.take k)).length = n ∧ Own 3 1 intC wr V.heap.size v (leadsL (fs.take k)) ∧ Ext V wr
/-- A slice of numbers of the call's own comes back. -/
def RetI (W : World) (zs : List Int) (e : Ending) (w' : World) : Prop := ∃ A1 cap1, e = .returned (.slice A1 zs.length cap1) ∧ IntsAt w' A1 zs ∧ Ext W w'
theorem retI_of {V w : World} {zs : List Int} {A1 : Option Addr} {n cap1 : Nat} (hn : zs.length = n) (ho : Own 3 1 intC w V.heap.size (.slice A1 n cap1) zs) (hx : Ext V w) : RetI V zs (.returned (.slice A1 n cap1)) w := by
  subst hn
  obtain ⟨A0, cap0, hv, hrow, -, -, -, -⟩ := Own.form ho intCells (by decide)
  injection hv with h1 h2 h3
  subst h1 h3
  exact ⟨_, _, rfl, hrow, hx⟩

set_option maxRecDepth 100000
set_option maxHeartbeats 4000000
theorem leads_any (G : GraphD) (i : Int) (V : World) (hG : GraphAt V G) (hn : G.ns.length ≤ 9223372036854775807) (hf : ∀ x ∈ G.ns, x.fields.length ≤ 8796093022208) :
    Calls Try.prog 14 #[.agg #[.slice G.nA G.ns.length G.ncap, .slice G.rA G.rs.length G.rcap], .int .i64 i] V (RetI V (leadG G.ns i)) := by
  have k0 := fun w' => boxed V #[.slice G.nA G.ns.length G.ncap, .slice G.rA G.rs.length G.rcap] 25 0 (.slice G.nA G.ns.length G.ncap) rfl w'
  have HG := Lib.hid hG
  have HF := Lib.hid hf
  have hV : Ext V (V.alloc (.cells #[.slice G.nA G.ns.length G.ncap, .slice G.rA G.rs.length G.rcap] 25)) := (Ext.refl V).alloc _
  have HV := Lib.hid hV
  clear hG hV hf
  by_cases hi : 0 ≤ i ∧ i < G.ns.length
  rotate_left
  · have HR := Lib.hid (show leadG G.ns i = [] from if_neg hi)
    have hcase : i < 0 ∨ (0 ≤ i ∧ ¬ i < G.ns.length) := by omega
    clear hi
    rcases hcase with hi | ⟨hi, hi2⟩
    · have hd : decide (i < (0 : Int)) = true := by simp; omega
      go_enter Try.func14, Try.ntmps14
      go_wp2_with fail
      go_ret
      rw [HR.out]
      exact retI_of rfl (Own.nil _ _ _ _ _) HV.out
    · have hd : decide (i < (0 : Int)) = false := by simp; omega
      have hd2 : decide ((G.ns.length : Int) ≤ i) = true := by simp; omega
      go_enter Try.func14, Try.ntmps14
      go_wp2_with fail
      go_ret
      rw [HR.out]
      exact retI_of rfl (Own.nil _ _ _ _ _) HV.out
  have HR := Lib.hid (show leadG G.ns i = leadsL (G.ns.getD i.toNat default).fields from if_pos hi)
  obtain ⟨hi1, hi2⟩ := hi
  obtain ⟨j, rfl⟩ := Int.eq_ofNat_of_zero_le hi1
  have hj : j < G.ns.length := by omega
  rw [Int.toNat_natCast] at HR
  obtain ⟨nb, noff, hA, hcn⟩ := HG.out.nodes.row.get (by omega)
  obtain ⟨d0, d1, d2⟩ := nodes_cell hcn hj
  have HS := Lib.hid (HG.out.nodes.each _ (getD_mem (d := default) hj)).fields
  have hfl := HF.out _ (getD_mem (d := default) hj)
  generalize G.ns.getD j default = x at *
  have e1 : ∀ w', Ext V w' → w'.cell? ⟨nb, noff + j * 3 + 1, none⟩ = some (.slice x.fA x.fields.length x.fcap) := fun w' h => h.cell d1
  have e1' := HV.out.cell d1
  clear hcn d0 d1 d2 HG HF
  have hd : decide ((j : Int) < 0) = false := by simp
  have hd2 : decide (G.ns.length ≤ j) = false := by simp; omega
  obtain ⟨nA, ncap, ns, rA, rcap, rs⟩ := G
  obtain ⟨xk, xA, xc, fs, yA, yc, ys⟩ := x
  simp only at *
  subst hA
  go_enter Try.func14, Try.ntmps14
  go_wp2_with fail
  go_loopw [5, 24] (fun v i wr => LeadRel V fs v i wr) (fun _ i _ => fs.length - (intOf i).toNat)
  case atStart => exact ⟨0, 0, none, 0, by omega, rfl, rfl, by omega, rfl, Own.nil _ _ _ _ _, HV.out⟩
  case round =>
    obtain ⟨k, n, A1, cap1, hk, rfl, rfl, hnk, hyl, hown, hE⟩ := hrel
    have HO := Lib.hid hown
    have HY := Lib.hid hyl
    have HE := Lib.hid hE
    clear hown hyl e1 e1' k0
    by_cases hlt : k < fs.length
    rotate_left
    · obtain rfl : k = fs.length := by omega
      go_wp2_with fail
      go_ret
      have ho := HO.out
      have hy := HY.out
      rw [List.take_length] at ho hy
      rw [HR.out]
      exact retI_of hy ho hE
    obtain ⟨lb, off, rfl, hc⟩ := HS.out.get (by omega)
    obtain ⟨f1, f2⟩ := spans_cell hc hlt
    have c1 := HE.out.cell f1
    have c2 := HE.out.cell f2
    have HT := Lib.hid (leads_snoc hlt)
    have ib1 : (k : Int) < (fs.length : Int) := by omega
    have ib0 : (0 : Int) ≤ (k : Int) := by omega
    have hsz : V.heap.size ≤ wr.heap.size := Ext.size HE.out
    clear hc f1 f2 hE
    generalize fs.getD k (0, 0) = y at *
    obtain ⟨p, q⟩ := y
    simp only at c1 c2 HT
    by_cases hp : p = 2
    · subst hp
      have HT2 := Lib.hid (HT.out.trans (if_pos rfl))
      clear HT
      go_wp2_with (at_builtin; refine wpList_app_lit rfl (.tmp 31) (.tmp 34) 26 rfl intInfo intCells rfl (by exact HO.out.ext ((Ext.refl _).alloc _)) [q] 1 _ rfl (n + 1) 1 (by rw [HY.out]; rfl) rfl _ rfl (by first | rfl | simp) (by omega) (by simp [maxLen]; try omega) (by simp; omega) ?_; intro A4 cap4 w4 hown4 hgr4 hat4; have HO4 := Lib.hid hown4; have hE4 : Ext V w4 := Own.below HO.out (Below.alloc (Below.alloc HE.out hsz _) (by simp; omega) _) hgr4 (by simp; omega); clear hown4 hgr4 hat4)
      go_roundw
      case rel => exact ⟨k + 1, n + 1, A4, cap4, by omega, by go_num, rfl, by omega, by rw [HT2.out]; simp [HY.out], by rw [HT2.out]; exact HO4.out, hE4⟩
      case measure => simp [intOf]; omega
    · have HT2 := Lib.hid (HT.out.trans (if_neg hp))
      have hb : (p == 2) = false := by simpa using hp
      clear HT hp
      go_wp2_with fail
      go_roundw
      case rel => exact ⟨k + 1, n, A1, cap1, by omega, by go_num, rfl, by omega, by rw [HT2.out]; exact HY.out, by rw [HT2.out]; exact HO.out.ext ((Ext.refl _).alloc _), HE.out.alloc _⟩
      case measure => simp [intOf]; omega
end Go.Proofs.Ytidfibheehcdgaa
