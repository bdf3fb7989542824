/- The reference's sums over nodes; whether a graph is too large. -/
import Derived.Test.YtidfibheehcdgaaGraB
import Derived.Test.YtidfibheehcdgaaRegT
set_option linter.unusedSimpArgs false
set_option linter.unusedVariables false
namespace Go.Proofs.Ytidfibheehcdgaa
open Go.RowKit Go.Shelf

set_option maxRecDepth 100000
set_option maxHeartbeats 4000000
theorem refsums_any (G : GraphD) (A : Option Addr) (cap : Nat) (l : List Int) (V : World) (hG : GraphAt V G) (hl : IntsAt V A l) (hlen : l.length ≤ 9223372036854775807) (hn : G.ns.length ≤ 9223372036854775807) :
    Calls Try.prog 8 #[.agg #[.slice G.nA G.ns.length G.ncap, .slice G.rA G.rs.length G.rcap], .slice A l.length cap] V fun e w' => e = .returned (.tuple #[.int .i64 (addS sizeN G.ns l), .int .i64 (addS (fun x => x.fields.length) G.ns l)]) ∧ Ext V w' := by
  have k0 := fun w' => boxed V #[.slice G.nA G.ns.length G.ncap, .slice G.rA G.rs.length G.rcap] 25 0 (.slice G.nA G.ns.length G.ncap) rfl w'
  have HL := Lib.hid hl
  have HG := Lib.hid hG
  have hV : Ext V (V.alloc (.cells #[.slice G.nA G.ns.length G.ncap, .slice G.rA G.rs.length G.rcap] 25)) := (Ext.refl V).alloc _
  have HV := Lib.hid hV
  clear hl hG hV
  go_enter Try.func8, Try.ntmps8
  go_wp2_with fail
  go_loopw [6, 7, 8] (fun m n i wr => ∃ k : Nat, k ≤ l.length ∧ i = .int .i64 k ∧ m = .int .i64 (addS sizeN G.ns (l.take k)) ∧ n = .int .i64 (addS (fun x => x.fields.length) G.ns (l.take k)) ∧ Ext (V.alloc (.cells #[.slice G.nA G.ns.length G.ncap, .slice G.rA G.rs.length G.rcap] 25)) wr) (fun _ _ i _ => l.length - (intOf i).toNat)
  case atStart => exact ⟨0, by omega, rfl, rfl, rfl, Ext.refl _⟩
  case round =>
    obtain ⟨k, hk, rfl, rfl, rfl, hxr⟩ := hrel
    by_cases hlt : k < l.length
    rotate_left
    · go_wp2_with fail
      go_ret2
      exact ⟨by rw [List.take_of_length_le (by omega)]; rfl, HV.out.trans hxr⟩
    obtain ⟨lb, off, rfl, hc⟩ := HL.out.get (by omega)
    have c1 := hxr.cell (HV.out.cell (ints_cell hc hlt))
    have b0 := k0 _ hxr
    have HX := Lib.hid hxr
    have HT := Lib.hid (addS_snoc (f := sizeN) (ns := G.ns) hlt)
    have HT2 := Lib.hid (addS_snoc (f := fun x => x.fields.length) (ns := G.ns) hlt)
    have ib1 : (k : Int) < (l.length : Int) := by omega
    have ib0 : (0 : Int) ≤ (k : Int) := by omega
    have hs0 : Ext wr wr := Ext.refl wr
    clear hc HL k0 hxr
    generalize l.getD k 0 = i at *
    have l1 : ∀ u : ExtOf wr, u.1.cell? ⟨lb, off + k, none⟩ = some (.int .i64 i) := fun u => u.2.cell c1
    by_cases hi : 0 ≤ i ∧ i < G.ns.length
    · obtain ⟨hi1, hi2⟩ := hi
      obtain ⟨j, rfl⟩ := Int.eq_ofNat_of_zero_le hi1
      have hj : j < G.ns.length := by omega
      obtain ⟨nb, noff, hA, hcn⟩ := HG.out.nodes.row.get (by omega)
      obtain ⟨d0, d1, d2⟩ := nodes_cell hcn hj
      have e0 := HX.out.cell (HV.out.cell d0)
      have e1 := HX.out.cell (HV.out.cell d1)
      have e2 := HX.out.cell (HV.out.cell d2)
      have HE := Lib.hid (HT.out.trans (if_pos ⟨hi1, hi2⟩))
      have HE2 := Lib.hid (HT2.out.trans (if_pos ⟨hi1, hi2⟩))
      rw [Int.toNat_natCast] at HE HE2
      rw [hA] at b0
      clear hcn d0 d1 d2 HT HT2 hA
      generalize G.ns.getD j default = x at *
      have l0 : ∀ u : ExtOf wr, u.1.cell? ⟨V.heap.size, 0, none⟩ = some (.slice (some ⟨nb, noff, none⟩) G.ns.length G.ncap) := fun u => u.2.cell b0
      have l2 : ∀ u : ExtOf wr, u.1.cell? ⟨nb, noff + j * 3, none⟩ = some (.int .i64 x.kind) := fun u => u.2.cell e0
      have l3 : ∀ u : ExtOf wr, u.1.cell? ⟨nb, noff + j * 3 + 1, none⟩ = some (.slice x.fA x.fields.length x.fcap) := fun u => u.2.cell e1
      have l4 : ∀ u : ExtOf wr, u.1.cell? ⟨nb, noff + j * 3 + 2, none⟩ = some (.slice x.rA x.raws.length x.rcap) := fun u => u.2.cell e2
      go_wp2_with fail
      (refine wp_region_ext (W := wr) (by kernel_rfl) (by kernel_rfl) (by with_reducible assumption) ?_; (repeat (go_big_quiet_step (fail))); refine wpQuiet_nil ?_; intro w1 hx)
      go_wp2_with fail
      have hs1 := hx
      (refine wp_region_ext (W := wr) (by kernel_rfl) (by kernel_rfl) (by with_reducible assumption) ?_; (repeat (go_big_quiet_step (first | (go_at_call 10; with_reducible exact Calls.ext_of (refsize_any x _))))); refine wpQuiet_nil ?_; intro w1 hx)
      have hs2 := hx
      go_wp2_with fail
      (refine wp_region_ext (W := wr) (by kernel_rfl) (by kernel_rfl) (by with_reducible assumption) ?_; (repeat (go_big_quiet_step (fail))); refine wpQuiet_nil ?_; intro w1 hx)
      go_wp2_with fail
      go_roundw
      case rel => exact ⟨k + 1, by omega, by go_num, by rw [HE.out], by rw [HE2.out], HX.out.trans hx⟩
      case measure => simp [intOf]; omega
    · have HE := Lib.hid (HT.out.trans (if_neg hi))
      have HE2 := Lib.hid (HT2.out.trans (if_neg hi))
      have hcase : i < 0 ∨ (0 ≤ i ∧ ¬ i < G.ns.length) := by omega
      have l0 : ∀ u : ExtOf wr, u.1.cell? ⟨V.heap.size, 0, none⟩ = some (.slice G.nA G.ns.length G.ncap) := fun u => u.2.cell b0
      clear hi HT HT2
      rcases hcase with hi | ⟨hi, hi2⟩
      · have hd : decide ((0 : Int) ≤ i) = false := by simp; omega
        go_wp2_with fail
        (refine wp_region_ext (W := wr) (by kernel_rfl) (by kernel_rfl) (by with_reducible assumption) ?_; (repeat (go_big_quiet_step (fail))); refine wpQuiet_nil ?_; intro w1 hx)
        go_wp2_with fail
        go_roundw
        case rel => exact ⟨k + 1, by omega, by go_num, by rw [HE.out], by rw [HE2.out], HX.out.trans hx⟩
        case measure => simp [intOf]; omega
      · have hd : decide ((0 : Int) ≤ i) = true := by simp; omega
        have hd2 : decide (i < (G.ns.length : Int)) = false := by simp; omega
        go_wp2_with fail
        (refine wp_region_ext (W := wr) (by kernel_rfl) (by kernel_rfl) (by with_reducible assumption) ?_; (repeat (go_big_quiet_step (fail))); refine wpQuiet_nil ?_; intro w1 hx)
        go_wp2_with fail
        go_roundw
        case rel => exact ⟨k + 1, by omega, by go_num, by rw [HE.out], by rw [HE2.out], HX.out.trans hx⟩
        case measure => simp [intOf]; omega
/-- How much is looked at. -/
def bulk (ns : List NodeD) : Int := ns.foldl (fun n x => n + (min x.fields.length 5000 + min x.raws.length 5000 : Nat)) 0
theorem bulk_snoc {ns : List NodeD} {k : Nat} (hk : k < ns.length) : bulk (ns.take (k + 1)) = bulk (ns.take k) + (min (ns.getD k default).fields.length 5000 + min (ns.getD k default).raws.length 5000 : Nat) := by
  rw [List.take_add_one, List.getElem?_eq_getElem hk]
  unfold bulk
  rw [Option.toList_some, List.foldl_append]
  simp [hk]
theorem bulk_bd (ns : List NodeD) (k : Nat) : 0 ≤ bulk (ns.take k) ∧ bulk (ns.take k) ≤ 10000 * k := by
  induction k with
  | zero => simp [bulk]
  | succ k ih =>
    rcases Nat.lt_or_ge k ns.length with h | h
    · rw [bulk_snoc h]; omega
    · rw [List.take_of_length_le (show ns.length ≤ k + 1 by omega)]
      rw [List.take_of_length_le h] at ih
      omega
def largeG (G : GraphD) : Bool := decide (60 < G.ns.length ∨ 100 < G.rs.length ∨ 9000 < bulk G.ns)
theorem large_any (G : GraphD) (V : World) (hG : GraphAt V G) (hn : G.ns.length ≤ 9223372036854775807) (hr : G.rs.length ≤ 9223372036854775807) (hf : ∀ x ∈ G.ns, x.fields.length ≤ 9223372036854775807 ∧ x.raws.length ≤ 9223372036854775807) :
    Calls Try.prog 6 #[.agg #[.slice G.nA G.ns.length G.ncap, .slice G.rA G.rs.length G.rcap]] V fun e w' => e = .returned (.bool (largeG G)) ∧ Ext V w' := by
  have k0 := fun w' => boxed V #[.slice G.nA G.ns.length G.ncap, .slice G.rA G.rs.length G.rcap] 25 0 (.slice G.nA G.ns.length G.ncap) rfl w'
  have HG := Lib.hid hG
  have HF := Lib.hid hf
  have hV : Ext V (V.alloc (.cells #[.slice G.nA G.ns.length G.ncap, .slice G.rA G.rs.length G.rcap] 25)) := (Ext.refl V).alloc _
  have HV := Lib.hid hV
  clear hG hV hf
  by_cases h1 : 60 < G.ns.length
  · have HR := Lib.hid (show largeG G = true by simp [largeG, h1])
    have h1' : (60 : Int) < (G.ns.length : Int) := by omega
    go_enter Try.func6, Try.ntmps6
    go_wp2_with fail
    go_ret
    exact ⟨ret_bool HR.out.symm, HV.out⟩
  by_cases h2 : 100 < G.rs.length
  · have HR := Lib.hid (show largeG G = true by simp [largeG, h2])
    have h1' : ¬ (60 : Int) < (G.ns.length : Int) := by omega
    have h2' : (100 : Int) < (G.rs.length : Int) := by omega
    go_enter Try.func6, Try.ntmps6
    go_wp2_with fail
    go_ret
    exact ⟨ret_bool HR.out.symm, HV.out⟩
  have HR := Lib.hid (show largeG G = decide (9000 < bulk G.ns) by simp [largeG, h1, h2])
  have h1' : ¬ (60 : Int) < (G.ns.length : Int) := by omega
  have h2' : ¬ (100 : Int) < (G.rs.length : Int) := by omega
  have h3 : G.ns.length ≤ 60 := by omega
  clear h1 h2
  go_enter Try.func6, Try.ntmps6
  go_wp2_with fail
  go_loopw [3, 4] (fun n i wr => ∃ k : Nat, k ≤ G.ns.length ∧ i = .int .i64 k ∧ n = .int .i64 (bulk (G.ns.take k)) ∧ Ext (V.alloc (.cells #[.slice G.nA G.ns.length G.ncap, .slice G.rA G.rs.length G.rcap] 25)) wr) (fun _ i _ => G.ns.length - (intOf i).toNat)
  case atStart => exact ⟨0, by omega, rfl, rfl, Ext.refl _⟩
  case round =>
    obtain ⟨k, hk, rfl, rfl, hxr⟩ := hrel
    have b0 := k0 _ hxr
    have hbd := bulk_bd G.ns k
    by_cases hlt : k < G.ns.length
    rotate_left
    · have HB := Lib.hid (show bulk (G.ns.take k) = bulk G.ns by rw [List.take_of_length_le (by omega)])
      go_wp2_with fail
      go_ret
      exact ⟨ret_bool (by rw [HR.out, HB.out]), HV.out.trans hxr⟩
    obtain ⟨nb, noff, hA, hcn⟩ := HG.out.nodes.row.get (by omega)
    obtain ⟨d0, d1, d2⟩ := nodes_cell hcn hlt
    have e1 := hxr.cell (HV.out.cell d1)
    have e2 := hxr.cell (HV.out.cell d2)
    have HX := Lib.hid hxr
    have HT := Lib.hid (bulk_snoc hlt)
    obtain ⟨f1, f2⟩ := HF.out _ (getD_mem (d := default) hlt)
    have ib1 : (k : Int) < (G.ns.length : Int) := by omega
    have ib0 : (0 : Int) ≤ (k : Int) := by omega
    have hs0 : Ext wr wr := Ext.refl wr
    rw [hA] at b0
    clear hcn d0 d1 d2 hA k0 hxr
    generalize G.ns.getD k default = x at *
    generalize bulk (G.ns.take k) = n at *
    obtain ⟨n1, n2⟩ := hbd
    have l0 : ∀ u : ExtOf wr, u.1.cell? ⟨V.heap.size, 0, none⟩ = some (.slice (some ⟨nb, noff, none⟩) G.ns.length G.ncap) := fun u => u.2.cell b0
    have l3 : ∀ u : ExtOf wr, u.1.cell? ⟨nb, noff + k * 3 + 1, none⟩ = some (.slice x.fA x.fields.length x.fcap) := fun u => u.2.cell e1
    have l4 : ∀ u : ExtOf wr, u.1.cell? ⟨nb, noff + k * 3 + 2, none⟩ = some (.slice x.rA x.raws.length x.rcap) := fun u => u.2.cell e2
    go_wp2_with fail
    (refine wp_region_ext (W := wr) (by kernel_rfl) (by kernel_rfl) (by with_reducible assumption) ?_; (repeat (go_big_quiet_step (fail))); refine wpQuiet_nil ?_; intro w1 hx)
    go_wp2_with fail
    go_roundw
    case rel => exact ⟨k + 1, by omega, by go_num, by rw [HT.out]; congr 1; omega, HX.out.trans hx⟩
    case measure => simp [intOf]; omega
end Go.Proofs.Ytidfibheehcdgaa
