/- How many words and fields nodes have; whether a graph is too large. -/
import Derived.Test.YtidfibheehcdgaaGraA
import Derived.Shelf.Abstract
set_option linter.unusedSimpArgs false
set_option linter.unusedVariables false
namespace Go.Proofs.Ytidfibheehcdgaa
open Go.RowKit Go.Shelf

/-- Something added up over nodes of a list. -/
def addS (f : NodeD → Int) (ns : List NodeD) (l : List Int) : Int := l.foldl (fun (n i : Int) => if 0 ≤ i ∧ i < ns.length then wrap64 (n + f (ns.getD i.toNat default)) else n) 0
theorem addS_snoc {f : NodeD → Int} {ns : List NodeD} {l : List Int} {k : Nat} (hk : k < l.length) :
    addS f ns (l.take (k + 1)) = (if 0 ≤ l.getD k 0 ∧ l.getD k 0 < ns.length then wrap64 (addS f ns (l.take k) + f (ns.getD (l.getD k 0).toNat default)) else addS f ns (l.take k)) := by
  rw [List.take_add_one, List.getElem?_eq_getElem hk]
  unfold addS
  rw [Option.toList_some, List.foldl_append]
  simp [hk]
/-- A function of a node that is a number, in every world. -/
def Counts (g : Nat) (f : NodeD → Int) : Prop := ∀ W (x : NodeD), Calls Try.prog g #[.agg #[.int .i64 x.kind, .slice x.fA x.fields.length x.fcap, .slice x.rA x.raws.length x.rcap]] W fun e w' => e = .returned (.int .i64 (f x)) ∧ Ext W w'

set_option maxRecDepth 100000
set_option maxHeartbeats 4000000
theorem sum_any (f : NodeD → Int) (g : Nat) (eg : ∀ args w, (callFunc g args).run Try.prog w = .ok (.enter g args) w) (hf : Counts g f) (G : GraphD) (A : Option Addr) (cap : Nat) (l : List Int) (V : World) (hG : GraphAt V G) (hl : IntsAt V A l) (hlen : l.length ≤ 9223372036854775807) (hn : G.ns.length ≤ 9223372036854775807) :
    Calls Try.prog 27 #[.agg #[.slice G.nA G.ns.length G.ncap, .slice G.rA G.rs.length G.rcap], .slice A l.length cap, .func (.func g) #[] #[]] V fun e w' => e = .returned (.int .i64 (addS f G.ns l)) ∧ Ext V w' := by
  have k0 := fun w' => boxed V #[.slice G.nA G.ns.length G.ncap, .slice G.rA G.rs.length G.rcap] 25 0 (.slice G.nA G.ns.length G.ncap) rfl w'
  have HL := Lib.hid hl
  have HG := Lib.hid hG
  have HF := Lib.hid hf
  have hV : Ext V (V.alloc (.cells #[.slice G.nA G.ns.length G.ncap, .slice G.rA G.rs.length G.rcap] 25)) := (Ext.refl V).alloc _
  have HV := Lib.hid hV
  clear hl hG hf hV
  go_enter Try.func27, Try.ntmps27
  go_wp2_with fail
  go_loopw [7, 9, 12] (fun n _ i wr => ∃ k : Nat, k ≤ l.length ∧ i = .int .i64 k ∧ n = .int .i64 (addS f G.ns (l.take k)) ∧ Ext (V.alloc (.cells #[.slice G.nA G.ns.length G.ncap, .slice G.rA G.rs.length G.rcap] 25)) wr) (fun _ _ i _ => l.length - (intOf i).toNat)
  case atStart => exact ⟨0, by omega, rfl, rfl, Ext.refl _⟩
  case round =>
    obtain ⟨k, hk, rfl, rfl, hxr⟩ := hrel
    by_cases hlt : k < l.length
    rotate_left
    · go_wp2_with fail
      go_ret
      exact ⟨ret_int (by rw [List.take_of_length_le (by omega)]), HV.out.trans hxr⟩
    obtain ⟨lb, off, rfl, hc⟩ := HL.out.get (by omega)
    have c1 := hxr.cell (HV.out.cell (ints_cell hc hlt))
    have b0 := k0 _ hxr
    have HT := Lib.hid (addS_snoc (f := f) (ns := G.ns) hlt)
    have ib1 : (k : Int) < (l.length : Int) := by omega
    clear hc HL
    generalize l.getD k 0 = i at *
    by_cases hi : 0 ≤ i ∧ i < G.ns.length
    · obtain ⟨hi1, hi2⟩ := hi
      obtain ⟨j, rfl⟩ := Int.eq_ofNat_of_zero_le hi1
      have hj : j < G.ns.length := by omega
      obtain ⟨nb, noff, hA, hcn⟩ := HG.out.nodes.row.get (by omega)
      obtain ⟨d0, d1, d2⟩ := nodes_cell hcn hj
      have e0 := hxr.cell (HV.out.cell d0)
      have e1 := hxr.cell (HV.out.cell d1)
      have e2 := hxr.cell (HV.out.cell d2)
      have HE := Lib.hid (HT.out.trans (if_pos ⟨hi1, hi2⟩))
      rw [Int.toNat_natCast] at HE
      have hcall := Lib.hid (HF.out wr (G.ns.getD j default))
      rw [hA] at b0
      clear hcn d0 d1 d2 HT HF hA k0
      generalize G.ns.getD j default = x at *
      go_wp2_with (go_at_fn g; refine hcall.out.mono ?_; rintro e w1 ⟨rfl, hx1⟩; replace hxr := hxr.trans hx1)
      go_roundw
      case rel => exact ⟨k + 1, by omega, by go_num, by rw [HE.out], hxr⟩
      case measure => simp [intOf]; omega
    · have HE := Lib.hid (HT.out.trans (if_neg hi))
      have hcase : i < 0 ∨ (0 ≤ i ∧ ¬ i < G.ns.length) := by omega
      clear hi HT HF
      rcases hcase with hi | ⟨hi, hi2⟩
      all_goals
        go_wp2_with fail
        go_roundw
        case rel => exact ⟨k + 1, by omega, by go_num, by rw [HE.out], hxr⟩
        case measure => simp [intOf]; omega
theorem words_any (G : GraphD) (A : Option Addr) (cap : Nat) (l : List Int) (V : World) (hG : GraphAt V G) (hl : IntsAt V A l) (hlen : l.length ≤ 9223372036854775807) (hn : G.ns.length ≤ 9223372036854775807) :
    Calls Try.prog 16 #[.agg #[.slice G.nA G.ns.length G.ncap, .slice G.rA G.rs.length G.rcap], .slice A l.length cap] V fun e w' => e = .returned (.int .i64 (addS sizeN G.ns l)) ∧ Ext V w' := by
  have HL := Lib.hid hl
  have HG := Lib.hid hG
  clear hl hG
  go_enter Try.func16, Try.ntmps16
  go_wp2_with fail
  refine (sum_any sizeN 9 (enters_of Try.func9 (by kernel_rfl) rfl) (fun W x => size_any x W) G A cap l _ (HG.out.ext ((Ext.refl V).alloc _)) (HL.out.ext ((Ext.refl V).alloc _)) hlen hn).mono ?_
  rintro e w1 ⟨rfl, hx⟩
  go_wp2_with fail
  go_ret
  exact ⟨rfl, ((Ext.refl V).alloc _).trans hx⟩
theorem fieldsG_any (G : GraphD) (A : Option Addr) (cap : Nat) (l : List Int) (V : World) (hG : GraphAt V G) (hl : IntsAt V A l) (hlen : l.length ≤ 9223372036854775807) (hn : G.ns.length ≤ 9223372036854775807) :
    Calls Try.prog 17 #[.agg #[.slice G.nA G.ns.length G.ncap, .slice G.rA G.rs.length G.rcap], .slice A l.length cap] V fun e w' => e = .returned (.int .i64 (addS (fun x => x.fields.length) G.ns l)) ∧ Ext V w' := by
  have HL := Lib.hid hl
  have HG := Lib.hid hG
  clear hl hG
  go_enter Try.func17, Try.ntmps17
  go_wp2_with fail
  refine (sum_any (fun x => x.fields.length) 28 (enters_of Try.func28 (by kernel_rfl) rfl) (fun W x => fieldsof_any x W) G A cap l _ (HG.out.ext ((Ext.refl V).alloc _)) (HL.out.ext ((Ext.refl V).alloc _)) hlen hn).mono ?_
  rintro e w1 ⟨rfl, hx⟩
  go_wp2_with fail
  go_ret
  exact ⟨rfl, ((Ext.refl V).alloc _).trans hx⟩
end Go.Proofs.Ytidfibheehcdgaa
