/- The walks of span.Total, span.Apart, and of the reference's Total and Same. -/
import Derived.Test.YtllcekmbcmhckaaSpanB
import Derived.Test.YtllcekmbcmhckaaSortI
set_option linter.unusedSimpArgs false
set_option linter.unusedVariables false
namespace Go.Proofs.Ytllcekmbcmhckaa
open Go.RowKit

def most62 : Int := 4611686018427387904
def addT (n : Int) (x : Int × Int) : Int := if mayB x.1 x.2 then min (n + x.2) most62 else n
def totalL (xs : List (Int × Int)) : Int := xs.foldl addT 0
theorem total_snoc {xs : List (Int × Int)} {k : Nat} (hk : k < xs.length) : totalL (xs.take (k + 1)) = addT (totalL (xs.take k)) (xs.getD k (0, 0)) := by
  unfold totalL
  rw [List.take_succ_eq_append_getElem hk, List.foldl_append]
  simp [List.getElem?_eq_getElem hk]
theorem addT_bd {n : Int} {x : Int × Int} (h : 0 ≤ n ∧ n ≤ most62) : 0 ≤ addT n x ∧ addT n x ≤ most62 := by
  unfold addT
  split
  · rename_i hm
    have := may_bd hm
    unfold most62 at *
    omega
  · exact h
theorem total_bd (xs : List (Int × Int)) : 0 ≤ totalL xs ∧ totalL xs ≤ most62 := by
  unfold totalL
  suffices ∀ (l : List (Int × Int)) (n : Int), 0 ≤ n ∧ n ≤ most62 → 0 ≤ l.foldl addT n ∧ l.foldl addT n ≤ most62 from this xs 0 (by unfold most62; omega)
  intro l
  induction l with
  | nil => exact fun n h => h
  | cons x l ih => exact fun n h => ih _ (addT_bd h)

set_option maxRecDepth 100000 in
set_option maxHeartbeats 1000000 in
theorem total_any (A : Option Addr) (cap : Nat) (xs : List (Int × Int)) (W : World) (hlen : xs.length ≤ 9223372036854775807) (hl : SpansAt W A xs) :
    Calls Try.prog 25 #[.slice A xs.length cap] W fun e w' => e = .returned (.int .i64 (totalL xs)) ∧ Ext W w' := by
  have HL := Lib.hid hl
  clear hl
  go_enter Try.func25, Try.ntmps25
  go_wp2_with fail
  go_loopw [3, 8] (fun n i wr => ∃ k : Nat, k ≤ xs.length ∧ i = .int .i64 k ∧ n = .int .i64 (totalL (xs.take k)) ∧ Ext W wr) (fun _ i _ => xs.length - (intOf i).toNat)
  case atStart => exact ⟨0, by omega, rfl, rfl, Ext.refl _⟩
  case round =>
    obtain ⟨k, hk, rfl, rfl, hxr⟩ := hrel
    by_cases hlt : k < xs.length
    rotate_left
    · go_wp2_with fail
      go_ret
      exact ⟨ret_int (by rw [List.take_of_length_le (by omega)]), hxr⟩
    obtain ⟨lb, off, rfl, hc⟩ := HL.out.get (by omega)
    obtain ⟨e1, e2⟩ := spans_cell hc hlt
    have E1 := Lib.hid e1
    have E2 := Lib.hid e2
    have c1 : ∀ w', Ext W w' → w'.cell? ⟨lb, off + k * 2, none⟩ = some (.int .i64 (xs.getD k (0, 0)).1) := fun w' h => h.cell E1.out
    have c2 : ∀ w', Ext W w' → w'.cell? ⟨lb, off + k * 2 + 1, none⟩ = some (.int .i64 (xs.getD k (0, 0)).2) := fun w' h => h.cell E2.out
    have HT := Lib.hid (total_snoc hlt)
    have hbd := total_bd (xs.take k)
    clear e1 e2 hc HL
    generalize xs.getD k (0, 0) = x at *
    obtain ⟨a, s⟩ := x
    simp only at c1 c2
    generalize totalL (xs.take k) = n at *
    obtain ⟨hb1, hb2⟩ := hbd
    unfold most62 at hb2
    have ib1 : (k : Int) < (xs.length : Int) := by omega
    go_wp2_with fail
    cases hm : mayB a s
    · refine (may_is a s _ hm _).mono ?_
      rintro e w1 ⟨rfl, hx1⟩
      have hx2 := (hxr.alloc _).trans hx1
      go_wp2_with fail
      go_roundw
      case rel => exact ⟨k + 1, by omega, by go_num, by rw [HT.out]; simp [addT, hm], hx2⟩
      case measure => simp [intOf]; omega
    · obtain ⟨q1, q2, q3, q4⟩ := may_bd hm
      refine (may_is a s _ hm _).mono ?_
      rintro e w1 ⟨rfl, hx1⟩
      have hx2 := (hxr.alloc _).trans hx1
      have k1 := boxed wr #[.int .i64 a, .int .i64 s] 23 1 (.int .i64 s) rfl w1 hx1
      go_wp2_with fail
      all_goals
        go_roundw
        case rel => exact ⟨k + 1, by omega, by go_num, by rw [HT.out]; simp only [addT, hm, if_true]; congr 1; unfold most62; omega, hx2⟩
        case measure => simp [intOf]; omega
end Go.Proofs.Ytllcekmbcmhckaa
