/- The walks of the package work: numbers, plus, Exact, Within. -/
import Derived.Test.YtidfibheehcdgaaDoorValC
import Derived.Test.YtidfibheehcdgaaDoorOrd
import Derived.Test.YtidfibheehcdgaaDoorExact
set_option linter.unusedSimpArgs false
set_option linter.unusedVariables false
namespace Go.Proofs.YtidfibheehcdgaaDoor
open Go.RowKit

def plusZ (a b : Int) : Int := if 9223372036854775807 < a + b then 9223372036854775807 else if a + b < -9223372036854775808 then -9223372036854775808 else a + b
abbrev I64 (a : Int) : Prop := -9223372036854775808 ≤ a ∧ a ≤ 9223372036854775807
theorem plusZ_bd (a b : Int) : I64 (plusZ a b) := by unfold plusZ I64; (repeat' split) <;> omega

set_option maxHeartbeats 1000000 in
theorem plus_any (a b : Int) (ha : I64 a) (hb : I64 b) (w : World) :
    Calls Tryd.prog 42 #[.int .i64 a, .int .i64 b] w fun e w' => e = .returned (.int .i64 (plusZ a b)) ∧ w = w' := by
  obtain ⟨h0, h1⟩ := ha
  obtain ⟨h2, h3⟩ := hb
  by_cases hp : 0 < a
  · have hs : wrap64 (9223372036854775807 - a) = 9223372036854775807 - a := IntWalk.wrap64_in _ ⟨by omega, by omega⟩
    by_cases hq : 9223372036854775807 - a < b
    · have HP := Lib.hid (show plusZ a b = 9223372036854775807 by unfold plusZ; rw [if_pos (by omega)])
      go_enter Tryd.func42, Tryd.ntmps42
      go_wp2
      all_goals go_ret
      all_goals exact ⟨ret_int (by rw [HP.out]), rfl⟩
    · have HP := Lib.hid (show plusZ a b = a + b by unfold plusZ; rw [if_neg (by omega), if_neg (by omega)])
      have ht : wrap64 (a + b) = a + b := IntWalk.wrap64_in _ ⟨by omega, by omega⟩
      go_enter Tryd.func42, Tryd.ntmps42
      go_wp2
      all_goals go_ret
      all_goals exact ⟨ret_int (by rw [HP.out]), rfl⟩
  · by_cases hn : a < 0
    · have hs : wrap64 (-9223372036854775808 - a) = -9223372036854775808 - a := IntWalk.wrap64_in _ ⟨by omega, by omega⟩
      by_cases hq : b < -9223372036854775808 - a
      · have HP := Lib.hid (show plusZ a b = -9223372036854775808 by unfold plusZ; rw [if_neg (by omega), if_pos (by omega)])
        go_enter Tryd.func42, Tryd.ntmps42
        go_wp2
        all_goals go_ret
        all_goals exact ⟨ret_int (by rw [HP.out]), rfl⟩
      · have HP := Lib.hid (show plusZ a b = a + b by unfold plusZ; rw [if_neg (by omega), if_neg (by omega)])
        have ht : wrap64 (a + b) = a + b := IntWalk.wrap64_in _ ⟨by omega, by omega⟩
        go_enter Tryd.func42, Tryd.ntmps42
        go_wp2
        all_goals go_ret
        all_goals exact ⟨ret_int (by rw [HP.out]), rfl⟩
    · obtain rfl : a = 0 := by omega
      have HP := Lib.hid (show plusZ 0 b = b by unfold plusZ; rw [if_neg (by omega), if_neg (by omega)]; omega)
      go_enter Tryd.func42, Tryd.ntmps42
      go_wp2
      all_goals go_ret
      all_goals exact ⟨ret_int (by rw [HP.out]), rfl⟩

def WV (a b c d e : Int) : Value := .agg #[.int .i64 a, .int .i64 b, .int .i64 c, .int .i64 d, .int .i64 e]
def exB (a b c d : Int) (n o w f l : Int) : Bool := b == o && (a == w && (c == f && d == l))
set_option maxHeartbeats 1000000 in
theorem exact_any (a b c d e o n f l : Int) (w : World) :
    Calls Tryd.prog 40 #[.agg #[.int .i64 a, .int .i64 b, .int .i64 c, .int .i64 d, .int .i64 e], .int .i64 o, .int .i64 n, .int .i64 f, .int .i64 l] w fun e w' => e = .returned (.bool (b == o && a == n && c == f && d == l)) ∧ Ext w w' := by
  go_enter Tryd.func40, Tryd.ntmps40
  go_wp2
  all_goals go_ret
  all_goals exact ⟨ret_bool (by simp_all), (Ext.refl _).alloc _⟩

set_option maxHeartbeats 1000000 in
theorem numbers_any (B : Nat) (w : World) (hB : B < w.heap.size) :
    Calls Tryd.prog 41 #[.pointer (some ⟨B, 0, none⟩)] w fun e w' => e = .returned (.agg #[.pointer (some ⟨B, 0, none⟩), .pointer (some ⟨B, 1, none⟩), .pointer (some ⟨B, 2, none⟩), .pointer (some ⟨B, 3, none⟩), .pointer (some ⟨B, 4, none⟩)]) ∧ Ext w w' := by
  go_enter Tryd.func41, Tryd.ntmps41
  go_wp2_with fail
  have hbl := heap_alloc_new w (.cells #[.pointer none, .pointer none, .pointer none, .pointer none, .pointer none] 64)
  have hW : Ext w (w.alloc (.cells #[.pointer none, .pointer none, .pointer none, .pointer none, .pointer none] 64)) := (Ext.refl w).alloc _
  have hsz : w.heap.size < (w.alloc (.cells #[.pointer none, .pointer none, .pointer none, .pointer none, .pointer none] 64)).heap.size := by simp
  generalize w.alloc (.cells #[.pointer none, .pointer none, .pointer none, .pointer none, .pointer none] 64) = W at *
  have HBL := Lib.hid hbl
  have HW := Lib.hid hW
  clear hbl hW
  have hs0 : Ext W W := Ext.refl W
  (refine wp_region_ext_tail (W := W) 16 (by kernel_rfl) (by kernel_rfl) (by with_reducible assumption) ?_; simp only [List.take_succ_cons, List.take_zero, List.drop_succ_cons, List.drop_zero]; (repeat (go_big_quiet_step (fail))); refine wpQuiet_nil ?_; intro w1 hx)
  have hb1 : w1.heap[w.heap.size]? = some (.cells #[.pointer none, .pointer none, .pointer none, .pointer none, .pointer none] 64 (0, 0)) := (hx.block hsz).trans HBL.out
  have HX := Lib.hid (HW.out.trans hx)
  have HB1 := Lib.hid hb1
  clear hx hs0 hb1 HBL HW hsz
  have z0 : w1.cell? ⟨w.heap.size, 0, none⟩ = some (.pointer none) := by simp [World.cell?, HB1.out]
  have z1 : w1.cell? ⟨w.heap.size, 1, none⟩ = some (.pointer none) := by simp [World.cell?, HB1.out]
  have z2 : w1.cell? ⟨w.heap.size, 2, none⟩ = some (.pointer none) := by simp [World.cell?, HB1.out]
  have z3 : w1.cell? ⟨w.heap.size, 3, none⟩ = some (.pointer none) := by simp [World.cell?, HB1.out]
  have z4 : w1.cell? ⟨w.heap.size, 4, none⟩ = some (.pointer none) := by simp [World.cell?, HB1.out]
  have f0 : w1.frozen? ⟨w.heap.size, 0, none⟩ = false := frozen_of_row w1 _ 0 _ _ HB1.out
  have f1 : w1.frozen? ⟨w.heap.size, 1, none⟩ = false := frozen_of_row w1 _ 1 _ _ HB1.out
  have f2 : w1.frozen? ⟨w.heap.size, 2, none⟩ = false := frozen_of_row w1 _ 2 _ _ HB1.out
  have f3 : w1.frozen? ⟨w.heap.size, 3, none⟩ = false := frozen_of_row w1 _ 3 _ _ HB1.out
  have f4 : w1.frozen? ⟨w.heap.size, 4, none⟩ = false := frozen_of_row w1 _ 4 _ _ HB1.out
  go_wp2_with fail
  ((try simp only [Exit.inBlock, Exit.then]); refine bodyPost_ret (v := .agg #[.pointer (some ⟨B, 0, none⟩), .pointer (some ⟨B, 1, none⟩), .pointer (some ⟨B, 2, none⟩), .pointer (some ⟨B, 3, none⟩), .pointer (some ⟨B, 4, none⟩)]) (by simp only [results, Tryd.results41]; go_simp) rfl ?_)
  exact ⟨rfl, ((((HX.out.setCell (p := ⟨w.heap.size, 0, none⟩) (Nat.le_refl _) _).setCell (p := ⟨w.heap.size, 1, none⟩) (Nat.le_refl _) _).setCell (p := ⟨w.heap.size, 2, none⟩) (Nat.le_refl _) _).setCell (p := ⟨w.heap.size, 3, none⟩) (Nat.le_refl _) _).setCell (p := ⟨w.heap.size, 4, none⟩) (Nat.le_refl _) _⟩

def inR (z : Int) : Bool := decide (0 ≤ z ∧ z ≤ 1099511627776)
/-- Is a work no more than so much? -/
def withB (a c e : Int) (l : List Int) : Bool := l.all inR && decide (a ≤ l.getD 0 0 ∧ c ≤ l.getD 1 0 ∧ 0 ≤ e ∧ e ≤ 8 * (1 + l.sum))
theorem index_four (i : Nat) (l : List Int) (a b c d : Int) (hl : l = [a, b, c, d]) (hi : i < 4) (w : World) :
    (Instr.index 62 (.agg #[.int .i64 a, .int .i64 b, .int .i64 c, .int .i64 d]) (.int .i64 (i : Int))).run Tryd.prog w = .ok (.int .i64 (l.getD i 0)) w := by
  subst hl
  have : i = 0 ∨ i = 1 ∨ i = 2 ∨ i = 3 := by omega
  rcases this with rfl | rfl | rfl | rfl <;> (unfold Instr.index; go_simp; try rfl)
theorem sum_bd (l : List Int) (k : Nat) (hk : k ≤ 4) (h : ∀ i, i < k → inR (l.getD i 0) = true) : 0 ≤ (l.take k).sum ∧ (l.take k).sum ≤ k * 1099511627776 := by
  induction k with
  | zero => simp
  | succ k ih =>
    obtain ⟨h1, h2⟩ := ih (by omega) (fun i hi => h i (by omega))
    have h3 := h k (by omega)
    simp only [inR, decide_eq_true_eq] at h3
    rw [List.take_add_one, List.sum_append]
    by_cases hk : k < l.length
    · simp only [List.getElem?_eq_getElem hk, List.getD_eq_getElem?_getD, Option.getD_some] at h3 ⊢
      simp
      omega
    · simp [List.getElem?_eq_none (by omega : l.length ≤ k)]
      omega

set_option maxRecDepth 100000 in
set_option maxHeartbeats 4000000 in
theorem wwithin_any (a b c d e n1 n2 n3 n4 : Int) (w : World) :
    Calls Tryd.prog 30 #[.agg #[.int .i64 a, .int .i64 b, .int .i64 c, .int .i64 d, .int .i64 e], .int .i64 n1, .int .i64 n2, .int .i64 n3, .int .i64 n4] w fun r w' => r = .returned (.bool (withB a c e [n1, n2, n3, n4])) ∧ Ext w w' := by
  obtain ⟨l, hl⟩ : ∃ l, l = [n1, n2, n3, n4] := ⟨_, rfl⟩
  have HLL := Lib.hid hl
  have h0 := index_four 0 l n1 n2 n3 n4 hl (by omega)
  have k0 := boxed w #[.int .i64 a, .int .i64 b, .int .i64 c, .int .i64 d, .int .i64 e] 51 0 (.int .i64 a) rfl
  have k2 := boxed w #[.int .i64 a, .int .i64 b, .int .i64 c, .int .i64 d, .int .i64 e] 51 2 (.int .i64 c) rfl
  have k4 := boxed w #[.int .i64 a, .int .i64 b, .int .i64 c, .int .i64 d, .int .i64 e] 51 4 (.int .i64 e) rfl
  have hW : Ext w (w.alloc (.cells #[.int .i64 a, .int .i64 b, .int .i64 c, .int .i64 d, .int .i64 e] 51)) := (Ext.refl w).alloc _
  clear hl h0
  go_enter Tryd.func30, Tryd.ntmps30
  go_wp2_with fail
  generalize w.alloc (.cells #[.int .i64 a, .int .i64 b, .int .i64 c, .int .i64 d, .int .i64 e] 51) = W at *
  replace k0 := k0 W (Ext.refl _)
  replace k2 := k2 W (Ext.refl _)
  replace k4 := k4 W (Ext.refl _)
  go_loopw [11, 13, 19] (fun m _ i wr => ∃ k : Nat, k ≤ 4 ∧ i = .int .i64 k ∧ wr = W ∧ m = .int .i64 (1 + (l.take k).sum) ∧ Hid (∀ i, i < k → inR (l.getD i 0) = true)) (fun _ _ i _ => 4 - (intOf i).toNat)
  case atStart => exact ⟨0, by omega, rfl, rfl, by simp, Lib.hid (by omega)⟩
  case round =>
    obtain ⟨k, hk, rfl, rfl, rfl, hq⟩ := hrel
    by_cases hlt : k < 4
    · have hix := index_four k l n1 n2 n3 n4 HLL.out hlt
      obtain ⟨s0, s1⟩ := sum_bd l k (by omega) hq.out
      have HN := Lib.hid (fun h : inR (l.getD k 0) = false => (show withB a c e [n1, n2, n3, n4] = false by
        have : l.all inR = false := by
          rw [List.all_eq_false]
          have hlen : k < l.length := by rw [HLL.out]; simpa using hlt
          exact ⟨l.getD k 0, by simp [List.getElem?_eq_getElem hlen], by rw [h]; simp⟩
        rw [withB, ← HLL.out, this, Bool.false_and]))
      have HP := Lib.hid (fun h : inR (l.getD k 0) = true => (fun i (hi : i < k + 1) => by
        rcases Nat.lt_or_ge i k with h' | h'
        · exact hq.out i h'
        · obtain rfl : i = k := by omega
          exact h : ∀ i, i < k + 1 → inR (l.getD i 0) = true))
      have HS := Lib.hid (show (l.take (k + 1)).sum = (l.take k).sum + l.getD k 0 by
        have hlen : k < l.length := by rw [HLL.out]; simpa using hlt
        rw [List.take_add_one, List.sum_append]
        simp [List.getElem?_eq_getElem hlen])
      generalize (l.take k).sum = t at *
      clear hq
      generalize hz : l.getD k 0 = z at *
      clear hz
      by_cases hneg : z < 0
      · have HI := Lib.hid (show inR z = false by simp [inR]; omega)
        go_wp2_with fail
        go_ret
        exact ⟨ret_bool (by rw [HN.out HI.out]), hW⟩
      · by_cases hbig : 1099511627776 < z
        · have HI := Lib.hid (show inR z = false by simp [inR]; omega)
          go_wp2_with fail
          go_ret
          exact ⟨ret_bool (by rw [HN.out HI.out]), hW⟩
        · have HI := Lib.hid (show inR z = true by simp [inR]; omega)
          go_wp2_with fail
          go_roundw
          case rel => exact ⟨k + 1, by omega, by go_num, (by first | rfl | trivial), by rw [HS.out]; congr 1; omega, Lib.hid (HP.out HI.out)⟩
          case measure => simp [intOf]; omega
    · obtain rfl : k = 4 := by omega
      obtain ⟨s0, s1⟩ := sum_bd l 4 (by omega) hq.out
      have HA := Lib.hid (show withB a c e [n1, n2, n3, n4] = decide (a ≤ n1 ∧ c ≤ n2 ∧ 0 ≤ e ∧ e ≤ 8 * (1 + (l.take 4).sum)) by
        have h := hq.out
        have h1 : l.all inR = true := by
          rw [List.all_eq_true]
          intro x hx
          obtain ⟨i, hi, rfl⟩ := List.getElem_of_mem hx
          have := h i (by rw [HLL.out] at hi; simpa using hi)
          simpa [List.getElem?_eq_getElem hi] using this
        have h2 : l.take 4 = l := by rw [HLL.out]; rfl
        rw [h2, withB, ← HLL.out, h1, Bool.true_and, HLL.out]
        rfl)
      generalize (l.take 4).sum = t at *
      clear hq
      go_wp2_with fail
      all_goals go_ret
      all_goals refine ⟨ret_bool ?_, hW⟩
      all_goals rw [HA.out]
      all_goals first
        | (simp; omega)
        | (rw [Bool.eq_iff_iff]; simp; omega)
        | (simp [*]; done)
        | (simp_all; done)
end Go.Proofs.YtidfibheehcdgaaDoor
