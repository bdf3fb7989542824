/- Merged by program (merge.py) out of: ValA, GraV. -/
import Derived.IntWalk
import Derived.Laws.Bits64b
import Derived.Test.YtphpppjfogpohaaMc1
/- The walks of the package value, and of its reference: Enc, Dec, Ref. -/
set_option linter.unusedSimpArgs false
set_option linter.unusedVariables false
namespace Go.Proofs.Ytphpppjfogpohaa
open Go.RowKit

theorem or_low (x : Int) (k : Nat) (h0 : 0 ≤ x) (h1 : x < 18446744073709551616) (h4 : x % 4 = 0) (hk : k < 4) : bits .or .u64 x (k : Int) = x + k := by
  obtain ⟨n, rfl⟩ := Int.eq_ofNat_of_zero_le h0
  rw [bits_or_u64_nat n k (by omega) (by omega)]
  obtain ⟨m, rfl⟩ : ∃ m, n = 4 * m := ⟨n / 4, by omega⟩
  have h := Nat.shiftLeft_add_eq_or_of_lt (i := 2) (b := k) (by omega) m
  rw [Nat.shiftLeft_eq, show m * 2 ^ 2 = 4 * m by omega] at h
  rw [← h]
  omega
theorem or_1 (x : Int) (h0 : 0 ≤ x) (h1 : x < 18446744073709551616) (h4 : x % 4 = 0) : bits .or .u64 x 1 = x + 1 := or_low x 1 h0 h1 h4 (by omega)
theorem or_2 (x : Int) (h0 : 0 ≤ x) (h1 : x < 18446744073709551616) (h4 : x % 4 = 0) : bits .or .u64 x 2 = x + 2 := or_low x 2 h0 h1 h4 (by omega)
theorem and_3 (x : Int) (h0 : 0 ≤ x) (h1 : x < 18446744073709551616) : bits .and .u64 x 3 = x % 4 := by
  obtain ⟨n, rfl⟩ := Int.eq_ofNat_of_zero_le h0
  rw [show (3 : Int) = ((3 : Nat) : Int) from rfl, bits_and_u64_nat n 3 (by omega) (by omega)]
  have h := Nat.and_two_pow_sub_one_eq_mod n 2
  rw [show 2 ^ 2 - 1 = 3 from rfl, show 2 ^ 2 = 4 from rfl] at h
  rw [h]
  omega
def most62V : Int := 18446744073709551616
theorem wrap_u (x : Int) : IntKind.u64.wrap x = x % 18446744073709551616 := by rw [IntKind.wrap_u64]

def vmayB (k x : Int) : Bool := decide ((k = 0 ∧ x = 0) ∨ (k = 1 ∧ -2305843009213693952 ≤ x ∧ x ≤ 2305843009213693951) ∨ (k = 2 ∧ 0 ≤ x ∧ x ≤ 1099511627776))
/-- A value's word. -/
def encW (k x : Int) : Int := if vmayB k x then (if k = 0 then 0 else (4 * x + k) % 18446744073709551616) else 0
def encE (k x : Int) : Int := if vmayB k x then 0 else 1
theorem enc_0 : encW 0 0 = 0 ∧ encE 0 0 = 0 := ⟨rfl, rfl⟩
theorem enc_1 {x : Int} (h1 : -2305843009213693952 ≤ x) (h2 : x ≤ 2305843009213693951) : encW 1 x = (4 * x + 1) % 18446744073709551616 ∧ encE 1 x = 0 := by
  have : vmayB 1 x = true := by simp [vmayB]; omega
  simp [encW, encE, this]
theorem enc_2 {x : Int} (h1 : 0 ≤ x) (h2 : x ≤ 1099511627776) : encW 2 x = (4 * x + 2) % 18446744073709551616 ∧ encE 2 x = 0 := by
  have : vmayB 2 x = true := by simp [vmayB]; omega
  simp [encW, encE, this]
theorem enc_no {k x : Int} (h : vmayB k x = false) : encW k x = 0 ∧ encE k x = 1 := by simp [encW, encE, h]
theorem ret_enc {a b c d : Int} (h1 : a = c) (h2 : b = d) : Ending.returned (.tuple #[.int .u64 a, .int .i64 b]) = .returned (.tuple #[.int .u64 c, .int .i64 d]) := by rw [h1, h2]

set_option maxHeartbeats 1000000 in
theorem enc_any (k x : Int) (w : World) :
    Calls Try.prog 66 #[.agg #[.int .i64 k, .int .i64 x]] w fun e w' => e = .returned (.tuple #[.int .u64 (encW k x), .int .i64 (encE k x)]) ∧ Ext w w' := by
  go_enter Try.func66, Try.ntmps66
  go_wp2
  all_goals go_ret2
  all_goals simp only [beq_iff_eq, beq_eq_false_iff_ne, decide_eq_true_eq, decide_eq_false_iff_not, bne_iff_ne, ne_eq] at *
  all_goals refine ⟨ret_enc ?_ ?_, (Ext.refl _).alloc _⟩
  all_goals first
    | (rw [(enc_no (k := k) (x := x) (by simp [vmayB]; omega)).1]; done)
    | (rw [(enc_no (k := k) (x := x) (by simp [vmayB]; omega)).2]; done)
    | (subst k; (try simp only [wrap_u]); rw [or_1 _ (by omega) (by omega) (by omega), (enc_1 (by omega) (by omega)).1]; omega)
    | (subst k; (try simp only [wrap_u]); rw [or_2 _ (by omega) (by omega) (by omega), (enc_2 (by omega) (by omega)).1]; omega)
    | (subst k; rw [(enc_1 (by omega) (by omega)).2]; done)
    | (subst k; rw [(enc_2 (by omega) (by omega)).2]; done)
    | (subst k; subst x; rfl)

set_option maxHeartbeats 1000000 in
theorem refvmay_any (k x : Int) (w : World) :
    Calls Try.prog 81 #[.agg #[.int .i64 k, .int .i64 x]] w fun e w' => e = .returned (.bool (vmayB k x)) ∧ Ext w w' := by
  go_enter Try.func81, Try.ntmps81
  go_wp2
  all_goals go_ret
  all_goals simp only [beq_iff_eq, beq_eq_false_iff_ne, decide_eq_true_eq, decide_eq_false_iff_not, bne_iff_ne, ne_eq] at *
  all_goals exact ⟨ret_bool (by rw [Bool.eq_iff_iff]; simp [vmayB]; omega), (Ext.refl _).alloc _⟩
theorem refvmay_is (k x : Int) (b : Bool) (h : vmayB k x = b) (w : World) : Calls Try.prog 81 #[.agg #[.int .i64 k, .int .i64 x]] w fun e w' => e = .returned (.bool b) ∧ Ext w w' := by
  subst h; exact refvmay_any k x w

theorem enc_is (k x u er : Int) (h1 : encW k x = u) (h2 : encE k x = er) (w : World) :
    Calls Try.prog 66 #[.agg #[.int .i64 k, .int .i64 x]] w fun e w' => e = .returned (.tuple #[.int .u64 u, .int .i64 er]) ∧ Ext w w' := by
  subst h1 h2; exact enc_any k x w
end Go.Proofs.Ytphpppjfogpohaa

/- value.Enc and its reference May, for the seats of graphs. -/
namespace Go.Proofs.Ytphpppjfogpohaa
end Go.Proofs.Ytphpppjfogpohaa

