/- Merged by program (merge.py) out of: BitP. -/
import Derived.IntWalk
import Derived.Laws.Bits64b
import Derived.Test.YtkcpfimhbogdcaaMk1
/- Plain laws on the bits of a word: a part is got, a part is put where nothing is yet. Of no program. -/
set_option linter.unusedSimpArgs false
set_option linter.unusedVariables false
namespace Go.Proofs.Ytkcpfimhbogdcaa
open Go.RowKit

theorem ofInt_nat (a : Nat) (ha : a < 18446744073709551616) : (BitVec.ofInt 64 (a : Int)).toNat = a := by
  rw [BitVec.ofInt_natCast, BitVec.toNat_ofNat]; exact Nat.mod_eq_of_lt (by omega)
theorem andNot_high (w m k : Nat) (hw : w < 2 ^ k) (hk : k ≤ 64) (hm : 2 ^ k * m < 18446744073709551616) : bits .andNot .u64 (w : Int) ((2 ^ k * m : Nat) : Int) = (w : Int) := by
  have hw64 : w < 18446744073709551616 := Nat.lt_of_lt_of_le hw (by
    have : 2 ^ k ≤ 2 ^ 64 := Nat.pow_le_pow_right (by omega) hk
    omega)
  have h1 := ofInt_nat w hw64
  have h2 := ofInt_nat (2 ^ k * m) hm
  show IntKind.u64.wrap ((BitVec.ofInt 64 (w : Int) &&& ~~~ BitVec.ofInt 64 ((2 ^ k * m : Nat) : Int)).toNat : Int) = _
  rw [BitVec.toNat_and, BitVec.toNat_not, h1, h2, IntKind.wrap_u64]
  have h3 : w &&& (2 ^ 64 - 1 - 2 ^ k * m) = w := by
    apply Nat.eq_of_testBit_eq
    intro i
    rw [Nat.testBit_and, show 2 ^ 64 - 1 - 2 ^ k * m = 2 ^ 64 - (2 ^ k * m + 1) by omega, Nat.testBit_two_pow_sub_succ (by omega)]
    by_cases hi : i < k
    · rw [Nat.testBit_two_pow_mul]
      have : decide (i ≥ k) = false := by simp; omega
      rw [this]
      simp
      intro _
      omega
    · have : w.testBit i = false := Nat.testBit_lt_two_pow (Nat.lt_of_lt_of_le hw (Nat.pow_le_pow_right (by omega) (by omega)))
      rw [this]; rfl
  rw [h3]
  omega
theorem or_high (w x k : Nat) (hw : w < 2 ^ k) (h : w + 2 ^ k * x < 18446744073709551616) : bits .or .u64 (w : Int) ((2 ^ k * x : Nat) : Int) = ((w + 2 ^ k * x : Nat) : Int) := by
  rw [bits_or_u64_nat w (2 ^ k * x) (by omega) (by omega), Nat.or_comm]
  have := Nat.two_pow_add_eq_or_of_lt (i := k) (b := w) hw x
  rw [← this]
  omega
theorem and_mask (w n : Nat) (hw : w < 18446744073709551616) (hn : n ≤ 64) : bits .and .u64 (w : Int) ((2 ^ n - 1 : Nat) : Int) = ((w % 2 ^ n : Nat) : Int) := by
  have h64 : 2 ^ n ≤ 2 ^ 64 := Nat.pow_le_pow_right (by omega) hn
  rw [bits_and_u64_nat w (2 ^ n - 1) hw (by omega), Nat.and_two_pow_sub_one_eq_mod]
theorem andNot_mask (x n : Nat) (hx : x < 2 ^ n) (hn : n ≤ 64) : bits .andNot .u64 (x : Int) ((2 ^ n - 1 : Nat) : Int) = 0 := by
  have h64 : 2 ^ n ≤ 2 ^ 64 := Nat.pow_le_pow_right (by omega) hn
  have hx64 : x < 18446744073709551616 := by omega
  have h1 := ofInt_nat x hx64
  have h2 := ofInt_nat (2 ^ n - 1) (by omega)
  show IntKind.u64.wrap ((BitVec.ofInt 64 (x : Int) &&& ~~~ BitVec.ofInt 64 ((2 ^ n - 1 : Nat) : Int)).toNat : Int) = _
  rw [BitVec.toNat_and, BitVec.toNat_not, h1, h2, IntKind.wrap_u64]
  have h3 : x &&& (2 ^ 64 - 1 - (2 ^ n - 1)) = 0 := by
    apply Nat.eq_of_testBit_eq
    intro i
    rw [Nat.testBit_and, show 2 ^ 64 - 1 - (2 ^ n - 1) = 2 ^ 64 - ((2 ^ n - 1) + 1) by omega, Nat.testBit_two_pow_sub_succ (by omega), Nat.testBit_two_pow_sub_one]
    by_cases hi : i < n
    · simp [hi]
    · have : x.testBit i = false := Nat.testBit_lt_two_pow (Nat.lt_of_lt_of_le hx (Nat.pow_le_pow_right (by omega) (by omega)))
      rw [this]; simp
  rw [h3]
  rfl
end Go.Proofs.Ytkcpfimhbogdcaa

