/- Two neighbouring rows that change places. -/
import Derived.Test.YtllcekmbcmhckaaSortB
set_option linter.unusedSimpArgs false
set_option linter.unusedVariables false
namespace Go.Proofs.Ytllcekmbcmhckaa

theorem gt_swapTo {xs : List (Int × Int)} {a b n : Nat} (hab : a + n ≤ b) (hb : b + n ≤ xs.length) : ∀ p, gt (swapTo xs a b n) p = if a ≤ p ∧ p < a + n then gt xs (p - a + b) else if b ≤ p ∧ p < b + n then gt xs (p - b + a) else gt xs p := by
  induction n with
  | zero => intro p; rw [swapTo, if_neg (by omega), if_neg (by omega)]
  | succ n ih =>
    intro p
    have ih := ih (by omega) (by omega)
    rw [swapTo, gt_swap (by rw [swapTo_length]; omega) (by rw [swapTo_length]; omega), ih, ih, ih]
    (repeat' split) <;> first | (exfalso; omega) | rfl | exact congrArg _ (by omega)
theorem swapTo_seg {xs : List (Int × Int)} {a b n l r : Nat} (hr : r ≤ xs.length) (hab : a + n ≤ b) (hl : l ≤ a) (hb : b + n ≤ r) : Seg l r xs (swapTo xs a b n) := by
  induction n with
  | zero => exact Seg.refl _ _ _
  | succ n ih => exact (ih (by omega) (by omega)).trans (Seg.swap (by rw [swapTo_length]; exact hr) ⟨by omega, by omega⟩ ⟨by omega, by omega⟩)

/-- The row from a up to m, and that from m up to b, have changed places. -/
def Rot (a m b : Nat) (xs ys : List (Int × Int)) : Prop := ∀ p, gt ys p = if p < a ∨ b ≤ p then gt xs p else if p < a + (b - m) then gt xs (p + (m - a)) else gt xs (p - (b - m))
theorem Rot.last {m i : Nat} {xs : List (Int × Int)} (hi : i ≤ m) (hm : m + i ≤ xs.length) : Rot (m - i) m (m + i) xs (swapTo xs (m - i) m i) := by
  intro p
  rw [gt_swapTo (by omega) (by omega)]
  (repeat' split) <;> first | (exfalso; omega) | rfl | exact congrArg _ (by omega)
theorem Rot.left {m i j : Nat} {xs ys : List (Int × Int)} (hi : i ≤ m) (hij : j < i) (hm : m + j ≤ xs.length) (h : Rot (m - (i - j)) m (m + j) (swapTo xs (m - i) m j) ys) : Rot (m - i) m (m + j) xs ys := by
  intro p
  rw [h p]
  rw [gt_swapTo (by omega) (by omega), gt_swapTo (by omega) (by omega), gt_swapTo (by omega) (by omega)]
  (repeat' split) <;> first | (exfalso; omega) | rfl | exact congrArg _ (by omega)
theorem Rot.right {m i j : Nat} {xs ys : List (Int × Int)} (hi : i ≤ m) (hij : i < j) (hm : m + j ≤ xs.length) (h : Rot (m - i) m (m + (j - i)) (swapTo xs (m - i) (m + j - i) i) ys) : Rot (m - i) m (m + j) xs ys := by
  intro p
  rw [h p]
  rw [gt_swapTo (by omega) (by omega), gt_swapTo (by omega) (by omega), gt_swapTo (by omega) (by omega)]
  (repeat' split) <;> first | (exfalso; omega) | rfl | exact congrArg _ (by omega)
end Go.Proofs.Ytllcekmbcmhckaa
