/- Headers as words: the program's Enc. -/
import Derived.Test.YtkcpfimhbogdcaaHdA
set_option linter.unusedSimpArgs false
set_option linter.unusedVariables false
namespace Go.Proofs.Ytkcpfimhbogdcaa
open Go.RowKit

structure Hd where
  k : Int
  f : Int
  r : Int
  m : Bool
  c : Int
def pAt (k : Nat) : Nat := [2, 3, 8, 24, 40, 64].getD k 0
def pN (k : Nat) : Nat := [1, 5, 16, 16, 24].getD k 1
def pMost (k : Nat) : Nat := [1, 31, 4096, 4096, 1048576].getD k 0
def numsL (h : Hd) : List Int := [if h.m then 1 else 0, h.k, h.f, h.r, h.c]
def nz (h : Hd) (i : Nat) : Int := (numsL h).getD i 0
/-- May a header be? -/
def hmayB (h : Hd) : Bool := decide (0 ≤ h.k ∧ h.k ≤ 31 ∧ 0 ≤ h.f ∧ h.f ≤ 4096 ∧ 0 ≤ h.r ∧ h.r ≤ 4096 ∧ 0 ≤ h.c ∧ h.c ≤ 1048576)
/-- The word, part by part. -/
def encP (h : Hd) : Nat → Nat
  | 0 => 3
  | k + 1 => encP h k + 2 ^ pAt k * (nz h k).toNat
def hwordN (h : Hd) : Nat := 3 + 4 * (if h.m then 1 else 0) + 8 * h.k.toNat + 256 * h.f.toNat + 16777216 * h.r.toNat + 1099511627776 * h.c.toNat
def hwordZ (h : Hd) : Int := if hmayB h then hwordN h else 0
def herrZ (h : Hd) : Int := if hmayB h then 0 else 1
theorem p_step (k : Nat) (hk : k < 5) : pAt (k + 1) = pAt k + pN k ∧ 1 ≤ pN k ∧ pN k < 64 ∧ pAt k + pN k ≤ 64 ∧ pMost k < 2 ^ pN k := by
  have : k = 0 ∨ k = 1 ∨ k = 2 ∨ k = 3 ∨ k = 4 := by omega
  rcases this with rfl | rfl | rfl | rfl | rfl <;> decide
def fineTo (h : Hd) (k : Nat) : Prop := ∀ i, i < k → 0 ≤ nz h i ∧ nz h i ≤ pMost i
theorem encP_lt (h : Hd) : ∀ k, k ≤ 5 → fineTo h k → encP h k < 2 ^ pAt k := by
  intro k
  induction k with
  | zero => intro _ _; show 3 < 2 ^ pAt 0; decide
  | succ k ih =>
    intro hk hf
    obtain ⟨h1, h2, h3, h4, h5⟩ := p_step k (by omega)
    have h6 := ih (by omega) fun i hi => hf i (by omega)
    obtain ⟨h7, h8⟩ := hf k (by omega)
    rw [h1, Nat.pow_add]
    have h9 : (nz h k).toNat + 1 ≤ 2 ^ pN k := by omega
    have := Nat.mul_le_mul_left (2 ^ pAt k) h9
    rw [Nat.mul_add, Nat.mul_one] at this
    show encP h k + 2 ^ pAt k * (nz h k).toNat < _
    omega
theorem fine_may (h : Hd) : fineTo h 5 ↔ hmayB h = true := by
  simp only [hmayB, decide_eq_true_eq]
  constructor
  · intro hf
    have h1 := hf 1 (by omega)
    have h2 := hf 2 (by omega)
    have h3 := hf 3 (by omega)
    have h4 := hf 4 (by omega)
    simp [nz, numsL, pMost] at h1 h2 h3 h4
    omega
  · intro hm i hi
    have : i = 0 ∨ i = 1 ∨ i = 2 ∨ i = 3 ∨ i = 4 := by omega
    rcases this with rfl | rfl | rfl | rfl | rfl <;> simp [nz, numsL, pMost] <;> (try split) <;> (try omega)
theorem encP_all (h : Hd) : encP h 5 = hwordN h := by
  simp only [encP, nz, numsL, pAt, hwordN, List.getD_cons_zero, List.getD_cons_succ]
  cases h.m <;> simp <;> omega
theorem hword_lt (h : Hd) (hm : hmayB h = true) : hwordN h < 18446744073709551616 := by
  rw [← encP_all]
  have := encP_lt h 5 (by omega) ((fine_may h).2 hm)
  exact this
theorem may_not (h : Hd) {k : Nat} (hk : k < 5) (hn : ¬ (0 ≤ nz h k ∧ nz h k ≤ pMost k)) : hmayB h = false := by
  cases e : hmayB h with
  | false => rfl
  | true => exact absurd ((fine_may h).2 e k hk) hn

set_option maxHeartbeats 1000000
theorem parts_any (W : World) : Calls Try.prog 126 #[] W fun e w' => e = .returned (.agg #[.int .i64 2, .int .i64 1, .int .i64 1, .int .i64 3, .int .i64 5, .int .i64 31, .int .i64 8, .int .i64 16, .int .i64 4096, .int .i64 24, .int .i64 16, .int .i64 4096, .int .i64 40, .int .i64 24, .int .i64 1048576]) ∧ Ext W w' := by
  go_enter Try.func126, Try.ntmps126
  go_wp2_with fail
  ((try simp only [Exit.inBlock, Exit.then]); refine bodyPost_ret (v := .agg #[.int .i64 2, .int .i64 1, .int .i64 1, .int .i64 3, .int .i64 5, .int .i64 31, .int .i64 8, .int .i64 16, .int .i64 4096, .int .i64 24, .int .i64 16, .int .i64 4096, .int .i64 40, .int .i64 24, .int .i64 1048576]) (by simp only [results, Try.results126]; go_simp) rfl ?_)
  exact ⟨rfl, (Ext.refl _).alloc _⟩
theorem numbers_any (h : Hd) (W : World) : Calls Try.prog 156 #[.agg #[.int .i64 h.k, .int .i64 h.f, .int .i64 h.r, .bool h.m, .int .i64 h.c]] W fun e w' => e = .returned (.agg #[.int .i64 (nz h 0), .int .i64 (nz h 1), .int .i64 (nz h 2), .int .i64 (nz h 3), .int .i64 (nz h 4)]) ∧ Ext W w' := by
  obtain ⟨k, f, r, m, c⟩ := h
  go_enter Try.func156, Try.ntmps156
  cases m
  · go_wp2_with fail
    ((try simp only [Exit.inBlock, Exit.then]); refine bodyPost_ret (v := .agg #[.int .i64 0, .int .i64 k, .int .i64 f, .int .i64 r, .int .i64 c]) (by simp only [results, Try.results156]; go_simp) rfl ?_)
    exact ⟨rfl, ((Ext.refl _).alloc _).alloc _⟩
  · go_wp2_with fail
    ((try simp only [Exit.inBlock, Exit.then]); refine bodyPost_ret (v := .agg #[.int .i64 1, .int .i64 k, .int .i64 f, .int .i64 r, .int .i64 c]) (by simp only [results, Try.results156]; go_simp) rfl ?_)
    exact ⟨rfl, ((Ext.refl _).alloc _).alloc _⟩
theorem index_parts (k : Nat) (hk : k < 5) (w : World) : (Instr.index 170 (.agg #[.int .i64 2, .int .i64 1, .int .i64 1, .int .i64 3, .int .i64 5, .int .i64 31, .int .i64 8, .int .i64 16, .int .i64 4096, .int .i64 24, .int .i64 16, .int .i64 4096, .int .i64 40, .int .i64 24, .int .i64 1048576]) (.int .i64 (k : Int))).run Try.prog w = .ok (.agg #[.int .i64 (pAt k : Nat), .int .i64 (pN k : Nat), .int .i64 (pMost k : Nat)]) w := by
  have : k = 0 ∨ k = 1 ∨ k = 2 ∨ k = 3 ∨ k = 4 := by omega
  rcases this with rfl | rfl | rfl | rfl | rfl <;> (unfold Instr.index; go_simp; first | rfl | exact ⟨rfl, rfl, rfl⟩)
end Go.Proofs.Ytkcpfimhbogdcaa
