/- Rows of an arena: row, Fill. -/
import Derived.Test.YtkcpfimhbogdcaaArC
set_option linter.unusedSimpArgs false
set_option linter.unusedVariables false
namespace Go.Proofs.Ytkcpfimhbogdcaa
open Go.RowKit Go.Shelf

def rowE (ws : List Int) (i n : Int) : Int := if n < 0 then 1 else if i < 0 ∨ (ws.length : Int) < i ∨ (ws.length : Int) - i < n then 2 else 0
theorem rowE_ok {ws : List Int} {i n : Int} (h : rowE ws i n = 0) : 0 ≤ n ∧ 0 ≤ i ∧ i + n ≤ ws.length := by
  unfold rowE at h
  split at h
  · cases h
  · split at h
    · cases h
    · omega
/-- Where a row begins. -/
def rowA (A : Option Addr) (k m : Nat) : Option Addr := if m = 0 then A else A.map (·.add k)
def rowV (A : Option Addr) (ws : List Int) (i n : Int) : Value := if rowE ws i n = 0 then .slice (rowA A i.toNat n.toNat) n.toNat n.toNat else .slice none 0 0
theorem rowV_bad {A : Option Addr} {ws : List Int} {i n er : Int} (h : rowE ws i n = er) (h0 : er ≠ 0) : rowV A ws i n = .slice none 0 0 := by rw [rowV, if_neg (by rw [h]; exact h0)]
theorem rowV_ok {A : Option Addr} {ws : List Int} {k m : Nat} (h : rowE ws k m = 0) : rowV A ws k m = .slice (rowA A k m) m m := by rw [rowV, if_pos h]; simp
set_option maxRecDepth 100000
set_option maxHeartbeats 1000000
theorem arow_any (b : Nat) (A : Option Addr) (cap : Nat) (ws : List Int) (i n : Int) (Bo : Nat) (V : World) (h : ArO Bo V b A cap ws) (hi : -9223372036854775808 ≤ i ∧ i ≤ 9223372036854775807) (hn : -9223372036854775808 ≤ n ∧ n ≤ 9223372036854775807) :
    Calls Try.prog 158 #[.pointer (some ⟨b, 0, none⟩), .int .i64 i, .int .i64 n] V fun e w' => e = .returned (.tuple #[rowV A ws i n, .int .i64 (rowE ws i n)]) ∧ Ext V w' := by
  have HP := Lib.hid h
  have hl := h.len
  by_cases h1 : n < 0
  · have d1 : decide (n < 0) = true := by simpa using h1
    have HR : Hid (rowE ws i n = 1) := Lib.hid (by simp [rowE, h1])
    clear h hi hn h1 hl
    go_enter Try.func158, Try.ntmps158
    go_wp2_with fail
    refine (adead_any _ _ V HP.out.p).mono ?_
    rintro e w1 ⟨rfl, hx⟩
    go_wp2_with fail
    go_ret2
    exact ⟨by rw [rowV_bad HR.out (by decide), HR.out]; rfl, hx⟩
  have d1 : decide (n < 0) = false := by simpa using h1
  by_cases h2 : i < 0
  · have d2 : decide (i < 0) = true := by simpa using h2
    have HR : Hid (rowE ws i n = 2) := Lib.hid (by simp [rowE, h1, h2])
    clear h hi hn h1 h2 hl
    go_enter Try.func158, Try.ntmps158
    go_wp2_with fail
    refine (adead_any _ _ V HP.out.p).mono ?_
    rintro e w1 ⟨rfl, hx⟩
    go_wp2_with fail
    go_ret2
    exact ⟨by rw [rowV_bad HR.out (by decide), HR.out]; rfl, hx⟩
  have d2 : decide (i < 0) = false := by simpa using h2
  by_cases h3 : (ws.length : Int) < i
  · have d3 : decide ((ws.length : Int) < i) = true := by simpa using h3
    have HR : Hid (rowE ws i n = 2) := Lib.hid (by simp [rowE, h1, h2, h3])
    clear h hi hn h1 h2 h3 hl
    go_enter Try.func158, Try.ntmps158
    go_wp2_with fail
    refine (adead_any _ _ V HP.out.p).mono ?_
    rintro e w1 ⟨rfl, hx⟩
    have c1 : w1.cell? ⟨b, 1, none⟩ = some (.slice A ws.length cap) := hx.cell (by simp [World.cell?, HP.out.blk])
    go_wp2_with fail
    go_ret2
    exact ⟨by rw [rowV_bad HR.out (by decide), HR.out]; rfl, hx⟩
  have d3 : decide ((ws.length : Int) < i) = false := by simpa using h3
  have hw : wrap64 ((ws.length : Int) - i) = (ws.length : Int) - i := IntWalk.wrap64_in _ ⟨by omega, by omega⟩
  by_cases h4 : (ws.length : Int) - i < n
  · have d4 : decide ((ws.length : Int) - i < n) = true := by simpa using h4
    have HR : Hid (rowE ws i n = 2) := Lib.hid (by simp [rowE, h1, h2, h3, h4])
    clear h hi hn h1 h2 h3 h4 hl
    go_enter Try.func158, Try.ntmps158
    go_wp2_with fail
    refine (adead_any _ _ V HP.out.p).mono ?_
    rintro e w1 ⟨rfl, hx⟩
    have c1 : w1.cell? ⟨b, 1, none⟩ = some (.slice A ws.length cap) := hx.cell (by simp [World.cell?, HP.out.blk])
    go_wp2_with fail
    go_ret2
    exact ⟨by rw [rowV_bad HR.out (by decide), HR.out]; rfl, hx⟩
  have d4 : decide ((ws.length : Int) - i < n) = false := by simpa using h4
  have HR : Hid (rowE ws i n = 0) := Lib.hid (by simp [rowE, h1, h2, h3, h4])
  obtain ⟨k, rfl⟩ := Int.eq_ofNat_of_zero_le (show 0 ≤ i by omega)
  obtain ⟨m, rfl⟩ := Int.eq_ofNat_of_zero_le (show 0 ≤ n by omega)
  obtain ⟨hrow, hcn, hcap⟩ := own_row h.own u64Cells (by decide)
  have hkm : k + m ≤ ws.length := by omega
  have hw2 : wrap64 ((k : Int) + (m : Int)) = ((k + m : Nat) : Int) := by rw [IntWalk.wrap64_in _ ⟨by omega, by omega⟩]; omega
  have HV := Lib.hid (rowV_ok (A := A) HR.out)
  clear h hi hn h1 h2 h3 h4
  by_cases hm : m = 0
  · subst hm
    have hw3 : wrap64 (k : Int) = (k : Int) := IntWalk.wrap64_in _ ⟨by omega, by omega⟩
    go_enter Try.func158, Try.ntmps158
    go_wp2_with fail
    refine (adead_any _ _ V HP.out.p).mono ?_
    rintro e w1 ⟨rfl, hx⟩
    have c1 : w1.cell? ⟨b, 1, none⟩ = some (.slice A ws.length cap) := hx.cell (by simp [World.cell?, HP.out.blk])
    go_wp2_with fail
    go_ret2
    exact ⟨by rw [HV.out, HR.out]; rfl, hx⟩
  · go_enter Try.func158, Try.ntmps158
    go_wp2_with fail
    refine (adead_any _ _ V HP.out.p).mono ?_
    rintro e w1 ⟨rfl, hx⟩
    have c1 : w1.cell? ⟨b, 1, none⟩ = some (.slice A ws.length cap) := hx.cell (by simp [World.cell?, HP.out.blk])
    go_wp2_with fail
    go_ret2
    exact ⟨by rw [HV.out, HR.out, rowA, if_neg hm]; simp only [Nat.add_sub_cancel_left]; rfl, hx⟩
end Go.Proofs.Ytkcpfimhbogdcaa
