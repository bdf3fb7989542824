/- The walks of the package policy and of its reference: Order, Block, Text, first. -/
import Derived.Test.YtidfibheehcdgaaDoorValC
set_option linter.unusedSimpArgs false
set_option linter.unusedVariables false
namespace Go.Proofs.YtidfibheehcdgaaDoor
open Go.RowKit

def blkN (p : Nat) : Nat := 4 * 2 ^ (p / 3 % 6)
theorem blk_bd (p : Nat) : 4 ≤ blkN p ∧ blkN p ≤ 128 := by
  have h : p / 3 % 6 < 6 := Nat.mod_lt _ (by omega)
  unfold blkN
  generalize p / 3 % 6 = d at *
  have : d = 0 ∨ d = 1 ∨ d = 2 ∨ d = 3 ∨ d = 4 ∨ d = 5 := by omega
  rcases this with rfl | rfl | rfl | rfl | rfl | rfl <;> decide
def tiersL : List UInt8 := [116, 105, 101, 114, 115, 32]
/-- A policy in words. -/
def polL (p : Nat) : List UInt8 := if p % 3 = 0 then [98, 114, 101, 97, 100, 116, 104] else if p % 3 = 1 then [100, 101, 112, 116, 104] else tiersL ++ Lib.itoa (blkN p)

set_option maxHeartbeats 400000 in
theorem order_any (p : Nat) (hp : p < 256) (w : World) :
    Calls Tryd.prog 14 #[.int .u8 p] w fun e w' => e = .returned (.int .i64 (p % 3 : Nat)) ∧ w = w' := by
  go_enter Tryd.func14, Tryd.ntmps14
  go_wp2
  go_ret
  exact ⟨ret_int (by omega), rfl⟩
set_option maxHeartbeats 400000 in
theorem reforder_any (p : Nat) (hp : p < 256) (w : World) :
    Calls Tryd.prog 15 #[.int .i64 p] w fun e w' => e = .returned (.int .i64 (p % 3 : Nat)) ∧ w = w' := by
  go_enter Tryd.func15, Tryd.ntmps15
  go_wp2
  go_ret
  exact ⟨ret_int (by omega), rfl⟩
set_option maxHeartbeats 400000 in
theorem block_any (p : Nat) (hp : p < 256) (w : World) :
    Calls Tryd.prog 16 #[.int .u8 p] w fun e w' => e = .returned (.int .i64 (blkN p : Nat)) ∧ w = w' := by
  go_enter Tryd.func16, Tryd.ntmps16
  go_wp2
  go_ret
  have hb := blk_bd p
  refine ⟨ret_int ?_, rfl⟩
  have e : (4 * 2 ^ (p / 3 % 6) : Int) = ((blkN p : Nat) : Int) := by unfold blkN; push_cast; rfl
  rw [e]
  exact IntWalk.wrap64_in _ ⟨by omega, by omega⟩
set_option maxHeartbeats 400000 in
theorem refblock_any (p : Nat) (hp : p < 256) (w : World) :
    Calls Tryd.prog 17 #[.int .i64 p] w fun e w' => e = .returned (.int .i64 (blkN p : Nat)) ∧ w = w' := by
  go_enter Tryd.func17, Tryd.ntmps17
  go_wp2
  go_loop [3, 4] (fun b i => ∃ k : Nat, k ≤ p / 3 % 6 ∧ i = .int .i64 k ∧ b = .int .i64 (4 * 2 ^ k : Nat)) (fun _ i => 6 - (intOf i).toNat)
  case atStart => exact ⟨0, Nat.zero_le _, rfl, rfl⟩
  case round =>
    obtain ⟨k, hk, rfl, rfl⟩ := hrel
    have h6 : p / 3 % 6 < 6 := Nat.mod_lt _ (by omega)
    have hb : 4 * 2 ^ k ≤ 4 * 2 ^ 6 := Nat.mul_le_mul_left _ (Nat.pow_le_pow_right (by omega) (by omega))
    have HS : Hid (((4 * 2 ^ k : Nat) : Int) * 2 = ((4 * 2 ^ (k + 1) : Nat) : Int)) := Lib.hid (by rw [Nat.pow_succ]; omega)
    have HB : Hid (k = p / 3 % 6 → 4 * 2 ^ k = blkN p) := Lib.hid (fun h => by rw [h]; rfl)
    generalize 4 * 2 ^ k = b at *
    by_cases hlt : k < p / 3 % 6
    · have hd : decide ((k : Int) < (p : Int) / 3 % 6) = true := by simp; omega
      go_wp2
      go_round
      case rel => exact ⟨k + 1, by omega, by go_num, by rw [HS.out]⟩
      case measure => simp [intOf]; omega
    · have hd : decide ((k : Int) < (p : Int) / 3 % 6) = false := by simp; omega
      have h1 := HB.out (by omega)
      have H1 := Lib.hid h1
      clear h1
      go_wp2
      go_ret
      exact ⟨ret_int (by rw [H1.out]), rfl⟩

theorem order_is (p : Nat) (z : Int) (hp : p < 256) (hz : ((p % 3 : Nat) : Int) = z) (w : World) :
    Calls Tryd.prog 14 #[.int .u8 p] w fun e w' => e = .returned (.int .i64 z) ∧ w = w' := by subst hz; exact order_any p hp w
theorem reforder_is (p : Nat) (z : Int) (hp : p < 256) (hz : ((p % 3 : Nat) : Int) = z) (w : World) :
    Calls Tryd.prog 15 #[.int .i64 p] w fun e w' => e = .returned (.int .i64 z) ∧ w = w' := by subst hz; exact reforder_any p hp w
theorem block_is (p : Nat) (z : Int) (hp : p < 256) (hz : ((blkN p : Nat) : Int) = z) (w : World) :
    Calls Tryd.prog 16 #[.int .u8 p] w fun e w' => e = .returned (.int .i64 z) ∧ w = w' := by subst hz; exact block_any p hp w
theorem refblock_is (p : Nat) (z : Int) (hp : p < 256) (hz : ((blkN p : Nat) : Int) = z) (w : World) :
    Calls Tryd.prog 17 #[.int .i64 p] w fun e w' => e = .returned (.int .i64 z) ∧ w = w' := by subst hz; exact refblock_any p hp w

set_option maxRecDepth 100000 in
set_option maxHeartbeats 1000000 in
theorem poltext_any (p : Nat) (hp : p < 256) (w : World) (ht : TabP w) :
    Calls Tryd.prog 18 #[.int .u8 p] w fun e w' => e = .returned (.string ⟨(polL p).toArray⟩) ∧ Ext w w' := by
  have HT := Lib.hid ht
  clear ht
  have h3 : p % 3 = 0 ∨ p % 3 = 1 ∨ p % 3 = 2 := by omega
  rcases h3 with h3 | h3 | h3
  · have HP := Lib.hid (show polL p = [98, 114, 101, 97, 100, 116, 104] by simp [polL, h3])
    have H3 := Lib.hid h3
    clear h3
    go_enter Tryd.func18, Tryd.ntmps18
    go_wp2_with fail
    refine (order_is p 0 hp (by have := H3.out; omega) w).mono ?_
    rintro e w' ⟨rfl, rfl⟩
    go_wp2_with fail
    go_ret
    exact ⟨(by rw [HP.out] : Ending.returned (.string ⟨#[98, 114, 101, 97, 100, 116, 104]⟩) = .returned (.string ⟨(polL p).toArray⟩)), Ext.refl _⟩
  · have HP := Lib.hid (show polL p = [100, 101, 112, 116, 104] by simp [polL, h3])
    have H3 := Lib.hid h3
    clear h3
    go_enter Tryd.func18, Tryd.ntmps18
    go_wp2_with fail
    refine (order_is p 1 hp (by have := H3.out; omega) w).mono ?_
    rintro e w' ⟨rfl, rfl⟩
    go_wp2_with fail
    go_ret
    exact ⟨(by rw [HP.out] : Ending.returned (.string ⟨#[100, 101, 112, 116, 104]⟩) = .returned (.string ⟨(polL p).toArray⟩)), Ext.refl _⟩
  · have HP := Lib.hid (show polL p = tiersL ++ Lib.itoa (blkN p) by simp [polL, h3])
    have H3 := Lib.hid h3
    have hb := blk_bd p
    clear h3
    go_enter Tryd.func18, Tryd.ntmps18
    go_wp2_with fail
    refine (order_is p 2 hp (by have := H3.out; omega) w).mono ?_
    rintro e w' ⟨rfl, rfl⟩
    go_wp2_with fail
    refine (block_any p hp w).mono ?_
    rintro e w' ⟨rfl, rfl⟩
    go_wp2_with fail
    refine (Tryd.strconv_Itoa (blkN p) (by omega) (by omega) w HT.out).mono ?_
    rintro e w' ⟨rfl, n, os, rfl⟩
    have hl := Lib.itoa_length_le (blkN p : Nat) (by omega) (by omega)
    have hx : Ext w (Sort.grow (w.drewN n) os) := below_grown n os
    generalize Sort.grow (w.drewN n) os = W3 at *
    generalize Lib.itoa (blkN p : Nat) = l at *
    go_wp2_with fail
    go_ret
    exact ⟨(by rw [HP.out, cat_list]; simp [tiersL] : Ending.returned (.string ((ByteArray.mk #[116, 105, 101, 114, 115, 32]) ++ (ByteArray.mk l.toArray))) = .returned (.string ⟨(polL p).toArray⟩)), hx⟩

theorem blk_cases (p : Nat) : (p / 3 % 6 = 0 ∧ blkN p = 4) ∨ (p / 3 % 6 = 1 ∧ blkN p = 8) ∨ (p / 3 % 6 = 2 ∧ blkN p = 16) ∨ (p / 3 % 6 = 3 ∧ blkN p = 32) ∨ (p / 3 % 6 = 4 ∧ blkN p = 64) ∨ (p / 3 % 6 = 5 ∧ blkN p = 128) := by
  have h : p / 3 % 6 < 6 := Nat.mod_lt _ (by omega)
  unfold blkN
  generalize p / 3 % 6 = d at *
  have : d = 0 ∨ d = 1 ∨ d = 2 ∨ d = 3 ∨ d = 4 ∨ d = 5 := by omega
  rcases this with rfl | rfl | rfl | rfl | rfl | rfl <;> simp
theorem itoa_4 : Lib.itoa (4 : Nat) = [52] := by rw [Lib.itoa_nonneg, Lib.decDigits_one (by omega)]; rfl
theorem itoa_8 : Lib.itoa (8 : Nat) = [56] := by rw [Lib.itoa_nonneg, Lib.decDigits_one (by omega)]; rfl
theorem itoa_16 : Lib.itoa (16 : Nat) = [49, 54] := by rw [Lib.itoa_nonneg, Lib.decDigits_two (by omega) (by omega)]; rfl
theorem itoa_32 : Lib.itoa (32 : Nat) = [51, 50] := by rw [Lib.itoa_nonneg, Lib.decDigits_two (by omega) (by omega)]; rfl
theorem itoa_64 : Lib.itoa (64 : Nat) = [54, 52] := by rw [Lib.itoa_nonneg, Lib.decDigits_two (by omega) (by omega)]; rfl
theorem itoa_128 : Lib.itoa (128 : Nat) = [49, 50, 56] := by rw [Lib.itoa_nonneg, Lib.decDigits, dif_neg (by omega), Lib.decDigits_two (i := 128 / 10) (by omega) (by omega)]; rfl

set_option maxRecDepth 100000 in
set_option maxHeartbeats 1000000 in
theorem refpoltext_any (p : Nat) (hp : p < 256) (w : World) :
    Calls Tryd.prog 19 #[.int .i64 p] w fun e w' => e = .returned (.string ⟨(polL p).toArray⟩) ∧ w = w' := by
  have h3 : p % 3 = 0 ∨ p % 3 = 1 ∨ p % 3 = 2 := by omega
  rcases h3 with h3 | h3 | h3
  · have HP := Lib.hid (show polL p = [98, 114, 101, 97, 100, 116, 104] by simp [polL, h3])
    have H3 := Lib.hid h3
    clear h3
    go_enter Tryd.func19, Tryd.ntmps19
    go_wp2_with fail
    refine (reforder_is p 0 hp (by have := H3.out; omega) w).mono ?_
    rintro e w' ⟨rfl, rfl⟩
    go_wp2_with fail
    go_ret
    exact ⟨(by rw [HP.out] : Ending.returned (.string ⟨#[98, 114, 101, 97, 100, 116, 104]⟩) = .returned (.string ⟨(polL p).toArray⟩)), rfl⟩
  · have HP := Lib.hid (show polL p = [100, 101, 112, 116, 104] by simp [polL, h3])
    have H3 := Lib.hid h3
    clear h3
    go_enter Tryd.func19, Tryd.ntmps19
    go_wp2_with fail
    refine (reforder_is p 1 hp (by have := H3.out; omega) w).mono ?_
    rintro e w' ⟨rfl, rfl⟩
    go_wp2_with fail
    refine (reforder_is p 1 hp (by have := H3.out; omega) w).mono ?_
    rintro e w' ⟨rfl, rfl⟩
    go_wp2_with fail
    go_ret
    exact ⟨(by rw [HP.out] : Ending.returned (.string ⟨#[100, 101, 112, 116, 104]⟩) = .returned (.string ⟨(polL p).toArray⟩)), rfl⟩
  · have HP := Lib.hid (show polL p = tiersL ++ Lib.itoa (blkN p) by simp [polL, h3])
    have H3 := Lib.hid h3
    clear h3
    rcases blk_cases p with ⟨_, hb⟩ | ⟨_, hb⟩ | ⟨_, hb⟩ | ⟨_, hb⟩ | ⟨_, hb⟩ | ⟨_, hb⟩
    all_goals
      have HB := Lib.hid hb
      have hp2 := HP.out
      rw [hb] at hp2
      first | rw [itoa_4] at hp2 | rw [itoa_8] at hp2 | rw [itoa_16] at hp2 | rw [itoa_32] at hp2 | rw [itoa_64] at hp2 | rw [itoa_128] at hp2
      have HP2 := Lib.hid hp2
      clear hb hp2
      go_enter Tryd.func19, Tryd.ntmps19
      go_wp2_with fail
      refine (reforder_is p 2 hp (by have := H3.out; omega) w).mono ?_
      rintro e w' ⟨rfl, rfl⟩
      go_wp2_with fail
      refine (reforder_is p 2 hp (by have := H3.out; omega) w).mono ?_
      rintro e w' ⟨rfl, rfl⟩
      go_wp2_with fail
      refine (refblock_is p _ hp (by rw [HB.out]) w).mono ?_
      rintro e w' ⟨rfl, rfl⟩
      go_wp2_with fail
      go_ret
      exact ⟨congrArg (fun l : List UInt8 => Ending.returned (.string ⟨l.toArray⟩)) HP2.out.symm, rfl⟩
end Go.Proofs.YtidfibheehcdgaaDoor
