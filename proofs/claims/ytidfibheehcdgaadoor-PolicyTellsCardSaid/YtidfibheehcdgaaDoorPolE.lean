/- The law PolicyBack. -/
import Derived.Test.YtidfibheehcdgaaDoorPolD
set_option linter.unusedSimpArgs false
set_option linter.unusedVariables false
namespace Go.Proofs.YtidfibheehcdgaaDoor
open Go.RowKit

theorem back_fin : ∀ p, p < 18 → (fstN (fun i => polT i == polT p) 18).isSome = true ∧ (fstN (ofPol ((p % 3 : Nat) : Int) ((blkN p : Nat) : Int)) 18).isSome = true ∧
    fstP (fstN (fun i => polT i == polT p) 18) ≤ fstP (fstN (ofPol ((p % 3 : Nat) : Int) ((blkN p : Nat) : Int)) 18) ∧ fstP (fstN (ofPol ((p % 3 : Nat) : Int) ((blkN p : Nat) : Int)) 18) ≤ p ∧
    polT (fstP (fstN (fun i => polT i == polT p) 18)) = polT p ∧ polT (fstP (fstN (ofPol ((p % 3 : Nat) : Int) ((blkN p : Nat) : Int)) 18)) = polT p := by decide +kernel
theorem same_fin : ∀ p, p < 18 → ∀ q, q < 18 → (polT p == polT q) = (((p % 3 : Nat) : Int) == ((q % 3 : Nat) : Int) && (((p % 3 : Nat) : Int) != 2 || ((blkN p : Nat) : Int) == ((blkN q : Nat) : Int))) := by decide +kernel

set_option maxRecDepth 100000 in
set_option maxHeartbeats 8000000 in
theorem policyBack_any (p q : Nat) (hp : p < 256) (hq : q < 256) (w : World) (ht : TabP w) :
    Calls Tryd.prog 4 #[.int .u8 p, .int .u8 q] w fun e w' => e = .returned (.bool true) ∧ Ext w w' := by
  have HT := Lib.hid ht
  clear ht
  obtain ⟨g1, g2, g3, g4, g5, g6⟩ := back_fin (p % 18) (Nat.mod_lt _ (by omega))
  have gs := same_fin (p % 18) (Nat.mod_lt _ (by omega)) (q % 18) (Nat.mod_lt _ (by omega))
  rw [← polT_mod] at g1 g3 g5 g6
  rw [← blk_mod, show p % 18 % 3 = p % 3 by omega] at g2 g3 g4 g6
  rw [← polT_mod, ← polT_mod, ← blk_mod, ← blk_mod, show p % 18 % 3 = p % 3 by omega, show q % 18 % 3 = q % 3 by omega] at gs
  obtain ⟨l, hl⟩ : ∃ l, polT p = l := ⟨_, rfl⟩
  obtain ⟨m, hm⟩ : ∃ m, polT q = m := ⟨_, rfl⟩
  obtain ⟨o, ho⟩ : ∃ z : Int, ((p % 3 : Nat) : Int) = z := ⟨_, rfl⟩
  obtain ⟨o2, ho2⟩ : ∃ z : Int, ((q % 3 : Nat) : Int) = z := ⟨_, rfl⟩
  obtain ⟨b, hb⟩ : ∃ z : Int, ((blkN p : Nat) : Int) = z := ⟨_, rfl⟩
  obtain ⟨b2, hb2⟩ : ∃ z : Int, ((blkN q : Nat) : Int) = z := ⟨_, rfl⟩
  rw [hl] at g1 g3 g5 g6
  rw [ho, hb] at g2 g3 g4 g6
  rw [hl, hm, ho, ho2, hb, hb2] at gs
  have hr : (fun i => polT i == l) = readP ⟨l.toArray⟩ := (funext fun i => readP_of l i).symm
  rw [hr] at g1 g3 g5
  obtain ⟨r1, h1⟩ : ∃ r, fstN (readP ⟨l.toArray⟩) 18 = r := ⟨_, rfl⟩
  obtain ⟨r2, h2⟩ : ∃ r, fstN (ofPol o b) 18 = r := ⟨_, rfl⟩
  rw [h1] at g1 g3 g5
  rw [h2] at g2 g3 g4 g6
  obtain ⟨x1, hx1⟩ : ∃ x, fstP r1 = x := ⟨_, rfl⟩
  obtain ⟨x2, hx2⟩ : ∃ x, fstP r2 = x := ⟨_, rfl⟩
  rw [hx1] at g3 g5
  rw [hx2] at g3 g4 g6
  have hle : p % 18 ≤ p := Nat.mod_le _ _
  have i1 : x1 ≤ x2 := g3
  have i2 : x2 ≤ p := by omega
  have i3 : x1 < 256 := by omega
  have i4 : x2 < 256 := by omega
  have H1 := Lib.hid h1
  have H2 := Lib.hid h2
  have HX1 := Lib.hid hx1
  have HX2 := Lib.hid hx2
  have HL := Lib.hid ((polL_T p).trans hl)
  have HM := Lib.hid ((polL_T q).trans hm)
  have HL1 := Lib.hid ((polL_T x1).trans g5)
  have HL2 := Lib.hid ((polL_T x2).trans g6)
  have HO := Lib.hid ho
  have HO2 := Lib.hid ho2
  have HB := Lib.hid hb
  have HB2 := Lib.hid hb2
  have HE := Lib.hid (show errR r1 = 0 by unfold errR; rw [g1]; rfl)
  have HF := Lib.hid (show fstB r2 = true from g2)
  have e1 : decide ((x1 : Int) ≤ (x2 : Int)) = true := by simp; omega
  have e2 : decide ((x2 : Int) ≤ (p : Int)) = true := by simp; omega
  have GS := Lib.hid gs
  clear h1 h2 hx1 hx2 hl hm g1 g2 g3 g4 g5 g6 ho ho2 hb hb2 hr gs hle
  cases t1 : o == o2
  all_goals cases t2 : o != 2
  all_goals cases t3 : b == b2
  all_goals
    have t4 := GS.out
    rw [t1, t2, t3] at t4
    simp only [Bool.false_and, Bool.true_and, Bool.or_false, Bool.or_true, Bool.and_false, Bool.and_true, Bool.false_or, Bool.true_or] at t4
    go_enter Tryd.func4, Tryd.ntmps4
    go_wp2_with fail
    refine (poltext_is p l hp HL.out _ HT.out).mono ?_
    rintro e W1 ⟨rfl, hX⟩
    go_wp2_with fail
    refine (polread_any ⟨l.toArray⟩ x1 0 (by rw [H1.out, HX1.out]) (by rw [H1.out, HE.out]) _ (HT.out.ext hX)).mono ?_
    rintro e W2 ⟨rfl, hx⟩
    replace hX := hX.trans hx
    clear hx
    go_wp2_with fail
    refine (order_is p o hp HO.out _).mono ?_
    rintro e w' ⟨rfl, rfl⟩
    go_wp2_with fail
    refine (block_is p b hp HB.out _).mono ?_
    rintro e w' ⟨rfl, rfl⟩
    go_wp2_with fail
    refine (polof_any o b x2 true (by rw [H2.out, HX2.out]) (by rw [H2.out, HF.out]) _).mono ?_
    rintro e W3 ⟨rfl, hx⟩
    replace hX := hX.trans hx
    clear hx
    go_wp2_with fail
    refine (order_is p o hp HO.out _).mono ?_
    rintro e w' ⟨rfl, rfl⟩
    go_wp2_with fail
    refine (order_is q o2 hq HO2.out _).mono ?_
    rintro e w' ⟨rfl, rfl⟩
  · go_wp2_with fail
    refine (poltext_is x1 l i3 HL1.out _ (HT.out.ext hX)).mono ?_
    rintro e W4 ⟨rfl, hx⟩
    replace hX := hX.trans hx
    clear hx
    go_wp2_with fail
    refine (poltext_is p l hp HL.out _ (HT.out.ext hX)).mono ?_
    rintro e W4 ⟨rfl, hx⟩
    replace hX := hX.trans hx
    clear hx
    go_wp2_with fail
    refine (poltext_is x2 l i4 HL2.out _ (HT.out.ext hX)).mono ?_
    rintro e W4 ⟨rfl, hx⟩
    replace hX := hX.trans hx
    clear hx
    go_wp2_with fail
    refine (poltext_is p l hp HL.out _ (HT.out.ext hX)).mono ?_
    rintro e W4 ⟨rfl, hx⟩
    replace hX := hX.trans hx
    clear hx
    go_wp2_with fail
    refine (poltext_is p l hp HL.out _ (HT.out.ext hX)).mono ?_
    rintro e W4 ⟨rfl, hx⟩
    replace hX := hX.trans hx
    clear hx
    go_wp2_with fail
    refine (poltext_is q m hq HM.out _ (HT.out.ext hX)).mono ?_
    rintro e W4 ⟨rfl, hx⟩
    replace hX := hX.trans hx
    clear hx
    go_wp2_with fail
    refine (awake26_any _ (HT.out.ext hX)).mono ?_
    rintro e W6 ⟨rfl, hx⟩
    replace hX := hX.trans hx
    go_wp2_with fail
    go_ret
    exact ⟨rfl, hX⟩
  · go_wp2_with fail
    refine (poltext_is x1 l i3 HL1.out _ (HT.out.ext hX)).mono ?_
    rintro e W4 ⟨rfl, hx⟩
    replace hX := hX.trans hx
    clear hx
    go_wp2_with fail
    refine (poltext_is p l hp HL.out _ (HT.out.ext hX)).mono ?_
    rintro e W4 ⟨rfl, hx⟩
    replace hX := hX.trans hx
    clear hx
    go_wp2_with fail
    refine (poltext_is x2 l i4 HL2.out _ (HT.out.ext hX)).mono ?_
    rintro e W4 ⟨rfl, hx⟩
    replace hX := hX.trans hx
    clear hx
    go_wp2_with fail
    refine (poltext_is p l hp HL.out _ (HT.out.ext hX)).mono ?_
    rintro e W4 ⟨rfl, hx⟩
    replace hX := hX.trans hx
    clear hx
    go_wp2_with fail
    refine (poltext_is p l hp HL.out _ (HT.out.ext hX)).mono ?_
    rintro e W4 ⟨rfl, hx⟩
    replace hX := hX.trans hx
    clear hx
    go_wp2_with fail
    refine (poltext_is q m hq HM.out _ (HT.out.ext hX)).mono ?_
    rintro e W4 ⟨rfl, hx⟩
    replace hX := hX.trans hx
    clear hx
    go_wp2_with fail
    refine (awake26_any _ (HT.out.ext hX)).mono ?_
    rintro e W6 ⟨rfl, hx⟩
    replace hX := hX.trans hx
    go_wp2_with fail
    go_ret
    exact ⟨rfl, hX⟩
  · go_wp2_with fail
    refine (poltext_is x1 l i3 HL1.out _ (HT.out.ext hX)).mono ?_
    rintro e W4 ⟨rfl, hx⟩
    replace hX := hX.trans hx
    clear hx
    go_wp2_with fail
    refine (poltext_is p l hp HL.out _ (HT.out.ext hX)).mono ?_
    rintro e W4 ⟨rfl, hx⟩
    replace hX := hX.trans hx
    clear hx
    go_wp2_with fail
    refine (poltext_is x2 l i4 HL2.out _ (HT.out.ext hX)).mono ?_
    rintro e W4 ⟨rfl, hx⟩
    replace hX := hX.trans hx
    clear hx
    go_wp2_with fail
    refine (poltext_is p l hp HL.out _ (HT.out.ext hX)).mono ?_
    rintro e W4 ⟨rfl, hx⟩
    replace hX := hX.trans hx
    clear hx
    go_wp2_with fail
    refine (poltext_is p l hp HL.out _ (HT.out.ext hX)).mono ?_
    rintro e W4 ⟨rfl, hx⟩
    replace hX := hX.trans hx
    clear hx
    go_wp2_with fail
    refine (poltext_is q m hq HM.out _ (HT.out.ext hX)).mono ?_
    rintro e W4 ⟨rfl, hx⟩
    replace hX := hX.trans hx
    clear hx
    go_wp2_with fail
    refine (awake26_any _ (HT.out.ext hX)).mono ?_
    rintro e W6 ⟨rfl, hx⟩
    replace hX := hX.trans hx
    go_wp2_with fail
    go_ret
    exact ⟨rfl, hX⟩
  · go_wp2_with fail
    refine (poltext_is x1 l i3 HL1.out _ (HT.out.ext hX)).mono ?_
    rintro e W4 ⟨rfl, hx⟩
    replace hX := hX.trans hx
    clear hx
    go_wp2_with fail
    refine (poltext_is p l hp HL.out _ (HT.out.ext hX)).mono ?_
    rintro e W4 ⟨rfl, hx⟩
    replace hX := hX.trans hx
    clear hx
    go_wp2_with fail
    refine (poltext_is x2 l i4 HL2.out _ (HT.out.ext hX)).mono ?_
    rintro e W4 ⟨rfl, hx⟩
    replace hX := hX.trans hx
    clear hx
    go_wp2_with fail
    refine (poltext_is p l hp HL.out _ (HT.out.ext hX)).mono ?_
    rintro e W4 ⟨rfl, hx⟩
    replace hX := hX.trans hx
    clear hx
    go_wp2_with fail
    refine (poltext_is p l hp HL.out _ (HT.out.ext hX)).mono ?_
    rintro e W4 ⟨rfl, hx⟩
    replace hX := hX.trans hx
    clear hx
    go_wp2_with fail
    refine (poltext_is q m hq HM.out _ (HT.out.ext hX)).mono ?_
    rintro e W4 ⟨rfl, hx⟩
    replace hX := hX.trans hx
    clear hx
    go_wp2_with fail
    refine (awake26_any _ (HT.out.ext hX)).mono ?_
    rintro e W6 ⟨rfl, hx⟩
    replace hX := hX.trans hx
    go_wp2_with fail
    go_ret
    exact ⟨rfl, hX⟩
  · go_wp2_with fail
    refine (order_is p o hp HO.out _).mono ?_
    rintro e w' ⟨rfl, rfl⟩
    go_wp2_with fail
    refine (block_is p b hp HB.out _).mono ?_
    rintro e w' ⟨rfl, rfl⟩
    go_wp2_with fail
    refine (block_is q b2 hq HB2.out _).mono ?_
    rintro e w' ⟨rfl, rfl⟩
    go_wp2_with fail
    refine (poltext_is x1 l i3 HL1.out _ (HT.out.ext hX)).mono ?_
    rintro e W4 ⟨rfl, hx⟩
    replace hX := hX.trans hx
    clear hx
    go_wp2_with fail
    refine (poltext_is p l hp HL.out _ (HT.out.ext hX)).mono ?_
    rintro e W4 ⟨rfl, hx⟩
    replace hX := hX.trans hx
    clear hx
    go_wp2_with fail
    refine (poltext_is x2 l i4 HL2.out _ (HT.out.ext hX)).mono ?_
    rintro e W4 ⟨rfl, hx⟩
    replace hX := hX.trans hx
    clear hx
    go_wp2_with fail
    refine (poltext_is p l hp HL.out _ (HT.out.ext hX)).mono ?_
    rintro e W4 ⟨rfl, hx⟩
    replace hX := hX.trans hx
    clear hx
    go_wp2_with fail
    refine (poltext_is p l hp HL.out _ (HT.out.ext hX)).mono ?_
    rintro e W4 ⟨rfl, hx⟩
    replace hX := hX.trans hx
    clear hx
    go_wp2_with fail
    refine (poltext_is q m hq HM.out _ (HT.out.ext hX)).mono ?_
    rintro e W4 ⟨rfl, hx⟩
    replace hX := hX.trans hx
    clear hx
    go_wp2_with fail
    refine (awake26_any _ (HT.out.ext hX)).mono ?_
    rintro e W6 ⟨rfl, hx⟩
    replace hX := hX.trans hx
    go_wp2_with fail
    go_ret
    exact ⟨rfl, hX⟩
  · go_wp2_with fail
    refine (order_is p o hp HO.out _).mono ?_
    rintro e w' ⟨rfl, rfl⟩
    go_wp2_with fail
    refine (block_is p b hp HB.out _).mono ?_
    rintro e w' ⟨rfl, rfl⟩
    go_wp2_with fail
    refine (block_is q b2 hq HB2.out _).mono ?_
    rintro e w' ⟨rfl, rfl⟩
    go_wp2_with fail
    refine (poltext_is x1 l i3 HL1.out _ (HT.out.ext hX)).mono ?_
    rintro e W4 ⟨rfl, hx⟩
    replace hX := hX.trans hx
    clear hx
    go_wp2_with fail
    refine (poltext_is p l hp HL.out _ (HT.out.ext hX)).mono ?_
    rintro e W4 ⟨rfl, hx⟩
    replace hX := hX.trans hx
    clear hx
    go_wp2_with fail
    refine (poltext_is x2 l i4 HL2.out _ (HT.out.ext hX)).mono ?_
    rintro e W4 ⟨rfl, hx⟩
    replace hX := hX.trans hx
    clear hx
    go_wp2_with fail
    refine (poltext_is p l hp HL.out _ (HT.out.ext hX)).mono ?_
    rintro e W4 ⟨rfl, hx⟩
    replace hX := hX.trans hx
    clear hx
    go_wp2_with fail
    refine (poltext_is p l hp HL.out _ (HT.out.ext hX)).mono ?_
    rintro e W4 ⟨rfl, hx⟩
    replace hX := hX.trans hx
    clear hx
    go_wp2_with fail
    refine (poltext_is q m hq HM.out _ (HT.out.ext hX)).mono ?_
    rintro e W4 ⟨rfl, hx⟩
    replace hX := hX.trans hx
    clear hx
    go_wp2_with fail
    refine (awake26_any _ (HT.out.ext hX)).mono ?_
    rintro e W6 ⟨rfl, hx⟩
    replace hX := hX.trans hx
    go_wp2_with fail
    go_ret
    exact ⟨rfl, hX⟩
  · go_wp2_with fail
    refine (order_is p o hp HO.out _).mono ?_
    rintro e w' ⟨rfl, rfl⟩
    go_wp2_with fail
    refine (poltext_is x1 l i3 HL1.out _ (HT.out.ext hX)).mono ?_
    rintro e W4 ⟨rfl, hx⟩
    replace hX := hX.trans hx
    clear hx
    go_wp2_with fail
    refine (poltext_is p l hp HL.out _ (HT.out.ext hX)).mono ?_
    rintro e W4 ⟨rfl, hx⟩
    replace hX := hX.trans hx
    clear hx
    go_wp2_with fail
    refine (poltext_is x2 l i4 HL2.out _ (HT.out.ext hX)).mono ?_
    rintro e W4 ⟨rfl, hx⟩
    replace hX := hX.trans hx
    clear hx
    go_wp2_with fail
    refine (poltext_is p l hp HL.out _ (HT.out.ext hX)).mono ?_
    rintro e W4 ⟨rfl, hx⟩
    replace hX := hX.trans hx
    clear hx
    go_wp2_with fail
    refine (poltext_is p l hp HL.out _ (HT.out.ext hX)).mono ?_
    rintro e W4 ⟨rfl, hx⟩
    replace hX := hX.trans hx
    clear hx
    go_wp2_with fail
    refine (poltext_is q m hq HM.out _ (HT.out.ext hX)).mono ?_
    rintro e W4 ⟨rfl, hx⟩
    replace hX := hX.trans hx
    clear hx
    go_wp2_with fail
    refine (awake26_any _ (HT.out.ext hX)).mono ?_
    rintro e W6 ⟨rfl, hx⟩
    replace hX := hX.trans hx
    go_wp2_with fail
    go_ret
    exact ⟨rfl, hX⟩
  · go_wp2_with fail
    refine (order_is p o hp HO.out _).mono ?_
    rintro e w' ⟨rfl, rfl⟩
    go_wp2_with fail
    refine (poltext_is x1 l i3 HL1.out _ (HT.out.ext hX)).mono ?_
    rintro e W4 ⟨rfl, hx⟩
    replace hX := hX.trans hx
    clear hx
    go_wp2_with fail
    refine (poltext_is p l hp HL.out _ (HT.out.ext hX)).mono ?_
    rintro e W4 ⟨rfl, hx⟩
    replace hX := hX.trans hx
    clear hx
    go_wp2_with fail
    refine (poltext_is x2 l i4 HL2.out _ (HT.out.ext hX)).mono ?_
    rintro e W4 ⟨rfl, hx⟩
    replace hX := hX.trans hx
    clear hx
    go_wp2_with fail
    refine (poltext_is p l hp HL.out _ (HT.out.ext hX)).mono ?_
    rintro e W4 ⟨rfl, hx⟩
    replace hX := hX.trans hx
    clear hx
    go_wp2_with fail
    refine (poltext_is p l hp HL.out _ (HT.out.ext hX)).mono ?_
    rintro e W4 ⟨rfl, hx⟩
    replace hX := hX.trans hx
    clear hx
    go_wp2_with fail
    refine (poltext_is q m hq HM.out _ (HT.out.ext hX)).mono ?_
    rintro e W4 ⟨rfl, hx⟩
    replace hX := hX.trans hx
    clear hx
    go_wp2_with fail
    refine (awake26_any _ (HT.out.ext hX)).mono ?_
    rintro e W6 ⟨rfl, hx⟩
    replace hX := hX.trans hx
    go_wp2_with fail
    go_ret
    exact ⟨rfl, hX⟩
theorem u8_nat {a : Int} (h : (Lit.int .u8 a).wf = true) : ∃ p : Nat, p < 256 ∧ a = (p : Int) := by
  have h2 : 0 ≤ a ∧ a ≤ 255 := by simpa [Lit.wf, IntKind.min, IntKind.max, IntKind.signed, IntKind.bits] using h
  exact ⟨a.toNat, by omega, by omega⟩
theorem policyBack_fin {p q : Int} {w : World} (h0 : (Lit.int .u8 p).wf = true) (h1 : (Lit.int .u8 q).wf = true) (ht : TabP w) :
    Calls Tryd.prog 4 #[.int .u8 p, .int .u8 q] w fun e w' => e = .returned (.bool true) ∧ Ext w w' := by
  obtain ⟨p, hp, rfl⟩ := u8_nat h0
  obtain ⟨q, hq, rfl⟩ := u8_nat h1
  exact policyBack_any p q hp hq w ht
theorem policyTells_fin {p o b : Int} {s : ByteArray} {w : World} (h0 : (Lit.int .u8 p).wf = true) (h1 : s.size ≤ maxLen) (h2 : (Lit.int .i64 o).wf = true) (h3 : (Lit.int .i64 b).wf = true) (ht : TabP w) :
    Calls Tryd.prog 3 #[.int .u8 p, .string s, .int .i64 o, .int .i64 b] w fun e w' => e = .returned (.bool true) ∧ Ext w w' := by
  obtain ⟨p, hp, rfl⟩ := u8_nat h0
  exact policyTells_any p hp s (by unfold maxLen at h1; omega) o b w ht
end Go.Proofs.YtidfibheehcdgaaDoor
