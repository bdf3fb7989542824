/- awake of the laws of policies; the laws PolicyTells, PolicyBack. -/
import Derived.Test.YtidfibheehcdgaaDoorPolC
set_option linter.unusedSimpArgs false
set_option linter.unusedVariables false
namespace Go.Proofs.YtidfibheehcdgaaDoor
open Go.RowKit

/-- The words, reckoned. -/
def polT (p : Nat) : List UInt8 := if p % 3 = 0 then [98, 114, 101, 97, 100, 116, 104] else if p % 3 = 1 then [100, 101, 112, 116, 104] else tiersL ++ [[52], [56], [49, 54], [51, 50], [54, 52], [49, 50, 56]].getD (p / 3 % 6) []
theorem polL_T (p : Nat) : polL p = polT p := by
  unfold polL polT
  split
  · rfl
  · split
    · rfl
    · rcases blk_cases p with ⟨h, hb⟩ | ⟨h, hb⟩ | ⟨h, hb⟩ | ⟨h, hb⟩ | ⟨h, hb⟩ | ⟨h, hb⟩ <;> rw [h, hb]
      · rw [itoa_4]; rfl
      · rw [itoa_8]; rfl
      · rw [itoa_16]; rfl
      · rw [itoa_32]; rfl
      · rw [itoa_64]; rfl
      · rw [itoa_128]; rfl
theorem polT_mod (p : Nat) : polT p = polT (p % 18) := by
  unfold polT
  rw [show p % 18 % 3 = p % 3 by omega, show p % 18 / 3 % 6 = p / 3 % 6 by omega]
theorem blk_mod (p : Nat) : blkN p = blkN (p % 18) := by
  unfold blkN
  rw [show p % 18 / 3 % 6 = p / 3 % 6 by omega]
theorem readP_mod (s : ByteArray) (p : Nat) : readP s p = readP s (p % 18) := by
  unfold readP
  rw [polL_T, polL_T, ← polT_mod]
theorem ofPol_mod (o b : Int) (p : Nat) : ofPol o b p = ofPol o b (p % 18) := by
  unfold ofPol
  rw [← blk_mod, show p % 18 % 3 = p % 3 by omega]
theorem readP_of (l : List UInt8) (p : Nat) : readP ⟨l.toArray⟩ p = (polT p == l) := by
  unfold readP
  rw [ByteArray.toList_mk, polL_T]

theorem aw26_1 : fstN (ofPol 2 8) 18 = some 5 := by decide
theorem aw26_2 : fstN (ofPol 2 5) 18 = none := by decide
theorem aw26_3 : fstN (readP ⟨([116, 105, 101, 114, 115, 32, 56] : List UInt8).toArray⟩) 18 = some 5 := by
  rw [show readP ⟨([116, 105, 101, 114, 115, 32, 56] : List UInt8).toArray⟩ = fun p => polT p == [116, 105, 101, 114, 115, 32, 56] from funext fun p => readP_of _ p]
  decide
theorem aw26_4 : fstN (readP ⟨([116, 105, 101, 114, 115] : List UInt8).toArray⟩) 18 = none := by
  rw [show readP ⟨([116, 105, 101, 114, 115] : List UInt8).toArray⟩ = fun p => polT p == [116, 105, 101, 114, 115] from funext fun p => readP_of _ p]
  decide

set_option maxRecDepth 100000 in
set_option maxHeartbeats 4000000 in
theorem awake26_any (w : World) (ht : TabP w) : Calls Tryd.prog 9 #[] w fun e w' => e = .returned (.bool true) ∧ Ext w w' := by
  have HT := Lib.hid ht
  clear ht
  go_enter Tryd.func9, Tryd.ntmps9
  go_wp2_with fail
  refine (polof_any 2 8 5 true (by rw [aw26_1]; rfl) (by rw [aw26_1]; rfl) _).mono ?_
  rintro e W1 ⟨rfl, hX⟩
  go_wp2_with fail
  refine (polof_any 2 5 0 false (by rw [aw26_2]; rfl) (by rw [aw26_2]; rfl) _).mono ?_
  rintro e W2 ⟨rfl, hx⟩
  replace hX := hX.trans hx
  clear hx
  go_wp2_with fail
  refine (polread_any ⟨([116, 105, 101, 114, 115, 32, 56] : List UInt8).toArray⟩ 5 0 (by rw [aw26_3]; rfl) (by rw [aw26_3]; rfl) _ (HT.out.ext hX)).mono ?_
  rintro e W3 ⟨rfl, hx⟩
  replace hX := hX.trans hx
  clear hx
  go_wp2_with fail
  refine (polread_any ⟨([116, 105, 101, 114, 115] : List UInt8).toArray⟩ 0 11 (by rw [aw26_4]; rfl) (by rw [aw26_4]; rfl) _ (HT.out.ext hX)).mono ?_
  rintro e W4 ⟨rfl, hx⟩
  replace hX := hX.trans hx
  clear hx
  go_wp2_with fail
  refine (poltext_is 5 [116, 105, 101, 114, 115, 32, 56] (by omega) (by rw [polL_T]; decide) _ (HT.out.ext hX)).mono ?_
  rintro e W5 ⟨rfl, hx⟩
  replace hX := hX.trans hx
  clear hx
  go_wp2_with fail
  refine (order_is 4 1 (by omega) (by decide) _).mono ?_
  rintro e W6 ⟨rfl, rfl⟩
  go_wp2_with fail
  refine (block_is 17 128 (by omega) (by decide) _).mono ?_
  rintro e W7 ⟨rfl, rfl⟩
  go_wp2_with fail
  go_ret
  exact ⟨rfl, hX⟩

set_option maxRecDepth 100000 in
set_option maxHeartbeats 4000000 in
theorem policyTells_any (p : Nat) (hp : p < 256) (s : ByteArray) (hs : s.size ≤ 9223372036854775807) (o b : Int) (w : World) (ht : TabP w) :
    Calls Tryd.prog 3 #[.int .u8 p, .string s, .int .i64 o, .int .i64 b] w fun e w' => e = .returned (.bool true) ∧ Ext w w' := by
  have HT := Lib.hid ht
  clear ht
  by_cases hbig : 100 < s.size
  · go_enter Tryd.func3, Tryd.ntmps3
    go_wp2_with fail
    refine (awake26_any _ HT.out).mono ?_
    rintro e w1 ⟨rfl, hx⟩
    go_wp2_with fail
    go_ret
    exact ⟨rfl, hx⟩
  · obtain ⟨r1, h1⟩ : ∃ r, fstN (readP s) 18 = r := ⟨_, rfl⟩
    obtain ⟨r2, h2⟩ : ∃ r, fstN (ofPol o b) 18 = r := ⟨_, rfl⟩
    have h3 : fstN (readP s) 256 = r1 := (fst_mod (readP_mod s)).trans h1
    have h4 : fstN (ofPol o b) 256 = r2 := (fst_mod (ofPol_mod o b)).trans h2
    obtain ⟨l, hl⟩ : ∃ l, polL p = l := ⟨_, rfl⟩
    obtain ⟨z, hz⟩ : ∃ z : Int, ((p % 3 : Nat) : Int) = z := ⟨_, rfl⟩
    obtain ⟨y, hy⟩ : ∃ y : Int, ((blkN p : Nat) : Int) = y := ⟨_, rfl⟩
    obtain ⟨p1, hp1⟩ : ∃ x, fstP r1 = x := ⟨_, rfl⟩
    obtain ⟨e1, he1⟩ : ∃ x, errR r1 = x := ⟨_, rfl⟩
    obtain ⟨p2, hp2⟩ : ∃ x, fstP r2 = x := ⟨_, rfl⟩
    obtain ⟨b2, hb2⟩ : ∃ x, fstB r2 = x := ⟨_, rfl⟩
    have hp1b : p1 < 18 := by
      rcases fst_cases (readP s) 18 with ⟨q, _⟩ | ⟨k, hk, q, _⟩ <;> (rw [← hp1, ← h1, q]; simp [fstP]; try omega)
    have hp2b : p2 < 18 := by
      rcases fst_cases (ofPol o b) 18 with ⟨q, _⟩ | ⟨k, hk, q, _⟩ <;> (rw [← hp2, ← h2, q]; simp [fstP]; try omega)
    have H1 := Lib.hid h1
    have H2 := Lib.hid h2
    have H3 := Lib.hid h3
    have H4 := Lib.hid h4
    have HL := Lib.hid hl
    have HZ := Lib.hid hz
    have HY := Lib.hid hy
    have HP1 := Lib.hid hp1
    have HE1 := Lib.hid he1
    have HP2 := Lib.hid hp2
    have HB2 := Lib.hid hb2
    clear h1 h2 h3 h4 hl hz hy hp1 he1 hp2 hb2
    go_enter Tryd.func3, Tryd.ntmps3
    go_wp2_with fail
    refine (polread_any s p1 e1 (by rw [H1.out, HP1.out]) (by rw [H1.out, HE1.out]) _ HT.out).mono ?_
    rintro e W1 ⟨rfl, hX⟩
    go_wp2_with fail
    have hc := refpolread_any s W1
    rw [H3.out, HP1.out, HE1.out] at hc
    refine hc.mono ?_
    rintro e W2 ⟨rfl, hx⟩
    replace hX := hX.trans hx
    clear hx hc
    go_wp2_with fail
    refine (polof_any o b p2 b2 (by rw [H2.out, HP2.out]) (by rw [H2.out, HB2.out]) _).mono ?_
    rintro e W3 ⟨rfl, hx⟩
    replace hX := hX.trans hx
    clear hx
    go_wp2_with fail
    have hc := refpolof_any o b W3
    rw [H4.out, HP2.out, HB2.out] at hc
    refine hc.mono ?_
    rintro e W4 ⟨rfl, hx⟩
    replace hX := hX.trans hx
    clear hx hc
    go_wp2_with fail
    refine (order_is p z hp HZ.out _).mono ?_
    rintro e w' ⟨rfl, rfl⟩
    go_wp2_with fail
    refine (reforder_is p z hp HZ.out _).mono ?_
    rintro e w' ⟨rfl, rfl⟩
    go_wp2_with fail
    refine (block_is p y hp HY.out _).mono ?_
    rintro e w' ⟨rfl, rfl⟩
    go_wp2_with fail
    refine (refblock_is p y hp HY.out _).mono ?_
    rintro e w' ⟨rfl, rfl⟩
    go_wp2_with fail
    refine (poltext_is p l hp HL.out _ (HT.out.ext hX)).mono ?_
    rintro e W5 ⟨rfl, hx⟩
    replace hX := hX.trans hx
    clear hx
    go_wp2_with fail
    refine (refpoltext_is p l hp HL.out _).mono ?_
    rintro e w' ⟨rfl, rfl⟩
    go_wp2_with fail
    refine (awake26_any _ (HT.out.ext hX)).mono ?_
    rintro e W6 ⟨rfl, hx⟩
    replace hX := hX.trans hx
    go_wp2_with fail
    go_ret
    exact ⟨rfl, hX⟩
end Go.Proofs.YtidfibheehcdgaaDoor
