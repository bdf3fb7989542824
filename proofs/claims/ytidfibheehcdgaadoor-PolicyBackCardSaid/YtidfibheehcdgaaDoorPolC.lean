/- Of, Read of the package policy and of its reference; awake; the laws PolicyTells, PolicyBack. -/
import Derived.Test.YtidfibheehcdgaaDoorPolB
set_option linter.unusedSimpArgs false
set_option linter.unusedVariables false
namespace Go.Proofs.YtidfibheehcdgaaDoor
open Go.RowKit

def errR (o : Option Nat) : Int := if o.isSome then 0 else 11
theorem ret_two {k l : IntKind} {a b c d : Int} (h1 : a = c) (h2 : b = d) : Ending.returned (.tuple #[.int k a, .int l b]) = .returned (.tuple #[.int k c, .int l d]) := by rw [h1, h2]

set_option maxRecDepth 100000 in
set_option maxHeartbeats 1000000 in
theorem polof_any (o b : Int) (z : Nat) (t : Bool) (hz : fstP (fstN (ofPol o b) 18) = z) (ht : fstB (fstN (ofPol o b) 18) = t) (w : World) :
    Calls Tryd.prog 12 #[.int .i64 o, .int .i64 b] w fun e w' => e = .returned (.tuple #[.int .u8 z, .bool t]) ∧ Ext w w' := by
  subst hz ht
  have k0 := boxed w #[.int .i64 o] 3 0 (.int .i64 o) rfl
  have hW0 : Ext w (w.alloc (.cells #[.int .i64 o] 3)) := (Ext.refl w).alloc _
  have hW1 : Ext (w.alloc (.cells #[.int .i64 o] 3)) ((w.alloc (.cells #[.int .i64 o] 3)).alloc (.cells #[.int .i64 b] 3)) := (Ext.refl _).alloc _
  have k1 := boxed (w.alloc (.cells #[.int .i64 o] 3)) #[.int .i64 b] 3 0 (.int .i64 b) rfl
  have hsz : (w.alloc (.cells #[.int .i64 o] 3)).heap.size = w.heap.size + 1 := by simp
  rw [hsz] at k1
  have c0 := k0 _ hW1
  have c1 := k1 _ (Ext.refl _)
  clear k0 k1 hsz
  have eg : ∀ args w, (callFunc 34 args).run Tryd.prog w = .ok (.enter 34 args) w := enters_of Tryd.func34 (by kernel_rfl) rfl
  go_enter Tryd.func12, Tryd.ntmps12
  go_wp2_with fail
  refine (first_any (ofPol o b) _ _ eg _ (of1_tells o b _ _ c0 c1)).mono ?_
  rintro e w1 ⟨rfl, hx⟩
  generalize hr : fstN (ofPol o b) 18 = r
  have HR := Lib.hid hr
  clear hr
  go_wp2_with fail
  go_ret2
  exact ⟨ret_fst (by rw [HR.out]) (by rw [HR.out]), (hW0.trans hW1).trans hx⟩

set_option maxRecDepth 100000 in
set_option maxHeartbeats 1000000 in
theorem polread_any (s : ByteArray) (z : Nat) (er : Int) (hz : fstP (fstN (readP s) 18) = z) (he : errR (fstN (readP s) 18) = er) (w : World) (ht : TabP w) :
    Calls Tryd.prog 10 #[.string s] w fun e w' => e = .returned (.tuple #[.int .u8 z, .int .i64 er]) ∧ Ext w w' := by
  subst hz he
  have k0 := boxed w #[.string s] 9 0 (.string s) rfl _ (Ext.refl _)
  have hW0 : Ext w (w.alloc (.cells #[.string s] 9)) := (Ext.refl w).alloc _
  have HT := Lib.hid (ht.ext hW0)
  clear ht
  have eg : ∀ args w, (callFunc 33 args).run Tryd.prog w = .ok (.enter 33 args) w := enters_of Tryd.func33 (by kernel_rfl) rfl
  go_enter Tryd.func10, Tryd.ntmps10
  go_wp2_with fail
  refine (first_any (readP s) _ _ eg _ (read1_tells s _ _ k0 HT.out)).mono ?_
  rintro e w1 ⟨rfl, hx⟩
  generalize hr : fstN (readP s) 18 = r
  have HR := Lib.hid hr
  clear hr
  cases r
  · simp only [fstP, fstB, errR, Option.getD_none, Option.isSome_none]
    go_wp2_with fail
    go_ret2
    exact ⟨ret_two (by rw [HR.out]; rfl) (by rw [HR.out]; rfl), hW0.trans hx⟩
  · simp only [fstP, fstB, errR, Option.getD_some, Option.isSome_some]
    go_wp2_with fail
    go_ret2
    exact ⟨ret_two (by rw [HR.out]; rfl) (by rw [HR.out]; rfl), hW0.trans hx⟩

set_option maxRecDepth 100000 in
set_option maxHeartbeats 1000000 in
theorem refpolof_any (o b : Int) (w : World) :
    Calls Tryd.prog 13 #[.int .i64 o, .int .i64 b] w fun e w' => e = .returned (.tuple #[.int .i64 (fstP (fstN (ofPol o b) 256)), .bool (fstB (fstN (ofPol o b) 256))]) ∧ Ext w w' := by
  go_enter Tryd.func13, Tryd.ntmps13
  go_wp2_with fail
  go_loopw [6] (fun i wr => ∃ k : Nat, k ≤ 256 ∧ i = .int .i64 k ∧ Ext w wr ∧ Hid (∀ i, i < k → ofPol o b i = false)) (fun i _ => 256 - (intOf i).toNat)
  case atStart => exact ⟨0, by omega, rfl, Ext.refl _, Lib.hid (by omega)⟩
  case round =>
    obtain ⟨k, hk, rfl, hxr, hq⟩ := hrel
    by_cases hlt : k < 256
    rotate_left
    · have HR := Lib.hid (fst_miss (P := ofPol o b) (n := 256) (fun i hi => hq.out i (by omega)))
      clear hq
      go_wp2_with fail
      go_ret2
      exact ⟨ret_fst (by rw [HR.out]; rfl) (by rw [HR.out]; rfl), hxr⟩
    obtain ⟨z, hz⟩ : ∃ z : Int, ((k % 3 : Nat) : Int) = z := ⟨_, rfl⟩
    obtain ⟨y, hy⟩ : ∃ y : Int, ((blkN k : Nat) : Int) = y := ⟨_, rfl⟩
    have HR := Lib.hid (show ofPol o b k = (z == o && y == b) by unfold ofPol; rw [hz, hy])
    have HZ := Lib.hid hz
    have HY := Lib.hid hy
    have HQ := Lib.hid (fun h : ofPol o b k = false => (fun i (hi : i < k + 1) => by
      rcases Nat.lt_or_ge i k with h' | h'
      · exact hq.out i h'
      · obtain rfl : i = k := by omega
        exact h : ∀ i, i < k + 1 → ofPol o b i = false))
    have HH := Lib.hid (fun h => fst_hit (P := ofPol o b) hlt h hq.out)
    clear hz hy hq
    cases h1 : z == o
    · go_wp2_with fail
      refine (reforder_is k z hlt HZ.out _).mono ?_
      rintro e w' ⟨rfl, rfl⟩
      go_wp2_with fail
      go_roundw
      case rel => exact ⟨k + 1, by omega, by go_num, hxr, Lib.hid (HQ.out (by rw [HR.out, h1]; rfl))⟩
      case measure => simp [intOf]; omega
    · cases h2 : y == b
      · go_wp2_with fail
        refine (reforder_is k z hlt HZ.out _).mono ?_
        rintro e w' ⟨rfl, rfl⟩
        go_wp2_with fail
        refine (refblock_is k y hlt HY.out _).mono ?_
        rintro e w' ⟨rfl, rfl⟩
        go_wp2_with fail
        go_roundw
        case rel => exact ⟨k + 1, by omega, by go_num, hxr, Lib.hid (HQ.out (by rw [HR.out, h1, h2]; rfl))⟩
        case measure => simp [intOf]; omega
      · go_wp2_with fail
        refine (reforder_is k z hlt HZ.out _).mono ?_
        rintro e w' ⟨rfl, rfl⟩
        go_wp2_with fail
        refine (refblock_is k y hlt HY.out _).mono ?_
        rintro e w' ⟨rfl, rfl⟩
        go_wp2_with fail
        go_ret2
        have h3 := HH.out (by rw [HR.out, h1, h2]; rfl)
        exact ⟨ret_fst (by rw [h3]; rfl) (by rw [h3]; rfl), hxr⟩

theorem refpoltext_is (p : Nat) (l : List UInt8) (hp : p < 256) (hl : polL p = l) (w : World) :
    Calls Tryd.prog 19 #[.int .i64 p] w fun e w' => e = .returned (.string ⟨l.toArray⟩) ∧ w = w' := by subst hl; exact refpoltext_any p hp w
set_option maxRecDepth 100000 in
set_option maxHeartbeats 1000000 in
theorem refpolread_any (s : ByteArray) (w : World) :
    Calls Tryd.prog 11 #[.string s] w fun e w' => e = .returned (.tuple #[.int .i64 (fstP (fstN (readP s) 256)), .int .i64 (errR (fstN (readP s) 256))]) ∧ Ext w w' := by
  go_enter Tryd.func11, Tryd.ntmps11
  go_wp2_with fail
  go_loopw [4] (fun i wr => ∃ k : Nat, k ≤ 256 ∧ i = .int .i64 k ∧ Ext w wr ∧ Hid (∀ i, i < k → readP s i = false)) (fun i _ => 256 - (intOf i).toNat)
  case atStart => exact ⟨0, by omega, rfl, Ext.refl _, Lib.hid (by omega)⟩
  case round =>
    obtain ⟨k, hk, rfl, hxr, hq⟩ := hrel
    by_cases hlt : k < 256
    rotate_left
    · have HR := Lib.hid (fst_miss (P := readP s) (n := 256) (fun i hi => hq.out i (by omega)))
      clear hq
      go_wp2_with fail
      go_ret2
      exact ⟨ret_two (by rw [HR.out]; rfl) (by rw [HR.out]; rfl), hxr⟩
    obtain ⟨l, hl⟩ : ∃ l, polL k = l := ⟨_, rfl⟩
    have HR := Lib.hid (show readP s k = (l == s.toList) by unfold readP; rw [hl])
    have HL := Lib.hid hl
    have HQ := Lib.hid (fun h : readP s k = false => (fun i (hi : i < k + 1) => by
      rcases Nat.lt_or_ge i k with h' | h'
      · exact hq.out i h'
      · obtain rfl : i = k := by omega
        exact h : ∀ i, i < k + 1 → readP s i = false))
    have HH := Lib.hid (fun h => fst_hit (P := readP s) hlt h hq.out)
    clear hl hq
    cases h1 : l == s.toList
    · go_wp2_with fail
      refine (refpoltext_is k l hlt HL.out _).mono ?_
      rintro e w' ⟨rfl, rfl⟩
      go_wp2_with fail
      go_roundw
      case rel => exact ⟨k + 1, by omega, by go_num, hxr, Lib.hid (HQ.out (by rw [HR.out, h1]))⟩
      case measure => simp [intOf]; omega
    · go_wp2_with fail
      refine (refpoltext_is k l hlt HL.out _).mono ?_
      rintro e w' ⟨rfl, rfl⟩
      go_wp2_with fail
      go_ret2
      have h3 := HH.out (by rw [HR.out, h1])
      exact ⟨ret_two (by rw [h3]; rfl) (by rw [h3]; rfl), hxr⟩
end Go.Proofs.YtidfibheehcdgaaDoor
