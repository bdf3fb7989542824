/- The walk of layer 5's awake, and of the law BumpNobody. -/
import Derived.Test.YtbdedcgecmbalaaBump
set_option linter.unusedSimpArgs false
set_option linter.unusedVariables false
namespace Go.Proofs.Ytbdedcgecmbalaa
open Go.RowKit

theorem BumpAt.quiet {w w' : World} {b : Nat} {a s u : Int} (h : BumpAt w b a s u) (q : Quiet w w') : BumpAt w' b a s u := by
  obtain ⟨n, rfl⟩ := q; exact h
theorem BumpNo.quiet {w w' : World} {b : Nat} (h : BumpNo w b) (q : Quiet w w') : BumpNo w' b := by
  obtain ⟨n, rfl⟩ := q; exact h
theorem Quiet.only {w w' : World} (q : Quiet w w') (b : Nat) : Only b w w' := by
  obtain ⟨n, rfl⟩ := q; exact (Only.refl _ _).drewN _
theorem Quiet.ext {w w' : World} (q : Quiet w w') : Ext w w' := by
  obtain ⟨n, rfl⟩ := q; exact (Ext.refl _).drewN _

set_option maxRecDepth 100000 in
set_option maxHeartbeats 1000000 in
theorem awake05_any (w : World) :
    Calls Try.prog 22 #[] w fun e w' => e = .returned (.bool true) ∧ Ext w w' := by
  go_enter Try.func22, Try.ntmps22
  go_wp2_with fail
  refine (new_ok 4 3 _ (by decide)).mono ?_
  rintro e w1 ⟨b, rfl, hlo, hhi, hb, hx⟩
  have HX := Lib.hid hx
  have HO := Lib.hid (Only.refl b w1)
  have HB := Lib.hid hb
  have H0 := Lib.hid hlo
  clear hx hb hlo hhi
  go_wp2_with fail
  refine (take_ok _ b 4 3 0 2 HB.out (by omega) (by omega) (by omega) (by omega) (by omega) (by omega) (by omega)).mono ?_
  rintro e w2 ⟨rfl, hb, ho⟩
  replace HB := Lib.hid hb
  replace HO := Lib.hid (HO.out.trans ho)
  clear hb ho
  go_wp2_with fail
  refine (take_memory _ b 4 3 (0 + 2) 2 HB.out (by omega) (by omega) (by omega) (by omega) (by omega) (by omega) (by omega)).mono ?_
  rintro e w3 ⟨rfl, hq⟩
  replace HB := Lib.hid (HB.out.quiet hq)
  replace HO := Lib.hid (HO.out.trans (hq.only b))
  clear hq
  go_wp2_with fail
  refine (take_ok _ b 4 3 (0 + 2) 1 HB.out (by omega) (by omega) (by omega) (by omega) (by omega) (by omega) (by omega)).mono ?_
  rintro e w4 ⟨rfl, hb, ho⟩
  replace HB := Lib.hid hb
  replace HO := Lib.hid (HO.out.trans ho)
  clear hb ho
  go_wp2_with fail
  refine (take_size _ b 4 3 (0 + 2 + 1) 0 HB.out (by omega) (by omega) (by omega) (by omega) (by omega) (by omega)).mono ?_
  rintro e w5 ⟨rfl, hq⟩
  replace HB := Lib.hid (HB.out.quiet hq)
  replace HO := Lib.hid (HO.out.trans (hq.only b))
  clear hq
  go_wp2_with fail
  refine (back_ok _ b 4 3 (0 + 2 + 1) 5 HB.out (by omega) (by omega) (by omega) (by omega) (by omega) (by omega) (by omega)).mono ?_
  rintro e w6 ⟨rfl, hb, ho⟩
  replace HB := Lib.hid hb
  replace HO := Lib.hid (HO.out.trans ho)
  clear hb ho
  go_wp2_with fail
  refine (take_nil _ 1).mono ?_
  rintro e w7 ⟨rfl, hq⟩
  replace HB := Lib.hid (HB.out.quiet hq)
  replace HO := Lib.hid (HO.out.trans (hq.only b))
  clear hq
  go_wp2_with fail
  refine (top_at _ b 4 3 (5 - 4) HB.out (by omega) (by omega) (by omega) (by omega) (by omega)).mono ?_
  rintro e w8 ⟨rfl, hq⟩
  replace HB := Lib.hid (HB.out.quiet hq)
  replace HO := Lib.hid (HO.out.trans (hq.only b))
  clear hq
  go_wp2_with fail
  refine (used_at _ b 4 3 (5 - 4) HB.out (by omega) (by omega) (by omega) (by omega) (by omega)).mono ?_
  rintro e w9 ⟨rfl, hq⟩
  replace HB := Lib.hid (HB.out.quiet hq)
  replace HO := Lib.hid (HO.out.trans (hq.only b))
  clear hq
  go_wp2_with fail
  refine (room_at _ b 4 3 (5 - 4) HB.out (by omega) (by omega) (by omega) (by omega) (by omega)).mono ?_
  rintro e w10 ⟨rfl, hq⟩
  replace HB := Lib.hid (HB.out.quiet hq)
  replace HO := Lib.hid (HO.out.trans (hq.only b))
  clear hq
  go_wp2_with fail
  refine (back_place _ b 4 3 (5 - 4) 6 HB.out (by omega) (by omega) (by omega) (by omega) (by omega) (by omega)).mono ?_
  rintro e w11 ⟨rfl, hq⟩
  replace HB := Lib.hid (HB.out.quiet hq)
  replace HO := Lib.hid (HO.out.trans (hq.only b))
  clear hq
  go_wp2_with fail
  refine (top_nil _).mono ?_
  rintro e w12 ⟨rfl, hq⟩
  replace HB := Lib.hid (HB.out.quiet hq)
  replace HO := Lib.hid (HO.out.trans (hq.only b))
  clear hq
  go_wp2
  go_ret
  exact ⟨rfl, HO.out.ext HX.out H0.out⟩

set_option maxRecDepth 100000 in
set_option maxHeartbeats 1000000 in
theorem bumpNobody_any (n : Int) (w : World) :
    Calls Try.prog 6 #[.int .i64 n] w fun e w' => e = .returned (.bool true) ∧ Ext w w' := by
  go_enter Try.func6, Try.ntmps6
  go_wp2
  go_loopw [3] (fun i wr => ∃ k : Nat, k ≤ 2 ∧ i = .int .i64 k ∧ Ext w wr) (fun i _ => 2 - (intOf i).toNat)
  case atStart => exact ⟨0, by omega, rfl, Ext.refl _⟩
  case round =>
    obtain ⟨k, hk, rfl, hxr⟩ := hrel
    obtain rfl | rfl | rfl : k = 0 ∨ k = 1 ∨ k = 2 := by omega
    · have HE := Lib.hid hxr
      clear hxr
      go_wp2_with fail
      refine (take_nil _ n).mono ?_
      rintro e w1 ⟨rfl, hq⟩
      replace HE := Lib.hid (HE.out.trans hq.ext)
      clear hq
      go_wp2_with fail
      refine (back_nil _ n).mono ?_
      rintro e w2 ⟨rfl, hq⟩
      replace HE := Lib.hid (HE.out.trans hq.ext)
      clear hq
      go_wp2_with fail
      refine (top_nil _ ).mono ?_
      rintro e w3 ⟨rfl, hq⟩
      replace HE := Lib.hid (HE.out.trans hq.ext)
      clear hq
      go_wp2_with fail
      refine (used_nil _ ).mono ?_
      rintro e w4 ⟨rfl, hq⟩
      replace HE := Lib.hid (HE.out.trans hq.ext)
      clear hq
      go_wp2_with fail
      refine (room_nil _ ).mono ?_
      rintro e w5 ⟨rfl, hq⟩
      replace HE := Lib.hid (HE.out.trans hq.ext)
      clear hq
      go_wp2
      go_roundw
      case rel => exact ⟨1, by omega, by go_num, HE.out⟩
      case measure => simp [intOf]
    · have HE := Lib.hid (hxr.alloc (.cells #[.bool false, .int .i64 0, .int .i64 0, .int .i64 0] 49))
      have HB : Hid (BumpNo (wr.alloc (.cells #[.bool false, .int .i64 0, .int .i64 0, .int .i64 0] 49)) wr.heap.size) := Lib.hid (World.alloc_heap_new _ _)
      clear hxr
      obtain ⟨W0, rfl⟩ : ∃ W0 : World, W0 = wr := ⟨_, rfl⟩
      go_wp2_with fail
      refine (take_no _ W0.heap.size n HB.out).mono ?_
      rintro e w1 ⟨rfl, hq⟩
      replace HE := Lib.hid (HE.out.trans hq.ext)
      replace HB := Lib.hid (HB.out.quiet hq)
      clear hq
      go_wp2_with fail
      refine (back_no _ W0.heap.size n HB.out).mono ?_
      rintro e w2 ⟨rfl, hq⟩
      replace HE := Lib.hid (HE.out.trans hq.ext)
      replace HB := Lib.hid (HB.out.quiet hq)
      clear hq
      go_wp2_with fail
      refine (top_no _ W0.heap.size  HB.out).mono ?_
      rintro e w3 ⟨rfl, hq⟩
      replace HE := Lib.hid (HE.out.trans hq.ext)
      replace HB := Lib.hid (HB.out.quiet hq)
      clear hq
      go_wp2_with fail
      refine (used_no _ W0.heap.size  HB.out).mono ?_
      rintro e w4 ⟨rfl, hq⟩
      replace HE := Lib.hid (HE.out.trans hq.ext)
      replace HB := Lib.hid (HB.out.quiet hq)
      clear hq
      go_wp2_with fail
      refine (room_no _ W0.heap.size  HB.out).mono ?_
      rintro e w5 ⟨rfl, hq⟩
      replace HE := Lib.hid (HE.out.trans hq.ext)
      replace HB := Lib.hid (HB.out.quiet hq)
      clear hq
      go_wp2
      go_roundw
      case rel => exact ⟨2, by omega, by go_num, HE.out⟩
      case measure => simp [intOf]
    · go_wp2_with fail
      refine (awake05_any _).mono ?_
      rintro e w1 ⟨rfl, hx⟩
      go_wp2
      go_ret
      exact ⟨rfl, hxr.trans hx⟩
theorem bumpNobody_fin {n : Int} (hn : (Lit.int .i64 n).wf = true) (w : World) :
    Calls Try.prog 6 #[.int .i64 n] w fun e w' => e = .returned (.bool true) ∧ Ext w w' := bumpNobody_any n w
end Go.Proofs.Ytbdedcgecmbalaa
