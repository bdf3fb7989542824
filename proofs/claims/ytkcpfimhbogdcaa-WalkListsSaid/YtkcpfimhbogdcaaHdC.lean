/- Headers as words: the program's Enc, walked. -/
import Derived.Test.YtkcpfimhbogdcaaHdB
import Derived.Test.YtkcpfimhbogdcaaGen
set_option linter.unusedSimpArgs false
set_option linter.unusedVariables false
namespace Go.Proofs.Ytkcpfimhbogdcaa
open Go.RowKit
set_option maxRecDepth 100000
set_option maxHeartbeats 2000000
theorem henc_any (h : Hd) (V : World) : Calls Try.prog 119 #[.agg #[.int .i64 h.k, .int .i64 h.f, .int .i64 h.r, .bool h.m, .int .i64 h.c]] V fun e w' => e = .returned (.tuple #[.int .u64 (hwordZ h), .int .i64 (herrZ h)]) ∧ Ext V w' := by
  have hW : Ext V (V.alloc (.cells #[.int .i64 h.k, .int .i64 h.f, .int .i64 h.r, .bool h.m, .int .i64 h.c] 47)) := (Ext.refl V).alloc _
  have i0 := fun k hk w => index_parts k hk w
  go_enter Try.func119, Try.ntmps119
  go_wp2_with fail
  generalize V.alloc (.cells #[.int .i64 h.k, .int .i64 h.f, .int .i64 h.r, .bool h.m, .int .i64 h.c] 47) = W at *
  refine (numbers_any h _).mono ?_
  rintro e w1 ⟨rfl, hx⟩
  go_wp2_with fail
  have hb : (w1.alloc (.cells #[.int .i64 (nz h 0), .int .i64 (nz h 1), .int .i64 (nz h 2), .int .i64 (nz h 3), .int .i64 (nz h 4)] 167)).heap[w1.heap.size]? = some (.cells #[.int .i64 (nz h 0), .int .i64 (nz h 1), .int .i64 (nz h 2), .int .i64 (nz h 3), .int .i64 (nz h 4)] 167 (0, 0)) := World.alloc_heap_new _ _
  have hxa := (Ext.refl w1).alloc (.cells #[.int .i64 (nz h 0), .int .i64 (nz h 1), .int .i64 (nz h 2), .int .i64 (nz h 3), .int .i64 (nz h 4)] 167)
  have hxV := hW.trans (hx.trans hxa)
  generalize w1.alloc (.cells #[.int .i64 (nz h 0), .int .i64 (nz h 1), .int .i64 (nz h 2), .int .i64 (nz h 3), .int .i64 (nz h 4)] 167) = W2 at *
  generalize w1.heap.size = X5 at *
  refine (parts_any _).mono ?_
  rintro e w3 ⟨rfl, hx3⟩
  have HB := Lib.hid ((hx3.block (lt_of_heap hb)).trans hb)
  have HXV := Lib.hid (hxV.trans hx3)
  have HC : Hid (∀ k, k < 5 → ∀ w', Ext w3 w' → w'.cell? ⟨X5, k, none⟩ = some (.int .i64 (nz h k))) := Lib.hid (fun k hk w' hw' => hw'.cell (by
    have : k = 0 ∨ k = 1 ∨ k = 2 ∨ k = 3 ∨ k = 4 := by omega
    rcases this with rfl | rfl | rfl | rfl | rfl <;> simp [World.cell?, HB.out]))
  clear hW hx hb hxa hxV hx3 HB
  go_wp2_with fail
  go_loopw [4, 11] (fun u i wr => ∃ k : Nat, k ≤ 5 ∧ i = .int .i64 k ∧ u = .int .u64 (encP h k : Nat) ∧ Hid (fineTo h k) ∧ Hid (Ext w3 wr)) (fun _ i _ => 5 - (intOf i).toNat)
  case atStart => exact ⟨0, by omega, rfl, rfl, Lib.hid (fun i hi => by omega), Lib.hid (Ext.refl _)⟩
  case round =>
    obtain ⟨k, hk, rfl, rfl, hf, hxr⟩ := hrel
    by_cases hlt : k < 5
    rotate_left
    · obtain rfl : k = 5 := by omega
      have hm := (fine_may h).1 hf.out
      go_wp2_with fail
      go_ret2
      refine ⟨?_, HXV.out.trans hxr.out⟩
      rw [encP_all, show hwordZ h = hwordN h by rw [hwordZ, hm]; rfl, show herrZ h = 0 by rw [herrZ, hm]; rfl]
      rfl
    have ib1 : (k : Int) < 5 := by omega
    have j0 := i0 k hlt
    have HCK := Lib.hid (HC.out k hlt)
    obtain ⟨s1, s2, s3, s4, s5⟩ := p_step k hlt
    have HS := Lib.hid (show fineTo h k → (0 ≤ nz h k ∧ nz h k ≤ pMost k) → fineTo h (k + 1) from fun h1 h2 i hi => by
      rcases Nat.lt_or_ge i k with h' | h'
      · exact h1 i h'
      · obtain rfl : i = k := by omega
        exact h2)
    have HN := Lib.hid (fun hn => may_not h hlt hn)
    have HE : Hid (encP h (k + 1) = encP h k + 2 ^ pAt k * (nz h k).toNat) := Lib.hid rfl
    have HL := Lib.hid (encP_lt h k (by omega) hf.out)
    clear i0
    generalize nz h k = z at *
    generalize encP h k = ew at *
    generalize pAt k = at_ at *
    generalize pN k = pn at *
    generalize pMost k = pm at *
    have s5' := Lib.hid s5
    clear s5
    go_wp2_with fail
    have hxb := hxr.out.alloc (.cells #[.int .i64 (at_ : Int), .int .i64 (pn : Int), .int .i64 (pm : Int)] 169)
    have l0 : ∀ u : ExtOf (wr.alloc (.cells #[.int .i64 (at_ : Int), .int .i64 (pn : Int), .int .i64 (pm : Int)] 169)), u.1.cell? ⟨X5, k, none⟩ = some (.int .i64 z) := fun u => HCK.out _ (hxb.trans u.2)
    have l1 : ∀ u : ExtOf (wr.alloc (.cells #[.int .i64 (at_ : Int), .int .i64 (pn : Int), .int .i64 (pm : Int)] 169)), u.1.cell? ⟨wr.heap.size, 0, none⟩ = some (.int .i64 (at_ : Int)) := fun u => boxed wr _ _ 0 _ rfl _ u.2
    have l2 : ∀ u : ExtOf (wr.alloc (.cells #[.int .i64 (at_ : Int), .int .i64 (pn : Int), .int .i64 (pm : Int)] 169)), u.1.cell? ⟨wr.heap.size, 1, none⟩ = some (.int .i64 (pn : Int)) := fun u => boxed wr _ _ 1 _ rfl _ u.2
    have l3 : ∀ u : ExtOf (wr.alloc (.cells #[.int .i64 (at_ : Int), .int .i64 (pn : Int), .int .i64 (pm : Int)] 169)), u.1.cell? ⟨wr.heap.size, 2, none⟩ = some (.int .i64 (pm : Int)) := fun u => boxed wr _ _ 2 _ rfl _ u.2
    generalize wr.alloc (.cells #[.int .i64 (at_ : Int), .int .i64 (pn : Int), .int .i64 (pm : Int)] 169) = W7 at *
    generalize wr.heap.size = X7 at *
    have hx0 := Ext.refl W7
    by_cases c1 : z < 0
    · have d1 : decide (z < 0) = true := by simpa using c1
      have HM := Lib.hid (HN.out (by omega))
      clear HS HN HE HL c1
      (refine wp_region_ext (W := W7) (by kernel_rfl) (by kernel_rfl) (by with_reducible assumption) ?_; (repeat (go_big_quiet_step (fail))); refine wpQuiet_nil ?_; intro w1 hx)
      go_wp2_with fail
      go_ret2
      refine ⟨?_, HXV.out.trans (hxb.trans hx)⟩
      rw [show hwordZ h = 0 by rw [hwordZ, HM.out]; rfl, show herrZ h = 1 by rw [herrZ, HM.out]; rfl]
      rfl
    have d1 : decide (z < 0) = false := by simpa using c1
    by_cases c2 : (pm : Int) < z
    · have d2 : decide ((pm : Int) < z) = true := by simpa using c2
      have HM := Lib.hid (HN.out (by omega))
      clear HS HN HE HL c1 c2
      (refine wp_region_ext (W := W7) (by kernel_rfl) (by kernel_rfl) (by with_reducible assumption) ?_; (repeat (go_big_quiet_step (fail))); refine wpQuiet_nil ?_; intro w1 hx)
      go_wp2_with fail
      go_ret2
      refine ⟨?_, HXV.out.trans (hxb.trans hx)⟩
      rw [show hwordZ h = 0 by rw [hwordZ, HM.out]; rfl, show herrZ h = 1 by rw [herrZ, HM.out]; rfl]
      rfl
    have d2 : decide ((pm : Int) < z) = false := by simpa using c2
    have HF2 := Lib.hid (HS.out hf.out ⟨by omega, by omega⟩)
    obtain ⟨x, rfl⟩ := Int.eq_ofNat_of_zero_le (show 0 ≤ z by omega)
    have hxp : x < 2 ^ pn := by have := s5'.out; omega
    have d3 : decide (pm < x) = false := by simp; omega
    clear HS HN c1 c2
    (refine wp_region_ext (W := W7) (by kernel_rfl) (by kernel_rfl) (by with_reducible assumption) ?_; (repeat (go_big_quiet_step (fail))); refine wpQuiet_nil ?_; intro w1 hx)
    go_wp2_with fail
    have HPT := Lib.hid (fun w => put_is ew at_ pn x s2 s3 s4 HL.out hxp w)
    have hcv : ((x : Int) % 18446744073709551616) = (x : Int) := by
      have h1 : 2 ^ pn ≤ 2 ^ 63 := Nat.pow_le_pow_right (by omega) (by omega)
      generalize 2 ^ pn = m at hxp h1
      omega
    clear hxp d1 d2 d3
    (refine wp_region_seg (W := W7) [] [(0, true), (1, true), (2, true), (3, true), (4, true), (5, true), (6, true), (7, true), (8, false), (9, false), (10, true), (11, true), (12, true), (13, true)] [] (by kernel_rfl) (by kernel_rfl) (by intro c a d v w h; cases d <;> exact h) (by with_reducible assumption) ?_; simp only [opsOf, List.map_cons, List.map_nil, List.getD_cons_zero, List.getD_cons_succ])
    ((first | refine seg_cons ?_ | refine seg_last ?_); (repeat (go_big_quiet_step (first | (go_at_call 157; with_reducible exact Calls.ext_of (HPT.out _))))); refine wpQuiet_nil ?_; intro w1 hx)
    go_wp2_with fail
    exact ⟨⟨k + 1, by omega, by go_num, by rw [HE.out, Int.toNat_natCast]; simp, HF2, Lib.hid (hxb.trans hx)⟩, by simp [intOf]; omega⟩
theorem henc_is (h : Hd) (u er : Int) (h1 : hwordZ h = u) (h2 : herrZ h = er) (V : World) : Calls Try.prog 119 #[.agg #[.int .i64 h.k, .int .i64 h.f, .int .i64 h.r, .bool h.m, .int .i64 h.c]] V fun e w' => e = .returned (.tuple #[.int .u64 u, .int .i64 er]) ∧ Ext V w' := by
  rw [← h1, ← h2]; exact henc_any h V
/-- How many words an object has. -/
def hsize (h : Hd) : Int := if hmayB h then 1 + h.f + h.r else 0
theorem hsize_any (h : Hd) (V : World) : Calls Try.prog 70 #[.agg #[.int .i64 h.k, .int .i64 h.f, .int .i64 h.r, .bool h.m, .int .i64 h.c]] V fun e w' => e = .returned (.int .i64 (hsize h)) ∧ Ext V w' := by
  have hW : Ext V (V.alloc (.cells #[.int .i64 h.k, .int .i64 h.f, .int .i64 h.r, .bool h.m, .int .i64 h.c] 47)) := (Ext.refl V).alloc _
  have k1 := fun w' => boxed V #[.int .i64 h.k, .int .i64 h.f, .int .i64 h.r, .bool h.m, .int .i64 h.c] 47 1 (.int .i64 h.f) rfl w'
  have k2 := fun w' => boxed V #[.int .i64 h.k, .int .i64 h.f, .int .i64 h.r, .bool h.m, .int .i64 h.c] 47 2 (.int .i64 h.r) rfl w'
  obtain ⟨b, hb⟩ : ∃ b, hmayB h = b := ⟨_, rfl⟩
  have HB := Lib.hid hb
  clear hb
  go_enter Try.func70, Try.ntmps70
  go_wp2_with fail
  generalize V.alloc (.cells #[.int .i64 h.k, .int .i64 h.f, .int .i64 h.r, .bool h.m, .int .i64 h.c] 47) = W at *
  cases b
  · refine (henc_is h 0 1 (by rw [hwordZ, HB.out]; rfl) (by rw [herrZ, HB.out]; rfl) _).mono ?_
    rintro e w1 ⟨rfl, hx⟩
    go_wp2_with fail
    go_ret
    exact ⟨ret_int (by rw [hsize, HB.out]; rfl), hW.trans hx⟩
  · refine (henc_is h (hwordN h) 0 (by rw [hwordZ, HB.out]; rfl) (by rw [herrZ, HB.out]; rfl) _).mono ?_
    rintro e w1 ⟨rfl, hx⟩
    go_wp2_with fail
    go_ret
    have hm := HB.out
    simp only [hmayB, decide_eq_true_eq] at hm
    refine ⟨ret_int ?_, hW.trans hx⟩
    rw [hsize, HB.out]
    show wrap64 (wrap64 (1 + h.f) + h.r) = 1 + h.f + h.r
    unfold wrap64
    omega
end Go.Proofs.Ytkcpfimhbogdcaa
