/- The walks of span.Meets and span.Within, and of the reference's Within. -/
import Derived.Test.YtllcekmbcmhckaaRef03A
set_option linter.unusedSimpArgs false
set_option linter.unusedVariables false
namespace Go.Proofs.Ytllcekmbcmhckaa
open Go.RowKit

theorem meets_alt {a s c d : Int} (h1 : mayB a s = true) (h2 : mayB c d = true) : meetsB a s c d = (decide (a < c + d) && decide (c < a + s)) := by
  have := may_bd h1
  have := may_bd h2
  unfold meetsB hasB
  rw [h1, h2, Bool.eq_iff_iff]
  simp
  omega
theorem meets_no1 {a s c d : Int} (h1 : mayB a s = false) : meetsB a s c d = false := by unfold meetsB; simp [h1]
theorem meets_no2 {a s c d : Int} (h1 : mayB c d = false) : meetsB a s c d = false := by unfold meetsB; simp [h1]

def withinB (a s c d : Int) : Bool := mayB a s && mayB c d && decide (c ≤ a ∧ a + s ≤ c + d)

/-- The contracts with their result under a name: for a test that is decided ahead of the walk. -/
theorem may_is (a s : Int) (b : Bool) (h : mayB a s = b) (w : World) : Calls Try.prog 13 #[.agg #[.int .i64 (a), .int .i64 (s)]] w fun e w' => e = .returned (.bool b) ∧ Ext w w' := by
  rw [← h]; exact may_any a s w
theorem refmay_is (a s : Int) (b : Bool) (h : mayB a s = b) (w : World) : Calls Try.prog 14 #[.agg #[.int .i64 (a), .int .i64 (s)]] w fun e w' => e = .returned (.bool b) ∧ Ext w w' := by
  rw [← h]; exact refmay_any a s w
theorem refhas_is (a s p : Int) (b : Bool) (h : hasB a s p = b) (w : World) : Calls Try.prog 16 #[.agg #[.int .i64 (a), .int .i64 (s)], .int .i64 p] w fun e w' => e = .returned (.bool b) ∧ Ext w w' := by
  rw [← h]; exact refhas_any a s p w
theorem end_is (a s : Int) (h : mayB a s = true) (w : World) : Calls Try.prog 58 #[.agg #[.int .i64 (a), .int .i64 (s)]] w fun e w' => e = .returned (.int .i64 (a + s)) ∧ Ext w w' := by
  have := may_bd h
  have h2 := end_any a s w
  rw [IntWalk.wrap64_in (a + s) ⟨by omega, by omega⟩] at h2
  exact h2

set_option maxHeartbeats 2000000 in
theorem meets_any (a s c d : Int) (w : World) :
    Calls Try.prog 17 #[.agg #[.int .i64 (a), .int .i64 (s)], .agg #[.int .i64 (c), .int .i64 (d)]] w fun e w' => e = .returned (.bool (meetsB a s c d)) ∧ Ext w w' := by
  go_enter Try.func17, Try.ntmps17
  go_wp2_with fail
  have hW : Ext w ((w.alloc (.cells #[.int .i64 a, .int .i64 s] 23)).alloc (.cells #[.int .i64 c, .int .i64 d] 23)) := ((Ext.refl w).alloc _).alloc _
  have k0 := boxed w #[.int .i64 a, .int .i64 s] 23 0 (.int .i64 a) rfl
  have k1 := boxed w #[.int .i64 a, .int .i64 s] 23 1 (.int .i64 s) rfl
  have k2 := boxed (w.alloc (.cells #[.int .i64 a, .int .i64 s] 23)) #[.int .i64 c, .int .i64 d] 23 0 (.int .i64 c) rfl
  have k3 := boxed (w.alloc (.cells #[.int .i64 a, .int .i64 s] 23)) #[.int .i64 c, .int .i64 d] 23 1 (.int .i64 d) rfl
  replace k0 : ∀ w', Ext ((w.alloc (.cells #[.int .i64 a, .int .i64 s] 23)).alloc (.cells #[.int .i64 c, .int .i64 d] 23)) w' → _ := fun w' h => k0 w' (((Ext.refl _).alloc _).trans h)
  replace k1 : ∀ w', Ext ((w.alloc (.cells #[.int .i64 a, .int .i64 s] 23)).alloc (.cells #[.int .i64 c, .int .i64 d] 23)) w' → _ := fun w' h => k1 w' (((Ext.refl _).alloc _).trans h)
  simp only [World.size_alloc] at k2 k3
  generalize (w.alloc (.cells #[.int .i64 a, .int .i64 s] 23)).alloc (.cells #[.int .i64 c, .int .i64 d] 23) = W at *
  have hs0 : Ext W W := Ext.refl W
  have l0 := fun u : ExtOf W => k0 u.1 u.2
  have l1 := fun u : ExtOf W => k1 u.1 u.2
  have l2 := fun u : ExtOf W => k2 u.1 u.2
  have l3 := fun u : ExtOf W => k3 u.1 u.2
  clear k0 k1 k2 k3
  cases h1 : mayB a s
  · have H := Lib.hid (meets_no1 (c := c) (d := d) h1)
    (refine wp_region_ext (W := W) (by kernel_rfl) (by kernel_rfl) (by with_reducible assumption) ?_; (repeat (go_big_quiet_step (first | (go_at_call 13; with_reducible exact Calls.ext_of (may_is a s _ h1 _))))); refine wpQuiet_nil ?_; intro w1 hx)
    go_wp2_with fail
    go_ret
    exact ⟨ret_bool (by rw [H.out]), hW.trans (by assumption)⟩
  cases h2 : mayB c d
  · have H := Lib.hid (meets_no2 (a := a) (s := s) h2)
    (refine wp_region_ext (W := W) (by kernel_rfl) (by kernel_rfl) (by with_reducible assumption) ?_; (repeat (go_big_quiet_step (first | (go_at_call 13; with_reducible exact Calls.ext_of (may_is a s _ h1 _)) | (go_at_call 13; with_reducible exact Calls.ext_of (may_is c d _ h2 _))))); refine wpQuiet_nil ?_; intro w1 hx)
    go_wp2_with fail
    go_ret
    exact ⟨ret_bool (by rw [H.out]), hW.trans (by assumption)⟩
  have HE := Lib.hid (meets_alt h1 h2)
  obtain ⟨q1, q2, q3, q4⟩ := may_bd h1
  obtain ⟨q5, q6, q7, q8⟩ := may_bd h2
  by_cases t1 : a < c + d
  rotate_left
  · have t1' : decide (a < c + d) = false := by simpa using t1
    have H : Hid (meetsB a s c d = false) := Lib.hid (by rw [HE.out, t1']; rfl)
    (refine wp_region_ext (W := W) (by kernel_rfl) (by kernel_rfl) (by with_reducible assumption) ?_; (repeat (go_big_quiet_step (first | (go_at_call 13; with_reducible exact Calls.ext_of (may_is a s _ h1 _)) | (go_at_call 13; with_reducible exact Calls.ext_of (may_is c d _ h2 _)) | (go_at_call 58; with_reducible exact Calls.ext_of (end_is c d h2 _))))); refine wpQuiet_nil ?_; intro w1 hx)
    go_wp2_with fail
    go_ret
    exact ⟨ret_bool (by rw [H.out]), hW.trans (by assumption)⟩
  have t1' : decide (a < c + d) = true := by simpa using t1
  by_cases t2 : c < a + s
  rotate_left
  · have t2' : decide (c < a + s) = false := by simpa using t2
    have H : Hid (meetsB a s c d = false) := Lib.hid (by rw [HE.out, t1', t2']; rfl)
    (refine wp_region_ext (W := W) (by kernel_rfl) (by kernel_rfl) (by with_reducible assumption) ?_; (repeat (go_big_quiet_step (first | (go_at_call 13; with_reducible exact Calls.ext_of (may_is a s _ h1 _)) | (go_at_call 13; with_reducible exact Calls.ext_of (may_is c d _ h2 _)) | (go_at_call 58; with_reducible exact Calls.ext_of (end_is c d h2 _)) | (go_at_call 58; with_reducible exact Calls.ext_of (end_is a s h1 _))))); refine wpQuiet_nil ?_; intro w1 hx)
    go_wp2_with fail
    go_ret
    exact ⟨ret_bool (by rw [H.out]), hW.trans (by assumption)⟩
  · have t2' : decide (c < a + s) = true := by simpa using t2
    have H : Hid (meetsB a s c d = true) := Lib.hid (by rw [HE.out, t1', t2']; rfl)
    (refine wp_region_ext (W := W) (by kernel_rfl) (by kernel_rfl) (by with_reducible assumption) ?_; (repeat (go_big_quiet_step (first | (go_at_call 13; with_reducible exact Calls.ext_of (may_is a s _ h1 _)) | (go_at_call 13; with_reducible exact Calls.ext_of (may_is c d _ h2 _)) | (go_at_call 58; with_reducible exact Calls.ext_of (end_is c d h2 _)) | (go_at_call 58; with_reducible exact Calls.ext_of (end_is a s h1 _))))); refine wpQuiet_nil ?_; intro w1 hx)
    go_wp2_with fail
    go_ret
    exact ⟨ret_bool (by rw [H.out]), hW.trans (by assumption)⟩

theorem within_no1 {a s c d : Int} (h1 : mayB a s = false) : withinB a s c d = false := by unfold withinB; simp [h1]
theorem within_no2 {a s c d : Int} (h1 : mayB c d = false) : withinB a s c d = false := by unfold withinB; simp [h1]
theorem within_alt {a s c d : Int} (h1 : mayB a s = true) (h2 : mayB c d = true) : withinB a s c d = (decide (c ≤ a) && decide (a + s ≤ c + d)) := by
  unfold withinB
  rw [h1, h2, Bool.eq_iff_iff]
  simp
theorem within_ref {a s c d : Int} (h1 : mayB a s = true) (h2 : mayB c d = true) : withinB a s c d = (hasB c d a && hasB c d (a + s - 1)) := by
  have := may_bd h1
  have := may_bd h2
  unfold withinB hasB
  rw [h1, h2, Bool.eq_iff_iff]
  simp
  omega

set_option maxHeartbeats 2000000 in
theorem within_any (a s c d : Int) (w : World) :
    Calls Try.prog 19 #[.agg #[.int .i64 (a), .int .i64 (s)], .agg #[.int .i64 (c), .int .i64 (d)]] w fun e w' => e = .returned (.bool (withinB a s c d)) ∧ Ext w w' := by
  go_enter Try.func19, Try.ntmps19
  go_wp2_with fail
  have hW : Ext w ((w.alloc (.cells #[.int .i64 a, .int .i64 s] 23)).alloc (.cells #[.int .i64 c, .int .i64 d] 23)) := ((Ext.refl w).alloc _).alloc _
  have k0 := boxed w #[.int .i64 a, .int .i64 s] 23 0 (.int .i64 a) rfl
  have k1 := boxed w #[.int .i64 a, .int .i64 s] 23 1 (.int .i64 s) rfl
  have k2 := boxed (w.alloc (.cells #[.int .i64 a, .int .i64 s] 23)) #[.int .i64 c, .int .i64 d] 23 0 (.int .i64 c) rfl
  have k3 := boxed (w.alloc (.cells #[.int .i64 a, .int .i64 s] 23)) #[.int .i64 c, .int .i64 d] 23 1 (.int .i64 d) rfl
  replace k0 : ∀ w', Ext ((w.alloc (.cells #[.int .i64 a, .int .i64 s] 23)).alloc (.cells #[.int .i64 c, .int .i64 d] 23)) w' → _ := fun w' h => k0 w' (((Ext.refl _).alloc _).trans h)
  replace k1 : ∀ w', Ext ((w.alloc (.cells #[.int .i64 a, .int .i64 s] 23)).alloc (.cells #[.int .i64 c, .int .i64 d] 23)) w' → _ := fun w' h => k1 w' (((Ext.refl _).alloc _).trans h)
  simp only [World.size_alloc] at k2 k3
  generalize (w.alloc (.cells #[.int .i64 a, .int .i64 s] 23)).alloc (.cells #[.int .i64 c, .int .i64 d] 23) = W at *
  have hs0 : Ext W W := Ext.refl W
  have l0 := fun u : ExtOf W => k0 u.1 u.2
  have l1 := fun u : ExtOf W => k1 u.1 u.2
  have l2 := fun u : ExtOf W => k2 u.1 u.2
  have l3 := fun u : ExtOf W => k3 u.1 u.2
  clear k0 k1 k2 k3
  cases h1 : mayB a s
  · have H := Lib.hid (within_no1 (c := c) (d := d) h1)
    (refine wp_region_ext (W := W) (by kernel_rfl) (by kernel_rfl) (by with_reducible assumption) ?_; (repeat (go_big_quiet_step (first | (go_at_call 13; with_reducible exact Calls.ext_of (may_is a s _ h1 _))))); refine wpQuiet_nil ?_; intro w1 hx)
    go_wp2_with fail
    go_ret
    exact ⟨ret_bool (by rw [H.out]), hW.trans (by assumption)⟩
  cases h2 : mayB c d
  · have H := Lib.hid (within_no2 (a := a) (s := s) h2)
    (refine wp_region_ext (W := W) (by kernel_rfl) (by kernel_rfl) (by with_reducible assumption) ?_; (repeat (go_big_quiet_step (first | (go_at_call 13; with_reducible exact Calls.ext_of (may_is a s _ h1 _)) | (go_at_call 13; with_reducible exact Calls.ext_of (may_is c d _ h2 _))))); refine wpQuiet_nil ?_; intro w1 hx)
    go_wp2_with fail
    go_ret
    exact ⟨ret_bool (by rw [H.out]), hW.trans (by assumption)⟩
  have HE := Lib.hid (within_alt h1 h2)
  obtain ⟨q1, q2, q3, q4⟩ := may_bd h1
  obtain ⟨q5, q6, q7, q8⟩ := may_bd h2
  by_cases t1 : c ≤ a
  rotate_left
  · have t1' : decide (c ≤ a) = false := by simpa using t1
    have H : Hid (withinB a s c d = false) := Lib.hid (by rw [HE.out, t1']; rfl)
    (refine wp_region_ext (W := W) (by kernel_rfl) (by kernel_rfl) (by with_reducible assumption) ?_; (repeat (go_big_quiet_step (first | (go_at_call 13; with_reducible exact Calls.ext_of (may_is a s _ h1 _)) | (go_at_call 13; with_reducible exact Calls.ext_of (may_is c d _ h2 _))))); refine wpQuiet_nil ?_; intro w1 hx)
    go_wp2_with fail
    go_ret
    exact ⟨ret_bool (by rw [H.out]), hW.trans (by assumption)⟩
  have t1' : decide (c ≤ a) = true := by simpa using t1
  by_cases t2 : a + s ≤ c + d
  rotate_left
  · have t2' : decide (a + s ≤ c + d) = false := by simpa using t2
    have H : Hid (withinB a s c d = false) := Lib.hid (by rw [HE.out, t1', t2']; rfl)
    (refine wp_region_ext (W := W) (by kernel_rfl) (by kernel_rfl) (by with_reducible assumption) ?_; (repeat (go_big_quiet_step (first | (go_at_call 13; with_reducible exact Calls.ext_of (may_is a s _ h1 _)) | (go_at_call 13; with_reducible exact Calls.ext_of (may_is c d _ h2 _)) | (go_at_call 58; with_reducible exact Calls.ext_of (end_is c d h2 _)) | (go_at_call 58; with_reducible exact Calls.ext_of (end_is a s h1 _))))); refine wpQuiet_nil ?_; intro w1 hx)
    go_wp2_with fail
    go_ret
    exact ⟨ret_bool (by rw [H.out]), hW.trans (by assumption)⟩
  · have t2' : decide (a + s ≤ c + d) = true := by simpa using t2
    have H : Hid (withinB a s c d = true) := Lib.hid (by rw [HE.out, t1', t2']; rfl)
    (refine wp_region_ext (W := W) (by kernel_rfl) (by kernel_rfl) (by with_reducible assumption) ?_; (repeat (go_big_quiet_step (first | (go_at_call 13; with_reducible exact Calls.ext_of (may_is a s _ h1 _)) | (go_at_call 13; with_reducible exact Calls.ext_of (may_is c d _ h2 _)) | (go_at_call 58; with_reducible exact Calls.ext_of (end_is c d h2 _)) | (go_at_call 58; with_reducible exact Calls.ext_of (end_is a s h1 _))))); refine wpQuiet_nil ?_; intro w1 hx)
    go_wp2_with fail
    go_ret
    exact ⟨ret_bool (by rw [H.out]), hW.trans (by assumption)⟩

set_option maxHeartbeats 2000000 in
theorem refwithin_any (a s c d : Int) (w : World) :
    Calls Try.prog 20 #[.agg #[.int .i64 (a), .int .i64 (s)], .agg #[.int .i64 (c), .int .i64 (d)]] w fun e w' => e = .returned (.bool (withinB a s c d)) ∧ Ext w w' := by
  go_enter Try.func20, Try.ntmps20
  go_wp2_with fail
  have hW : Ext w ((w.alloc (.cells #[.int .i64 a, .int .i64 s] 23)).alloc (.cells #[.int .i64 c, .int .i64 d] 23)) := ((Ext.refl w).alloc _).alloc _
  have k0 := boxed w #[.int .i64 a, .int .i64 s] 23 0 (.int .i64 a) rfl
  have k1 := boxed w #[.int .i64 a, .int .i64 s] 23 1 (.int .i64 s) rfl
  have k2 := boxed (w.alloc (.cells #[.int .i64 a, .int .i64 s] 23)) #[.int .i64 c, .int .i64 d] 23 0 (.int .i64 c) rfl
  have k3 := boxed (w.alloc (.cells #[.int .i64 a, .int .i64 s] 23)) #[.int .i64 c, .int .i64 d] 23 1 (.int .i64 d) rfl
  replace k0 : ∀ w', Ext ((w.alloc (.cells #[.int .i64 a, .int .i64 s] 23)).alloc (.cells #[.int .i64 c, .int .i64 d] 23)) w' → _ := fun w' h => k0 w' (((Ext.refl _).alloc _).trans h)
  replace k1 : ∀ w', Ext ((w.alloc (.cells #[.int .i64 a, .int .i64 s] 23)).alloc (.cells #[.int .i64 c, .int .i64 d] 23)) w' → _ := fun w' h => k1 w' (((Ext.refl _).alloc _).trans h)
  simp only [World.size_alloc] at k2 k3
  generalize (w.alloc (.cells #[.int .i64 a, .int .i64 s] 23)).alloc (.cells #[.int .i64 c, .int .i64 d] 23) = W at *
  have hs0 : Ext W W := Ext.refl W
  have HE := Lib.hid (fun (h1 : mayB a s = true) (h2 : mayB c d = true) => within_ref h1 h2)
  have HS := Lib.hid (fun (h1 : mayB a s = true) => (by have := may_bd h1; exact ⟨IntWalk.wrap64_in _ ⟨by omega, by omega⟩, IntWalk.wrap64_in _ ⟨by omega, by omega⟩⟩ : wrap64 (a + s) = a + s ∧ wrap64 (a + s - 1) = a + s - 1))
  have HN1 := Lib.hid (@within_no1 a s c d)
  have HN2 := Lib.hid (@within_no2 a s c d)
  cases h1 : mayB a s
  · go_wp2_with (first | (go_at_call 14; refine (refmay_is a s _ h1 _).mono ?_; rintro e w1 ⟨rfl, hx0⟩; have hx := Ext.trans (a := W) (by with_reducible assumption) hx0; clear hx0))
    go_ret
    exact ⟨ret_bool (by rw [HN1.out h1]), hW.trans (by assumption)⟩
  cases h2 : mayB c d
  · go_wp2_with fail
    refine (refmay_is a s _ h1 _).mono ?_
    rintro e w1 ⟨rfl, hx⟩
    go_wp2_with fail
    refine (refmay_is c d _ h2 _).mono ?_
    rintro e w2 ⟨rfl, hx2⟩
    have hx' := hx.trans hx2
    clear hx hx2
    go_wp2_with fail
    go_ret
    exact ⟨ret_bool (by rw [HN2.out h2]), hW.trans (by assumption)⟩
  obtain ⟨s1, s2⟩ := HS.out h1
  obtain ⟨q1, q2, q3, q4⟩ := may_bd h1
  have step : ∀ b1 b2, hasB c d a = b1 → hasB c d (a + s - 1) = b2 → withinB a s c d = (b1 && b2) := fun b1 b2 e1 e2 => by rw [HE.out h1 h2, e1, e2]
  have HE := Lib.hid step
  clear step
  go_wp2_with fail
  refine (refmay_is a s _ h1 _).mono ?_
  rintro e w1 ⟨rfl, hx⟩
  go_wp2_with fail
  refine (refmay_is c d _ h2 _).mono ?_
  rintro e w2 ⟨rfl, hx2⟩
  have hx' := hx.trans hx2
  clear hx hx2 h1 h2
  go_wp2_with fail
  generalize hb1 : hasB c d a = b1
  generalize hb2 : hasB c d (a + s - 1) = b2
  have H1 := Lib.hid hb1
  have H2 := Lib.hid hb2
  clear hb1 hb2
  refine (refhas_is c d a b1 H1.out _).mono ?_
  rintro e w2 ⟨rfl, hx2⟩
  have hx := hx'.trans hx2
  clear hx' hx2
  cases b1
  · go_wp2_with fail
    go_ret
    exact ⟨ret_bool (by rw [HE.out _ _ H1.out H2.out]; rfl), hW.trans (by assumption)⟩
  · go_wp2_with fail
    refine (refhas_is c d (a + s - 1) b2 H2.out _).mono ?_
    rintro e w2 ⟨rfl, hx2⟩
    have hx' := hx.trans hx2
    clear hx hx2
    go_wp2_with fail
    go_ret
    exact ⟨ret_bool (by rw [HE.out _ _ H1.out H2.out]; rfl), hW.trans (by assumption)⟩
end Go.Proofs.Ytllcekmbcmhckaa
