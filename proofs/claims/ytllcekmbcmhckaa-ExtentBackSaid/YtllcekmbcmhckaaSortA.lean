/- The walks of span.by and of the functions of cmp that it calls. -/
import Derived.Test.YtllcekmbcmhckaaRef03B
import Derived.Test.YtllcekmbcmhckaaSpanSpec
set_option linter.unusedSimpArgs false
set_option linter.unusedVariables false
namespace Go.Proofs.Ytllcekmbcmhckaa
open Go.RowKit

def cmpZ (a b : Int) : Int := if a < b then -1 else if b < a then 1 else 0
def orZ (p q : Int) : Int := if p = 0 then q else p
def byZ (x y : Int × Int) : Int := orZ (cmpZ x.1 y.1) (cmpZ x.2 y.2)
theorem cmpZ_neg {a b : Int} : cmpZ a b < 0 ↔ a < b := by unfold cmpZ; split <;> (try split) <;> omega
theorem byZ_neg {x y : Int × Int} : byZ x y < 0 ↔ leS y x = false := by
  rw [Bool.eq_false_iff, ne_eq, leS_iff]
  unfold byZ orZ cmpZ
  (repeat' split) <;> omega
theorem byZ_bd (x y : Int × Int) : -1 ≤ byZ x y ∧ byZ x y ≤ 1 := by
  unfold byZ orZ cmpZ
  (repeat' split) <;> omega

set_option maxHeartbeats 400000 in
theorem isnan_any (a : Int) (w : World) : Calls Try.prog 87 #[.int .i64 a] w fun e w' => e = .returned (.bool false) ∧ Ext w w' := by
  go_enter Try.func87, Try.ntmps87
  go_wp2
  go_ret
  exact ⟨by simp, (by repeat (first | (with_reducible exact Ext.refl _) | (with_reducible assumption) | (with_reducible refine Ext.drew ?_) | (with_reducible refine Ext.alloc ?_ _) | ((with_reducible refine Ext.setCell ?_ ?_ _); rotate_left; (focus (simp; try omega))) | (with_reducible refine Ext.trans ?_ (by assumption))))⟩
set_option maxHeartbeats 400000 in
theorem compare_any (a b : Int) (W : World) : Calls Try.prog 81 #[.int .i64 a, .int .i64 b] W fun e w' => e = .returned (.int .i64 (cmpZ a b)) ∧ Ext W w' := by
  have hs0 : Ext W W := Ext.refl W
  by_cases h1 : a < b
  · go_enter Try.func81, Try.ntmps81
    go_wp2_with (go_at_call 87; refine (isnan_any _ _).mono ?_; rintro e w1 ⟨rfl, hx0⟩; have hx := Ext.trans (a := W) (by with_reducible assumption) hx0; clear hx0)
    go_ret
    exact ⟨ret_int (by unfold cmpZ; rw [if_pos h1]), by assumption⟩
  · by_cases h2 : b < a
    · go_enter Try.func81, Try.ntmps81
      go_wp2_with (go_at_call 87; refine (isnan_any _ _).mono ?_; rintro e w1 ⟨rfl, hx0⟩; have hx := Ext.trans (a := W) (by with_reducible assumption) hx0; clear hx0)
      go_ret
      exact ⟨ret_int (by unfold cmpZ; rw [if_neg (by omega), if_pos h2]), by assumption⟩
    · go_enter Try.func81, Try.ntmps81
      go_wp2_with (go_at_call 87; refine (isnan_any _ _).mono ?_; rintro e w1 ⟨rfl, hx0⟩; have hx := Ext.trans (a := W) (by with_reducible assumption) hx0; clear hx0)
      go_ret
      exact ⟨ret_int (by unfold cmpZ; rw [if_neg (by omega), if_neg (by omega)]), by assumption⟩

set_option maxHeartbeats 400000 in
theorem or_any (p q : Int) (b off c : Nat) (W : World) (h0 : W.cell? ⟨b, off, none⟩ = some (.int .i64 p)) (h1 : W.cell? ⟨b, off + 1, none⟩ = some (.int .i64 q)) :
    Calls Try.prog 80 #[.slice (some ⟨b, off, none⟩) 2 c] W fun e w' => e = .returned (.int .i64 (orZ p q)) ∧ Ext W w' := by
  by_cases hp : p = 0
  · subst hp
    by_cases hq : q = 0
    · subst hq
      go_enter Try.func80, Try.ntmps80
      go_wp2_with fail
      refine wp_loop_rounds 3 ?_
      rw [rounds_succ]
      go_wp2_with fail
      rw [rounds_succ]
      go_wp2_with fail
      rw [rounds_succ]
      go_wp2_with fail
      go_ret
      exact ⟨ret_int (by simp [orZ]), Ext.refl _⟩
    · have hq1 : (q != 0) = true := by simpa using hq
      have HQ := Lib.hid hq
      clear hq
      go_enter Try.func80, Try.ntmps80
      go_wp2_with fail
      refine wp_loop_rounds 2 ?_
      rw [rounds_succ]
      go_wp2_with fail
      rw [rounds_succ]
      go_wp2_with fail
      go_ret
      exact ⟨ret_int (by simp [orZ]), Ext.refl _⟩
  · have hq1 : (p != 0) = true := by simpa using hp
    have HQ := Lib.hid hp
    clear hp
    go_enter Try.func80, Try.ntmps80
    go_wp2_with fail
    refine wp_loop_rounds 1 ?_
    rw [rounds_succ]
    go_wp2_with fail
    go_ret
    exact ⟨ret_int (by unfold orZ; rw [if_neg HQ.out]), Ext.refl _⟩

set_option maxRecDepth 100000 in
set_option maxHeartbeats 1000000 in
theorem by_any (x y : Int × Int) (w : World) :
    Calls Try.prog 61 #[.agg #[.int .i64 (x.1), .int .i64 (x.2)], .agg #[.int .i64 (y.1), .int .i64 (y.2)]] w fun e w' => e = .returned (.int .i64 (byZ x y)) ∧ Ext w w' := by
  obtain ⟨a, s⟩ := x
  obtain ⟨c, d⟩ := y
  show Calls Try.prog 61 #[.agg #[.int .i64 (a), .int .i64 (s)], .agg #[.int .i64 (c), .int .i64 (d)]] w fun e w' => e = .returned (.int .i64 (orZ (cmpZ a c) (cmpZ s d))) ∧ Ext w w'
  go_enter Try.func61, Try.ntmps61
  go_wp2_with fail
  have hW : Ext w ((w.alloc (.cells #[.int .i64 a, .int .i64 s] 23)).alloc (.cells #[.int .i64 c, .int .i64 d] 23)) := ((Ext.refl w).alloc _).alloc _
  have k0 := boxed w #[.int .i64 a, .int .i64 s] 23 0 _ rfl
  have k1 := boxed w #[.int .i64 a, .int .i64 s] 23 1 _ rfl
  have k2 := boxed (w.alloc (.cells #[.int .i64 a, .int .i64 s] 23)) #[.int .i64 c, .int .i64 d] 23 0 _ rfl
  have k3 := boxed (w.alloc (.cells #[.int .i64 a, .int .i64 s] 23)) #[.int .i64 c, .int .i64 d] 23 1 _ rfl
  replace k0 : ∀ w', Ext ((w.alloc (.cells #[.int .i64 a, .int .i64 s] 23)).alloc (.cells #[.int .i64 c, .int .i64 d] 23)) w' → _ := fun w' h => k0 w' (((Ext.refl _).alloc _).trans h)
  replace k1 : ∀ w', Ext ((w.alloc (.cells #[.int .i64 a, .int .i64 s] 23)).alloc (.cells #[.int .i64 c, .int .i64 d] 23)) w' → _ := fun w' h => k1 w' (((Ext.refl _).alloc _).trans h)
  simp only [World.size_alloc] at k2 k3
  generalize (w.alloc (.cells #[.int .i64 a, .int .i64 s] 23)).alloc (.cells #[.int .i64 c, .int .i64 d] 23) = W at *
  have hs0 : Ext W W := Ext.refl W
  go_region_held3 (fun w1 => Ext W w1) (first | (with_reducible assumption) | (exact Ext.drew (by with_reducible assumption)) | (with_reducible exact Ext.drew (Ext.alloc (by with_reducible assumption) _)) | (with_reducible exact Ext.alloc (by with_reducible assumption) _) | (exact Ext.trans (by with_reducible assumption) (by with_reducible assumption))) (first
    | (go_at_call 81; refine (compare_any _ _ _).mono ?_; rintro e w1 ⟨rfl, hx⟩)
    | (go_at_call 80; refine Calls.mono (or_any (cmpZ a c) (cmpZ s d) _ _ _ _ (by simp) (by simp)) ?_; rintro e w1 ⟨rfl, hx⟩))
  go_wp2
  go_ret
  exact ⟨rfl, hW.trans (by assumption)⟩
end Go.Proofs.Ytllcekmbcmhckaa
