/- The walk of the law BumpPlays. -/
import Derived.Test.YtbdedcgecmbalaaBumpLawA
set_option linter.unusedSimpArgs false
set_option linter.unusedVariables false
namespace Go.Proofs.Ytbdedcgecmbalaa
open Go.RowKit

/-- What holds at the head of a round. -/
def PlaysRel (W : World) (b : Nat) (a s : Int) (len : Nat) (used i : Value) (wr : World) : Prop :=
  ∃ (k : Nat) (u : Int), k ≤ len ∧ i = .int .i64 k ∧ used = .int .i64 u ∧ 0 ≤ u ∧ u ≤ s ∧ BumpAt wr b a s u ∧ Only b W wr

set_option maxRecDepth 100000 in
set_option maxHeartbeats 4000000 in
theorem bumpPlays_any (a s : Int) (A : Option Addr) (cap : Nat) (zs : List Int) (w : World) (hlen : zs.length ≤ 9223372036854775807)
    (hzs : ∀ z ∈ zs, -9223372036854775808 ≤ z ∧ z ≤ 9223372036854775807) (hl : IntsAt w A zs) :
    Calls Try.prog 4 #[.agg #[.int .i64 (a), .int .i64 (s)], .slice A zs.length cap] w fun e w' => e = .returned (.bool true) ∧ Ext w w' := by
  have HL := Lib.hid hl
  have HZ := Lib.hid hzs
  clear hl hzs
  by_cases hg : 100 < zs.length
  · go_enter Try.func4, Try.ntmps4
    go_wp2_with (go_at_call 22; refine (awake05_any _).mono ?_; rintro e w1 ⟨rfl, hx⟩; obtain ⟨hcc, hff, hzz⟩ := ecell hx; (try simp only [World.size_alloc] at hzz); (try (have hz0 := Nat.lt_of_succ_le hzz)); (try (have hz1 := Nat.lt_of_succ_lt hz0)); (try (have hz2 := Nat.lt_of_succ_lt hz1)); (try (have hz3 := Nat.lt_of_succ_lt hz2)))
    go_ret
    exact ⟨rfl, (by repeat (first | (with_reducible exact Ext.refl _) | (with_reducible assumption) | (with_reducible refine Ext.drew ?_) | (with_reducible refine Ext.alloc ?_ _) | ((with_reducible refine Ext.setCell ?_ ?_ _); rotate_left; (focus (simp; try omega))) | (with_reducible refine Ext.trans ?_ (by assumption))))⟩
  by_cases hb : mayB a s = true
  rotate_left
  · have hb' : mayB a s = false := by simpa using hb
    go_enter Try.func4, Try.ntmps4
    go_wp2_with (first | (go_at_call 23; refine (new_no _ _ _ hb').mono ?_; rintro e w1 ⟨rfl, hx⟩; obtain ⟨hcc, hff, hzz⟩ := ecell hx; (try simp only [World.size_alloc] at hzz); (try (have hz0 := Nat.lt_of_succ_le hzz)); (try (have hz1 := Nat.lt_of_succ_lt hz0)); (try (have hz2 := Nat.lt_of_succ_lt hz1)); (try (have hz3 := Nat.lt_of_succ_lt hz2))) | (go_at_call 24; refine (refmay_any _ _ _).mono ?_; rintro e w1 ⟨rfl, hx⟩; obtain ⟨hcc, hff, hzz⟩ := ecell hx; (try simp only [World.size_alloc] at hzz); (try (have hz0 := Nat.lt_of_succ_le hzz)); (try (have hz1 := Nat.lt_of_succ_lt hz0)); (try (have hz2 := Nat.lt_of_succ_lt hz1)); (try (have hz3 := Nat.lt_of_succ_lt hz2))) | (go_at_call 22; refine (awake05_any _).mono ?_; rintro e w1 ⟨rfl, hx⟩; obtain ⟨hcc, hff, hzz⟩ := ecell hx; (try simp only [World.size_alloc] at hzz); (try (have hz0 := Nat.lt_of_succ_le hzz)); (try (have hz1 := Nat.lt_of_succ_lt hz0)); (try (have hz2 := Nat.lt_of_succ_lt hz1)); (try (have hz3 := Nat.lt_of_succ_lt hz2))))
    go_ret
    exact ⟨rfl, (by repeat (first | (with_reducible exact Ext.refl _) | (with_reducible assumption) | (with_reducible refine Ext.drew ?_) | (with_reducible refine Ext.alloc ?_ _) | ((with_reducible refine Ext.setCell ?_ ?_ _); rotate_left; (focus (simp; try omega))) | (with_reducible refine Ext.trans ?_ (by assumption))))⟩
  obtain ⟨h1, h2, h3, h5⟩ := may_bd hb
  replace h5 : s ≤ 1099511627776 := by omega
  go_enter Try.func4, Try.ntmps4
  go_wp2_with fail
  have hW0 : Ext w (w.alloc (.cells #[.int .i64 a, .int .i64 s] 27)) := (Ext.refl w).alloc _
  have k0 := boxed w #[.int .i64 a, .int .i64 s] 27 0 _ rfl
  have k1 := boxed w #[.int .i64 a, .int .i64 s] 27 1 _ rfl
  have hsz : w.heap.size < (w.alloc (.cells #[.int .i64 a, .int .i64 s] 27)).heap.size := by simp
  generalize w.alloc (.cells #[.int .i64 a, .int .i64 s] 27) = W0 at *
  refine (new_ok a s _ hb).mono ?_
  rintro e W ⟨b, rfl, hlo, hhi, hba, hx⟩
  have hbne : w.heap.size ≠ b := by omega
  have K0 := Lib.hid (k0 _ hx)
  have K1 := Lib.hid (k1 _ hx)
  have hX : Ext w W := hW0.trans hx
  have hwb : w.heap.size ≤ b := by omega
  clear k0 k1 hsz hlo hhi
  have c0 : ∀ w', Only b W w' → w'.cell? ⟨w.heap.size, 0, none⟩ = some (.int .i64 a) := fun w' h => h.cell K0.out hbne
  have c1 : ∀ w', Only b W w' → w'.cell? ⟨w.heap.size, 1, none⟩ = some (.int .i64 s) := fun w' h => h.cell K1.out hbne
  have HX := Lib.hid hX
  have HB := Lib.hid hba
  clear hX hba hx hW0 K0 K1
  have hs0 : Only b W W := Only.refl _ _
  go_wp2_with fail
  refine (refmay_any _ _ _).mono ?_
  rintro e w1 ⟨rfl, hx1⟩
  have ho1 : Only b W w1 := Only.of_ext hx1
  have HB1 := Lib.hid (HB.out.ext hx1)
  clear hx1 hs0
  go_wp2_with fail
  go_loopw [7, 8] (fun used i wr => PlaysRel W b a s zs.length used i wr) (fun _ i _ => zs.length - (intOf i).toNat)
  case atStart => exact ⟨0, 0, by omega, rfl, rfl, by omega, by omega, HB1.out, ho1⟩
  case round =>
    obtain ⟨k, u, hk, rfl, rfl, q3, q4, hbr, hor⟩ := hrel
    replace HB := Lib.hid hbr
    clear hbr ho1 HB1
    by_cases hlt : k < zs.length
    rotate_left
    · go_wp2_with (go_at_call 22; refine (awake05_any _).mono ?_; rintro e w2 ⟨rfl, hx2⟩)
      go_ret
      exact ⟨rfl, Ext.trans (hor.ext HX.out hwb) hx2⟩
    have hz := HZ.out (zs.getD k 0) (by simp [hlt])
    obtain ⟨lb, off, rfl, hc⟩ := HL.out.get (by omega)
    have hlb : lb ≠ b := by
      have := ints_cell hc hlt
      intro e
      subst e
      have hlow : lb < w.heap.size := by
        rcases Nat.lt_or_ge lb w.heap.size with h | h
        · exact h
        · simp [World.cell?, Array.getElem?_eq_none h] at this
      omega
    have KC := Lib.hid (HX.out.cell (ints_cell hc hlt))
    have cl : ∀ w', Only b W w' → w'.cell? ⟨lb, off + k, none⟩ = some (.int .i64 (zs.getD k 0)) := fun w' h => h.cell KC.out hlb
    clear hc KC HL
    generalize zs.getD k 0 = z at *
    by_cases hn : z < 0
    · by_cases hn2 : -1099511627776 ≤ z
      · by_cases hn3 : a ≤ a + u + z
        · have hm : a + u + z - a = u + z := by omega
          have HM := Lib.hid hm
          clear hm
          go_wp2_with fail
          refine (back_ok _ b a s u (a + u + z) HB.out h1 h2 q3 q4 h5 (by omega) (by omega)).mono ?_
          rintro e w2 ⟨rfl, hb2, ho2⟩
          replace HB := Lib.hid hb2
          replace ho2 := hor.trans ho2
          clear hb2
          clear hor
          go_wp2_with fail
          go_quiet (first | (go_at_call 27; exact Calls.quiet_of (used_at _ b a s (a + u + z - a) (by exact HB.out) h1 h2 (by omega) (by omega) h5)) | (go_at_call 28; exact Calls.quiet_of (top_at _ b a s (a + u + z - a) (by exact HB.out) h1 h2 (by omega) (by omega) h5)) | (go_at_call 29; exact Calls.quiet_of (room_at _ b a s (a + u + z - a) (by exact HB.out) h1 h2 (by omega) (by omega) h5)))
          go_wp2
          go_roundw
          case rel => exact ⟨k + 1, a + u + z - a, by omega, by go_num, by first | rfl | go_num, by omega, by omega, HB.out, ho2.drewN _⟩
          case measure => simp [intOf]; omega
        · have hm : a + u + z < a := by omega
          go_wp2_with fail
          refine (back_place _ b a s u (a + u + z) HB.out h1 h2 q3 q4 h5 (by omega)).mono ?_
          rintro e w2 ⟨rfl, hq⟩
          replace HB := Lib.hid (HB.out.quiet hq)
          have ho2 := hor.trans (hq.only b)
          clear hq
          clear hor
          go_wp2_with fail
          go_quiet (first | (go_at_call 27; exact Calls.quiet_of (used_at _ b a s (u) (by exact HB.out) h1 h2 (by omega) (by omega) h5)) | (go_at_call 28; exact Calls.quiet_of (top_at _ b a s (u) (by exact HB.out) h1 h2 (by omega) (by omega) h5)) | (go_at_call 29; exact Calls.quiet_of (room_at _ b a s (u) (by exact HB.out) h1 h2 (by omega) (by omega) h5)))
          go_wp2
          go_roundw
          case rel => exact ⟨k + 1, u, by omega, by go_num, by first | rfl | go_num, by omega, by omega, HB.out, ho2.drewN _⟩
          case measure => simp [intOf]; omega
      · by_cases hn3 : a ≤ 0
        · obtain rfl : a = 0 := by omega
          go_wp2_with fail
          refine (back_ok _ b 0 s u 0 HB.out h1 h2 q3 q4 h5 (by omega) (by omega)).mono ?_
          rintro e w2 ⟨rfl, hb2, ho2⟩
          replace HB := Lib.hid hb2
          replace ho2 := hor.trans ho2
          clear hb2
          clear hor
          go_wp2_with fail
          go_quiet (first | (go_at_call 27; exact Calls.quiet_of (used_at _ b 0 s (0 - 0) (by exact HB.out) h1 h2 (by omega) (by omega) h5)) | (go_at_call 28; exact Calls.quiet_of (top_at _ b 0 s (0 - 0) (by exact HB.out) h1 h2 (by omega) (by omega) h5)) | (go_at_call 29; exact Calls.quiet_of (room_at _ b 0 s (0 - 0) (by exact HB.out) h1 h2 (by omega) (by omega) h5)))
          go_wp2
          go_roundw
          case rel => exact ⟨k + 1, 0 - 0, by omega, by go_num, by first | rfl | go_num, by omega, by omega, HB.out, ho2.drewN _⟩
          case measure => simp [intOf]; omega
        · have hm : 0 < a := by omega
          go_wp2_with fail
          refine (back_place _ b a s u 0 HB.out h1 h2 q3 q4 h5 (by omega)).mono ?_
          rintro e w2 ⟨rfl, hq⟩
          replace HB := Lib.hid (HB.out.quiet hq)
          have ho2 := hor.trans (hq.only b)
          clear hq
          clear hor
          go_wp2_with fail
          go_quiet (first | (go_at_call 27; exact Calls.quiet_of (used_at _ b a s (u) (by exact HB.out) h1 h2 (by omega) (by omega) h5)) | (go_at_call 28; exact Calls.quiet_of (top_at _ b a s (u) (by exact HB.out) h1 h2 (by omega) (by omega) h5)) | (go_at_call 29; exact Calls.quiet_of (room_at _ b a s (u) (by exact HB.out) h1 h2 (by omega) (by omega) h5)))
          go_wp2
          go_roundw
          case rel => exact ⟨k + 1, u, by omega, by go_num, by first | rfl | go_num, by omega, by omega, HB.out, ho2.drewN _⟩
          case measure => simp [intOf]; omega
    · have hn' : 0 ≤ z := by omega
      by_cases hn2 : z = 0
      · subst hn2
        go_wp2_with fail
        refine (take_size _ b a s u 0 HB.out h1 h2 q3 q4 h5 (by omega)).mono ?_
        rintro e w2 ⟨rfl, hq⟩
        replace HB := Lib.hid (HB.out.quiet hq)
        have ho2 := hor.trans (hq.only b)
        clear hq
        clear hor
        go_wp2_with fail
        go_quiet (first | (go_at_call 27; exact Calls.quiet_of (used_at _ b a s (u) (by exact HB.out) h1 h2 (by omega) (by omega) h5)) | (go_at_call 28; exact Calls.quiet_of (top_at _ b a s (u) (by exact HB.out) h1 h2 (by omega) (by omega) h5)) | (go_at_call 29; exact Calls.quiet_of (room_at _ b a s (u) (by exact HB.out) h1 h2 (by omega) (by omega) h5)))
        go_wp2
        go_roundw
        case rel => exact ⟨k + 1, u, by omega, by go_num, by first | rfl | go_num, by omega, by omega, HB.out, ho2.drewN _⟩
        case measure => simp [intOf]; omega
      · have hn3 : 1 ≤ z := by omega
        have hn4 : (z == 0) = false := by simpa using hn2
        by_cases hn5 : z ≤ s - u
        · go_wp2_with fail
          refine (take_ok _ b a s u z HB.out h1 h2 q3 q4 h5 (by omega) (by omega)).mono ?_
          rintro e w2 ⟨rfl, hb2, ho2⟩
          replace HB := Lib.hid hb2
          replace ho2 := hor.trans ho2
          clear hb2
          clear hor
          go_wp2_with fail
          go_quiet (first | (go_at_call 27; exact Calls.quiet_of (used_at _ b a s (u + z) (by exact HB.out) h1 h2 (by omega) (by omega) h5)) | (go_at_call 28; exact Calls.quiet_of (top_at _ b a s (u + z) (by exact HB.out) h1 h2 (by omega) (by omega) h5)) | (go_at_call 29; exact Calls.quiet_of (room_at _ b a s (u + z) (by exact HB.out) h1 h2 (by omega) (by omega) h5)))
          go_wp2
          go_roundw
          case rel => exact ⟨k + 1, u + z, by omega, by go_num, by first | rfl | go_num, by omega, by omega, HB.out, ho2.drewN _⟩
          case measure => simp [intOf]; omega
        · have hn6 : s - u < z := by omega
          go_wp2_with fail
          refine (take_memory _ b a s u z HB.out h1 h2 q3 q4 h5 (by omega) (by omega)).mono ?_
          rintro e w2 ⟨rfl, hq⟩
          replace HB := Lib.hid (HB.out.quiet hq)
          have ho2 := hor.trans (hq.only b)
          clear hq
          clear hor
          go_wp2_with fail
          go_quiet (first | (go_at_call 27; exact Calls.quiet_of (used_at _ b a s (u) (by exact HB.out) h1 h2 (by omega) (by omega) h5)) | (go_at_call 28; exact Calls.quiet_of (top_at _ b a s (u) (by exact HB.out) h1 h2 (by omega) (by omega) h5)) | (go_at_call 29; exact Calls.quiet_of (room_at _ b a s (u) (by exact HB.out) h1 h2 (by omega) (by omega) h5)))
          go_wp2
          go_roundw
          case rel => exact ⟨k + 1, u, by omega, by go_num, by first | rfl | go_num, by omega, by omega, HB.out, ho2.drewN _⟩
          case measure => simp [intOf]; omega

theorem bumpPlays_fin {v0 v1 : Value} {w : World} (h0 : ∃ a s : Int, v0 = .agg #[.int .i64 (a), .int .i64 (s)] ∧ (-9223372036854775808 ≤ a ∧ a ≤ 9223372036854775807) ∧ (-9223372036854775808 ≤ s ∧ s ≤ 9223372036854775807))
    (h1 : ∃ (A : Option Addr) (cap : Nat) (zs : List Int), v1 = .slice A zs.length cap ∧ zs.length ≤ 9223372036854775807 ∧ (∀ z ∈ zs, -9223372036854775808 ≤ z ∧ z ≤ 9223372036854775807) ∧ IntsAt w A zs) :
    Calls Try.prog 4 #[v0, v1] w fun e w' => e = .returned (.bool true) ∧ Ext w w' := by
  obtain ⟨a, s, rfl, _, _⟩ := h0
  obtain ⟨A, cap, zs, rfl, h2, h3, h4⟩ := h1
  exact bumpPlays_any a s A cap zs w h2 h3 h4
end Go.Proofs.Ytbdedcgecmbalaa
