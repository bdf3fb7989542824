/- Merged by program (merge.py) out of: Law03B, ExtF. -/
import Derived.Test.YtllcekmbcmhckaaMg15
/- The walks of the laws SpanTells and SpanGaps. -/
set_option linter.unusedSimpArgs false
set_option linter.unusedVariables false
namespace Go.Proofs.Ytllcekmbcmhckaa
open Go.RowKit

set_option maxRecDepth 100000 in
set_option maxHeartbeats 4000000 in
theorem spanTells_any (a s c d p : Int) (w : World) : Calls Try.prog 3 #[.agg #[.int .i64 (a), .int .i64 (s)], .agg #[.int .i64 (c), .int .i64 (d)], .int .i64 p] w fun e w' => e = .returned (.bool true) ∧ Ext w w' := by
  go_enter Try.func3, Try.ntmps3
  go_wp2_with fail
  have hW : Ext w ((w.alloc (.cells #[.int .i64 a, .int .i64 s] 23)).alloc (.cells #[.int .i64 c, .int .i64 d] 23)) := ((Ext.refl w).alloc _).alloc _
  have k0 := boxed w #[.int .i64 a, .int .i64 s] 23 0 (.int .i64 a) rfl
  have k1 := boxed w #[.int .i64 a, .int .i64 s] 23 1 (.int .i64 s) rfl
  have k2 := boxed (w.alloc (.cells #[.int .i64 a, .int .i64 s] 23)) #[.int .i64 c, .int .i64 d] 23 0 (.int .i64 c) rfl
  have k3 := boxed (w.alloc (.cells #[.int .i64 a, .int .i64 s] 23)) #[.int .i64 c, .int .i64 d] 23 1 (.int .i64 d) rfl
  replace k0 : ∀ w', Ext ((w.alloc (.cells #[.int .i64 a, .int .i64 s] 23)).alloc (.cells #[.int .i64 c, .int .i64 d] 23)) w' → _ := fun w' h => k0 w' (((Ext.refl _).alloc _).trans h)
  replace k1 : ∀ w', Ext ((w.alloc (.cells #[.int .i64 a, .int .i64 s] 23)).alloc (.cells #[.int .i64 c, .int .i64 d] 23)) w' → _ := fun w' h => k1 w' (((Ext.refl _).alloc _).trans h)
  simp only [World.size_alloc] at k2 k3
  generalize (w.alloc (.cells #[.int .i64 a, .int .i64 s] 23)).alloc (.cells #[.int .i64 c, .int .i64 d] 23) = W at *
  have hs0 : Ext W W := Ext.refl W
  have l0 := fun u : ExtOf W => k0 u.1 u.2
  have l1 := fun u : ExtOf W => k1 u.1 u.2
  have l2 := fun u : ExtOf W => k2 u.1 u.2
  have l3 := fun u : ExtOf W => k3 u.1 u.2
  clear k0 k1 k2 k3
  (refine wp_region_ext (W := W) (by kernel_rfl) (by kernel_rfl) (by with_reducible assumption) ?_; (repeat (go_big_quiet_step (first | (go_at_call 13; with_reducible exact Calls.ext_of (may_any a s _)) | (go_at_call 14; with_reducible exact Calls.ext_of (refmay_any a s _)) | (go_at_call 15; with_reducible exact Calls.ext_of (has_any a s p _)) | (go_at_call 16; with_reducible exact Calls.ext_of (refhas_any a s p _)) | (go_at_call 17; with_reducible exact Calls.ext_of (meets_any a s c d _)) | (go_at_call 18; with_reducible exact Calls.ext_of (refmeets_any a s c d _)) | (go_at_call 19; with_reducible exact Calls.ext_of (within_any a s c d _)) | (go_at_call 20; with_reducible exact Calls.ext_of (refwithin_any a s c d _)) | (go_at_call 21; with_reducible exact Calls.ext_of (awake03_any _))))); refine wpQuiet_nil ?_; intro w1 hx)
  go_wp2_with fail
  go_ret
  exact ⟨rfl, hW.trans hx⟩

theorem refsame_is (A A2 : Option Addr) (cap cap2 : Nat) (xs ys : List (Int × Int)) (n m : Nat) (b : Bool) (W : World) (hn : xs.length = n) (hm : ys.length = m) (hb : decide (xs = ys) = b) (hlen : n ≤ 1000000) (hlen2 : m ≤ 1000000) (hl : SpansAt W A xs) (hl2 : SpansAt W A2 ys) :
    Calls Try.prog 22 #[.slice A n cap, .slice A2 m cap2] W fun e w' => e = .returned (.bool b) ∧ Ext W w' := by
  subst hn hm hb
  exact refsame_any A A2 cap cap2 xs ys W (by omega) (by omega) hl hl2
/-- What is left has not many pieces. -/
theorem gaps_len {a s : Int} {xs zs : List (Int × Int)} (h : GapsOf a s xs zs) : zs.length ≤ xs.length + 1 := by
  by_cases hm : mayB a s = true
  rotate_left
  · have : zs = [] := by
      cases zs with
      | nil => rfl
      | cons z zs =>
        have h1 := h.pos z (by simp)
        have := ((h.mem z.1).1 ⟨z, by simp, by omega, by omega⟩).1
        unfold hasB at this
        simp [hm] at this
    subst this; simp
  have hj := join_canon xs
  -- the joined spans that begin ahead of the end
  obtain ⟨pre, h1, h2, h3⟩ : ∃ pre, pre <+: joinL xs ∧ (∀ x ∈ pre, x.1 < a + s) ∧ (pre = joinL xs ∨ ∃ x, pre ++ [x] <+: joinL xs ∧ a + s ≤ x.1) := by
    suffices ∀ l : List (Int × Int), ∃ pre, pre <+: l ∧ (∀ x ∈ pre, x.1 < a + s) ∧ (pre = l ∨ ∃ x, pre ++ [x] <+: l ∧ a + s ≤ x.1) from this _
    intro l
    induction l with
    | nil => exact ⟨[], List.prefix_refl _, by simp, .inl rfl⟩
    | cons y l ih =>
      by_cases hy : y.1 < a + s
      · obtain ⟨pre, h1, h2, h3⟩ := ih
        refine ⟨y :: pre, by simpa using h1, fun x hx => ?_, ?_⟩
        · rw [List.mem_cons] at hx
          rcases hx with rfl | hx
          · exact hy
          · exact h2 x hx
        · rcases h3 with rfl | ⟨x, hx, hx2⟩
          · exact .inl rfl
          · exact .inr ⟨x, by simpa using hx, hx2⟩
      · exact ⟨[], List.nil_prefix, by simp, .inr ⟨y, by simp, by omega⟩⟩
  have hg := gaps_all hm hj h1 h2 h3
  have e := Canon.unique h hg
  rw [e]
  have h4 := foldG_len a pre
  have h5 := h1.length_le
  have h6 := joinL_length xs
  unfold restG
  split <;> simp <;> omega

set_option maxRecDepth 100000 in
set_option maxHeartbeats 4000000 in
theorem spanGaps_any (a s : Int) (A : Option Addr) (cap : Nat) (xs : List (Int × Int)) (w : World) (hA : A = none → cap = 0) (hlen : xs.length ≤ 9223372036854775807) (hl : SpansAt w A xs) :
    Calls Try.prog 5 #[.agg #[.int .i64 (a), .int .i64 (s)], .slice A xs.length cap] w fun e w' => e = .returned (.bool true) ∧ Ext w w' := by
  by_cases hbig : 100 < xs.length
  · have h1 : decide ((100 : Int) < (xs.length : Int)) = true := by simp; omega
    go_enter Try.func5, Try.ntmps5
    go_wp2_with fail
    refine (awake03_any _).mono ?_
    rintro e w1 ⟨rfl, hx⟩
    have hx2 := ((Ext.refl w).alloc (.cells #[.int .i64 a, .int .i64 s] 23)).trans hx
    clear hx
    go_wp2_with fail
    go_ret
    exact ⟨rfl, hx2⟩
  · have h1 : decide ((100 : Int) < (xs.length : Int)) = false := by simp; omega
    have HL := Lib.hid hl
    clear hl
    go_enter Try.func5, Try.ntmps5
    go_wp2_with fail
    have hW : Ext w (w.alloc (.cells #[.int .i64 a, .int .i64 s] 23)) := (Ext.refl w).alloc _
    have k0 := boxed w #[.int .i64 a, .int .i64 s] 23 0 (.int .i64 a) rfl
    have k1 := boxed w #[.int .i64 a, .int .i64 s] 23 1 (.int .i64 s) rfl
    generalize w.alloc (.cells #[.int .i64 a, .int .i64 s] 23) = W at *
    have hs0 : Ext W W := Ext.refl W
    have l0 := fun u : ExtOf W => k0 u.1 u.2
    have l1 := fun u : ExtOf W => k1 u.1 u.2
    clear k0 k1
    (refine wp_region_seg (W := W) [([(0, true), (1, true), (3, true), (4, true)], 2), ([], 5)] [(6, false), (7, true), (8, false), (9, true), (10, true)] [] (by kernel_rfl) (by kernel_rfl) (by intro c a d v w h; cases d <;> exact h) (by with_reducible assumption) ?_; simp only [opsOf, List.map_cons, List.map_nil, List.getD_cons_zero, List.getD_cons_succ])
    ((first | refine seg_cons ?_ | refine seg_last ?_); (repeat (go_big_quiet_step (fail))); refine wpQuiet_nil ?_; intro w1 hx)
    (refine seg_step ?_ ?_; (focus rfl); intro K hK; go_simp)
    refine (gaps_any a s A cap xs _ (by omega) (HL.out.ext (hW.trans hx))).mono ?_
    rintro e W2 ⟨zs, hg, hret⟩
    obtain ⟨A2, cap2, rfl, hz, hx2⟩ := hret.open
    refine hK W2 _ _ (hx.trans hx2) (Ext.refl _) ?_
    have hs2 := hx.trans hx2
    have hzl := gaps_len hg
    clear hK K hx hx2 hret l0 l1
    ((first | refine seg_cons ?_ | refine seg_last ?_); (repeat (go_big_quiet_step (fail))); refine wpQuiet_nil ?_; intro w1 hx)
    (refine seg_step ?_ ?_; (focus rfl); intro K hK; go_simp)
    refine (refgaps_any a s A cap xs _ hA (by omega) (HL.out.ext (hW.trans (hs2.trans hx)))).mono ?_
    rintro e W3 ⟨ys, hg3, hret⟩
    obtain ⟨A3, cap3, rfl, hy, hx3⟩ := hret.open
    obtain rfl := Canon.unique hg3 hg
    refine hK W3 _ _ (hx.trans hx3) (Ext.refl _) ?_
    have hs3 := hs2.trans (hx.trans hx3)
    have HZ : Hid (∀ u : ExtOf W3, SpansAt u.1 A2 ys) := Lib.hid fun u => hz.ext (hx.trans (hx3.trans u.2))
    have HY : Hid (∀ u : ExtOf W3, SpansAt u.1 A3 ys) := Lib.hid fun u => hy.ext u.2
    clear hK K hx hx3 hret hz hy
    ((first | refine seg_cons ?_ | refine seg_last ?_); (repeat (go_big_quiet_step (first | (go_at_call 22; with_reducible exact Calls.ext_of (refsame_is A2 A3 cap2 cap3 ys ys _ _ true _ rfl rfl (by simp) (by omega) (by omega) (HZ.out _) (HY.out _))) | (go_at_call 21; with_reducible exact Calls.ext_of (awake03_any _))))); refine wpQuiet_nil ?_; intro w1 hx)
    go_wp2_with fail
    go_ret
    exact ⟨rfl, hW.trans (hs3.trans hx)⟩
end Go.Proofs.Ytllcekmbcmhckaa

/- The reference of extent.Right. -/
set_option linter.unusedSimpArgs false
set_option linter.unusedVariables false
namespace Go.Proofs.Ytllcekmbcmhckaa
open Go.RowKit Go.Shelf

theorem right_no2 {a s : Int} {xs : List (Int × Int)} {j : Nat} (hj : j + 1 < xs.length) (h : (xs.getD (j + 1) (0, 0)).1 ≤ (xs.getD j (0, 0)).1 + (xs.getD j (0, 0)).2) : rightB a s xs = false := by
  have : decide (joinL xs = xs) = false := by
    rw [decide_eq_false_iff_not]
    intro e
    have hp := (join_canon xs).apart
    rw [e, List.pairwise_iff_getElem] at hp
    have := hp j (j + 1) (by omega) hj (by omega)
    simp [List.getElem?_eq_getElem hj, List.getElem?_eq_getElem (show j < xs.length by omega)] at h
    omega
  rw [rightB, this, Bool.and_false]
theorem right_yes {a s : Int} {xs : List (Int × Int)} (h : ∀ i, i < xs.length → withinB (xs.getD i (0, 0)).1 (xs.getD i (0, 0)).2 a s = true ∧ ∀ j, j + 1 = i → (xs.getD j (0, 0)).1 + (xs.getD j (0, 0)).2 < (xs.getD i (0, 0)).1) : rightB a s xs = true := by
  rw [right_all fun i hi => (h i hi).1, decide_eq_true_eq]
  have hm : ∀ i, i < xs.length → mayB (xs.getD i (0, 0)).1 (xs.getD i (0, 0)).2 = true := fun i hi => within_may (h i hi).1
  have key : ∀ d i, i + d + 1 < xs.length → (xs.getD i (0, 0)).1 + (xs.getD i (0, 0)).2 < (xs.getD (i + d + 1) (0, 0)).1 := by
    intro d
    induction d with
    | zero => intro i hi; exact (h (i + 0 + 1) hi).2 i rfl
    | succ d ih =>
      intro i hi
      have h1 := ih i (by omega)
      have h2 := (h (i + d + 1 + 1) (by omega)).2 (i + d + 1) rfl
      have h3 := may_bd (hm (i + d + 1) (by omega))
      rw [show i + (d + 1) + 1 = i + d + 1 + 1 from by omega]
      omega
  have hmem : ∀ x ∈ xs, mayB x.1 x.2 = true := by
    intro x hx
    obtain ⟨i, hi, rfl⟩ := List.getElem_of_mem hx
    simpa [List.getElem?_eq_getElem hi] using hm i hi
  refine Canon.unique (join_canon xs) ⟨fun x hx => (may_bd (hmem x hx)).2.2.1, ?_, fun p => ?_⟩
  · rw [List.pairwise_iff_getElem]
    intro i j hi hj hij
    have := key (j - i - 1) i (by omega)
    rw [show i + (j - i - 1) + 1 = j from by omega] at this
    simpa [List.getElem?_eq_getElem hi, List.getElem?_eq_getElem hj] using this
  · rw [covered_iff]
    exact ⟨fun ⟨x, hx, hp⟩ => ⟨x, hx, hmem x hx, hp⟩, fun ⟨x, hx, _, hp⟩ => ⟨x, hx, hp⟩⟩

def RightTo (a s : Int) (xs : List (Int × Int)) (k : Nat) : Prop := ∀ i, i < k → withinB (xs.getD i (0, 0)).1 (xs.getD i (0, 0)).2 a s = true ∧ ∀ j, j + 1 = i → (xs.getD j (0, 0)).1 + (xs.getD j (0, 0)).2 < (xs.getD i (0, 0)).1
theorem RightTo.step {a s : Int} {xs : List (Int × Int)} {k : Nat} (h : RightTo a s xs k) (h1 : withinB (xs.getD k (0, 0)).1 (xs.getD k (0, 0)).2 a s = true) (h2 : ∀ j, j + 1 = k → (xs.getD j (0, 0)).1 + (xs.getD j (0, 0)).2 < (xs.getD k (0, 0)).1) : RightTo a s xs (k + 1) := fun i hi => by
  rcases Nat.lt_or_ge i k with h' | h'
  · exact h i h'
  · obtain rfl : i = k := by omega
    exact ⟨h1, h2⟩

set_option maxRecDepth 100000 in
set_option maxHeartbeats 4000000 in
theorem refright_any (a s : Int) (A : Option Addr) (cap : Nat) (xs : List (Int × Int)) (w : World) (hlen : xs.length ≤ 400000) (hl : SpansAt w A xs) :
    Calls Try.prog 42 #[.agg #[.int .i64 (a), .int .i64 (s)], .slice A xs.length cap] w fun e w' => e = .returned (.bool (rightB a s xs)) ∧ Ext w w' := by
  have hW : Ext w (w.alloc (.cells #[.int .i64 a, .int .i64 s] 23)) := (Ext.refl w).alloc _
  have HL := Lib.hid (hl.ext hW)
  have b0 := boxed w #[.int .i64 a, .int .i64 s] 23 0 (.int .i64 a) rfl
  have b1 := boxed w #[.int .i64 a, .int .i64 s] 23 1 (.int .i64 s) rfl
  clear hl
  go_enter Try.func42, Try.ntmps42
  go_wp2_with fail
  generalize w.alloc (.cells #[.int .i64 a, .int .i64 s] 23) = W at *
  go_loopw [5] (fun i wr => ∃ k : Nat, k ≤ xs.length ∧ i = .int .i64 k ∧ Ext W wr ∧ Hid (RightTo a s xs k)) (fun i _ => xs.length - (intOf i).toNat)
  case atStart => exact ⟨0, by omega, rfl, Ext.refl _, Lib.hid (fun i hi => absurd hi (by omega))⟩
  case round =>
    obtain ⟨k, hk, rfl, hxr, hq⟩ := hrel
    by_cases hlt : k < xs.length
    rotate_left
    · go_wp2_with fail
      go_ret
      exact ⟨ret_bool (by rw [right_yes (fun i hi => hq.out i (by omega))]), hW.trans hxr⟩
    obtain ⟨lb, off, rfl, hc⟩ := HL.out.get (by omega)
    have HC := Lib.hid hc
    obtain ⟨e1, e2⟩ := spans_cell hc hlt
    have l1 := fun u : ExtOf wr => u.2.cell (hxr.cell e1)
    have l2 := fun u : ExtOf wr => u.2.cell (hxr.cell e2)
    have m1 := fun u : ExtOf wr => b0 u.1 (hxr.trans u.2)
    have m2 := fun u : ExtOf wr => b1 u.1 (hxr.trans u.2)
    have HN1 := Lib.hid (fun h => right_no (a := a) (s := s) hlt h)
    have HP := Lib.hid (fun h1 h2 => hq.out.step h1 h2)
    have ib1 : (k : Int) < (xs.length : Int) := by omega
    have hs0 : Ext wr wr := Ext.refl wr
    clear e1 e2 hc HL
    rcases k with _ | m
    · generalize xs.getD 0 (0, 0) = x at *
      obtain ⟨x1, x2⟩ := x
      simp only [Nat.zero_mul, Nat.add_zero] at l1 l2
      clear hq HC
      cases hb : withinB x1 x2 a s
      · go_wp2_with fail
        (refine wp_region_ext (W := wr) (by kernel_rfl) (by kernel_rfl) (by with_reducible assumption) ?_; (repeat (go_big_quiet_step (first | (go_at_call 20; with_reducible exact Calls.ext_of (refwithin_is x1 x2 a s _ hb _))))); refine wpQuiet_nil ?_; intro w1 hx)
        go_wp2_with fail
        go_ret
        exact ⟨ret_bool (by rw [HN1.out hb]), hW.trans (hxr.trans hx)⟩
      · go_wp2_with fail
        (refine wp_region_ext (W := wr) (by kernel_rfl) (by kernel_rfl) (by with_reducible assumption) ?_; (repeat (go_big_quiet_step (first | (go_at_call 20; with_reducible exact Calls.ext_of (refwithin_is x1 x2 a s _ hb _))))); refine wpQuiet_nil ?_; intro w1 hx)
        go_wp2_with fail
        (refine wp_region_ext (W := wr) (by kernel_rfl) (by kernel_rfl) (by with_reducible assumption) ?_; (repeat (go_big_quiet_step (fail))); refine wpQuiet_nil ?_; intro w1 hx)
        go_wp2_with fail
        go_roundw
        case rel => exact ⟨0 + 1, by omega, by go_num, hxr.trans (by assumption), Lib.hid (HP.out hb (by omega))⟩
        case measure => simp [intOf]; omega
    · have hq1 := within_may (hq.out m (by omega)).1
      obtain ⟨e3, e4⟩ := spans_cell HC.out (show m < xs.length by omega)
      have l3 := fun u : ExtOf wr => u.2.cell (hxr.cell e3)
      have l4 := fun u : ExtOf wr => u.2.cell (hxr.cell e4)
      have HN2 := Lib.hid (fun h => right_no2 (a := a) (s := s) (xs := xs) (j := m) hlt h)
      have HP2 := Lib.hid (fun h1 (h2 : (xs.getD m (0, 0)).1 + (xs.getD m (0, 0)).2 < (xs.getD (m + 1) (0, 0)).1) => HP.out h1 (fun j (hj : j + 1 = m + 1) => (show j = m by omega) ▸ h2))
      clear e3 e4 hq HC HP
      generalize xs.getD (m + 1) (0, 0) = x at *
      generalize xs.getD m (0, 0) = y at *
      obtain ⟨x1, x2⟩ := x
      obtain ⟨c, d⟩ := y
      simp only at l1 l2 l3 l4 hq1
      obtain ⟨q1, q2, q3, q4⟩ := may_bd hq1
      have hcast : ((m + 1 : Nat) : Int) = (m : Int) + 1 := by omega
      rw [hcast]
      rw [hcast] at ib1
      clear hcast hq1
      have hp : decide ((0 : Int) < (m : Int) + 1) = true := by simp; try omega
      have s1 : IntKind.i64.wrap ((m : Int) + 1 - 1) = (m : Int) := by rw [show (m : Int) + 1 - 1 = (m : Int) from by omega]; exact IntWalk.i64_in _ (by omega)
      have ib2 : (m : Int) < (xs.length : Int) := by omega
      have ib3 : (0 : Int) ≤ (m : Int) := by omega
      cases hb : withinB x1 x2 a s
      · go_wp2_with fail
        (refine wp_region_ext (W := wr) (by kernel_rfl) (by kernel_rfl) (by with_reducible assumption) ?_; (repeat (go_big_quiet_step (first | (go_at_call 20; with_reducible exact Calls.ext_of (refwithin_is x1 x2 a s _ hb _))))); refine wpQuiet_nil ?_; intro w1 hx)
        go_wp2_with fail
        go_ret
        exact ⟨ret_bool (by rw [HN1.out hb]), hW.trans (hxr.trans hx)⟩
      · by_cases ht : x1 ≤ c + d
        · have ht' : decide (x1 ≤ c + d) = true := by simpa using ht
          have HT := Lib.hid ht
          clear ht
          go_wp2_with fail
          (refine wp_region_ext (W := wr) (by kernel_rfl) (by kernel_rfl) (by with_reducible assumption) ?_; (repeat (go_big_quiet_step (first | (go_at_call 20; with_reducible exact Calls.ext_of (refwithin_is x1 x2 a s _ hb _))))); refine wpQuiet_nil ?_; intro w1 hx)
          go_wp2_with fail
          (refine wp_region_ext (W := wr) (by kernel_rfl) (by kernel_rfl) (by with_reducible assumption) ?_; (repeat (go_big_quiet_step (fail))); refine wpQuiet_nil ?_; intro w1 hx)
          go_wp2_with fail
          go_ret
          exact ⟨ret_bool (by rw [HN2.out HT.out]), hW.trans (hxr.trans (by assumption))⟩
        · have ht' : decide (x1 ≤ c + d) = false := by simpa using ht
          have HT := Lib.hid ht
          clear ht
          go_wp2_with fail
          (refine wp_region_ext (W := wr) (by kernel_rfl) (by kernel_rfl) (by with_reducible assumption) ?_; (repeat (go_big_quiet_step (first | (go_at_call 20; with_reducible exact Calls.ext_of (refwithin_is x1 x2 a s _ hb _))))); refine wpQuiet_nil ?_; intro w1 hx)
          go_wp2_with fail
          (refine wp_region_ext (W := wr) (by kernel_rfl) (by kernel_rfl) (by with_reducible assumption) ?_; (repeat (go_big_quiet_step (fail))); refine wpQuiet_nil ?_; intro w1 hx)
          go_wp2_with fail
          go_roundw
          case rel => exact ⟨m + 1 + 1, by omega, by go_num, hxr.trans (by assumption), Lib.hid (HP2.out hb (by have := HT.out; omega))⟩
          case measure => simp [intOf]; omega
end Go.Proofs.Ytllcekmbcmhckaa

