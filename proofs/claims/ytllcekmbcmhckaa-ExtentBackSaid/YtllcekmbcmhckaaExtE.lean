/- extent.Give. -/
import Derived.Test.YtllcekmbcmhckaaExtD
import Derived.Test.YtllcekmbcmhckaaFork
set_option linter.unusedSimpArgs false
set_option linter.unusedVariables false
namespace Go.Proofs.Ytllcekmbcmhckaa
open Go.RowKit Go.Shelf

def giveP (a s : Int) (x : Int × Int) : Bool := meetsB x.1 x.2 a s
set_option maxHeartbeats 1000000 in
theorem give1_tells (a s : Int) (B : Nat) (V : World) (hc : V.cell? ⟨B, 0, none⟩ = some (.int .i64 a)) (hd : V.cell? ⟨B, 1, none⟩ = some (.int .i64 s)) : Tells 73 #[.pointer (some ⟨B, 0, none⟩)] (giveP a s) V := by
  intro W x hx
  obtain ⟨c, d⟩ := x
  have c1 := hx.cell hc
  have c2 := hx.cell hd
  clear hc hd
  have k1 := boxed W #[.int .i64 c, .int .i64 d] 23 0 (.int .i64 c) rfl
  have k2 := boxed W #[.int .i64 c, .int .i64 d] 23 1 (.int .i64 d) rfl
  have hW : Ext W (W.alloc (.cells #[.int .i64 c, .int .i64 d] 23)) := (Ext.refl W).alloc _
  have c3 := hW.cell c1
  have c4 := hW.cell c2
  show Calls Try.prog 73 #[.agg #[.int .i64 (c), .int .i64 (d)], .pointer (some ⟨B, 0, none⟩)] W _
  unfold giveP
  go_enter Try.func73, Try.ntmps73
  go_wp2_with fail
  refine (meets_any c d a s _).mono ?_
  rintro e w1 ⟨rfl, hx1⟩
  have hx2 := hW.trans hx1
  go_wp2_with fail
  go_ret
  exact ⟨rfl, hx2⟩

/-- The two results. -/
def GiveRes (a s : Int) (xs : List (Int × Int)) (ys : List (Int × Int)) (er : Int) : Prop :=
  (mayB a s = false ∧ ys = xs ∧ er = 1) ∨ (mayB a s = true ∧ xs.any (giveP a s) = true ∧ ys = xs ∧ er = 16) ∨ (mayB a s = true ∧ xs.any (giveP a s) = false ∧ ys = joinL (xs ++ [(a, s)]) ∧ er = 0)
def GivePost (a s : Int) (xs : List (Int × Int)) (V : World) (e : Ending) (w' : World) : Prop :=
  ∃ (ys : List (Int × Int)) (er : Int) (m : Nat) (A2 : Option Addr) (cap2 : Nat), GiveRes a s xs ys er ∧ m = ys.length ∧ e = .returned (.tuple #[.slice A2 m cap2, .int .i64 er]) ∧ SpansAt w' A2 ys ∧ Ext V w'

set_option maxRecDepth 100000 in
set_option maxHeartbeats 4000000 in
theorem give_any (A : Option Addr) (cap : Nat) (xs : List (Int × Int)) (a s : Int) (V : World) (hlen : xs.length ≤ 400000) (hl : SpansAt V A xs) :
    Calls Try.prog 46 #[.slice A xs.length cap, .agg #[.int .i64 (a), .int .i64 (s)]] V (GivePost a s xs V) := by
  have hV : Ext V (V.alloc (.cells #[.int .i64 a, .int .i64 s] 23)) := (Ext.refl V).alloc _
  have k0 := boxed V #[.int .i64 a, .int .i64 s] 23 0 (.int .i64 a) rfl
  have k1 := boxed V #[.int .i64 a, .int .i64 s] 23 1 (.int .i64 s) rfl
  have HL := Lib.hid (hl.ext hV)
  clear hl
  obtain ⟨b, hm⟩ : ∃ b, mayB a s = b := ⟨_, rfl⟩
  have HM := Lib.hid hm
  clear hm
  go_enter Try.func46, Try.ntmps46
  go_wp2_with fail
  generalize V.alloc (.cells #[.int .i64 a, .int .i64 s] 23) = V1 at *
  refine (may_is a s b HM.out _).mono ?_
  rintro e W ⟨rfl, hx⟩
  replace k0 := fun w' (h : Ext W w') => k0 w' (hx.trans h)
  replace k1 := fun w' (h : Ext W w') => k1 w' (hx.trans h)
  have HX := Lib.hid (hV.trans hx)
  have HL1 := Lib.hid (HL.out.ext hx)
  have c0 := k0 W (Ext.refl W)
  have c1 := k1 W (Ext.refl W)
  clear hx hV HL
  cases b
  · go_wp2_with fail
    refine (clone_c A cap xs _ _ rfl (by omega) HL1.out).mono ?_
    rintro e w1 ⟨A2, cap2, rfl, ho, hx, hg⟩
    have HO := Lib.hid ho
    have HX1 := Lib.hid (HX.out.trans hx)
    clear ho hx hg
    go_wp2_with fail
    go_ret2
    exact ⟨xs, 1, _, A2, cap2, .inl ⟨HM.out, rfl, rfl⟩, rfl, rfl, HO.out.spans, HX1.out⟩
  · have eg : ∀ args w, (callFunc 73 args).run Try.prog w = .ok (.enter 73 args) w := enters_of Try.func73 (by kernel_rfl) rfl
    go_wp2_with fail
    refine (containsFunc_any (giveP a s) _ _ eg A cap xs W (give1_tells a s _ W c0 c1) (by omega) HL1.out).mono ?_
    rintro e W1 ⟨rfl, hx1⟩
    obtain ⟨b, hb⟩ : ∃ b, xs.any (giveP a s) = b := ⟨_, rfl⟩
    have HB := Lib.hid hb
    rw [hb]
    replace k0 := fun w' (h : Ext W1 w') => k0 w' (hx1.trans h)
    replace k1 := fun w' (h : Ext W1 w') => k1 w' (hx1.trans h)
    have HX1 := Lib.hid (HX.out.trans hx1)
    have HL2 := Lib.hid (HL1.out.ext hx1)
    clear hb eg HX HL1 c0 c1 hx1
    cases b
    · go_wp2_with fail
      have hs0 : Ext W1 W1 := Ext.refl _
      have l0 := fun u : ExtOf W1 => k0 u.1 u.2
      have l1 := fun u : ExtOf W1 => k1 u.1 u.2
      (refine wp_region_fork (W := W1) [(0, true), (2, true)] 1 [(1, [3]), (3, [1])] [4, 5, 6, 7] (by kernel_rfl) (by kernel_rfl) (by intro c a d v w h; cases d <;> exact h) (by with_reducible assumption) ?_; simp only [opsOf, List.map_cons, List.map_nil, List.getD_cons_zero, List.getD_cons_succ]; (repeat (go_big_quiet_step (fail))); refine wpQuiet_nil ?_; refine all_two ?_ ?_ <;> (simp only [opsOf, List.map_cons, List.map_nil, List.getD_cons_zero, List.getD_cons_succ]; intro w1 hx))
      · (refine mid_step (by rfl) ?_; intro K hK; go_simp)
        refine (clone_c A cap xs _ w1 rfl (by omega) (HL2.out.ext hx)).mono ?_
        rintro e W3 ⟨A3, cap3, rfl, ho, hx3, hg⟩
        have hx4 : Ext W3 (W3.alloc (.cells #[.int .i64 a, .int .i64 s] 23)) := (Ext.refl _).alloc _
        have HO2 := Lib.hid ((ho.mono (show V.heap.size ≤ _ from (HX1.out.trans hx).size)).ext hx4)
        have HR : Hid (SpansAt (W3.alloc (.cells #[.int .i64 a, .int .i64 s] 23)) (some ⟨W3.heap.size, 0, none⟩) [(a, s)]) := Lib.hid (row_lit W3 _ rfl spanCells (by decide))
        have HX4 := Lib.hid (HX1.out.trans ((hx.trans hx3).trans hx4))
        refine hK _ _ (hx.trans hx3) ?_
        clear hK K
        (refine mid_step (by rfl) ?_; intro K hK; go_simp)
        refine hK _ _ ((hx.trans hx3).trans hx4) ?_
        clear ho hx3 hx4 hx hg
        generalize W3.alloc (.cells #[.int .i64 a, .int .i64 s] 23) = W4 at *
        generalize W3.heap.size = H at *
        clear hK K HL2 HX1 k0 k1 l0 l1 hs0
        refine mid_nil ?_
        go_wp2_with (at_builtin; refine wpList_app rfl (.tmp 17) (.tmp 19) 29 rfl spanInfo spanCells rfl (by exact HO2.out) [(a, s)] ⟨H, 0, none⟩ 1 (xs.length + 1) 1 (by simp) rfl rfl (by exact HR.out) (by omega) (by simp [maxLen]; omega) (by exact HX4.out.size) ?_; intro A4 cap4 W5 hown4 hgr4 hat4; have HO4 := Lib.hid hown4; have HX5 : Hid (Ext V W5) := Lib.hid (HO2.out.below HX4.out hgr4 HX4.out.size); clear hown4 hgr4 hat4)
        have hjl := joinL_length (xs ++ [(a, s)])
        refine (join_c A4 cap4 (xs ++ [(a, s)]) _ (xs.length + 1) _ W5 (by simp) rfl rfl (by omega) HO4.out.spans).mono ?_
        rintro e W6 ⟨A5, cap5, rfl, hj5, hx5⟩
        have HJ := Lib.hid hj5
        have HX6 : Hid (Ext V W6) := Lib.hid (Ext.trans HX5.out hx5)
        clear hj5 hx5 hjl
        go_wp2_with fail
        go_ret2
        exact ⟨joinL (xs ++ [(a, s)]), 0, _, A5, cap5, .inr (.inr ⟨HM.out, HB.out, rfl, rfl⟩), rfl, rfl, HJ.out, HX6.out⟩
      · (refine mid_step (by rfl) ?_; intro K hK; go_simp)
        have hx4 : Ext w1 (w1.alloc (.cells #[.int .i64 a, .int .i64 s] 23)) := (Ext.refl _).alloc _
        have HR0 : Hid (SpansAt (w1.alloc (.cells #[.int .i64 a, .int .i64 s] 23)) (some ⟨w1.heap.size, 0, none⟩) [(a, s)]) := Lib.hid (row_lit w1 _ rfl spanCells (by decide))
        replace hx4 := hx.trans hx4
        refine hK _ _ hx4 ?_
        clear hK K
        (refine mid_step (by rfl) ?_; intro K hK; go_simp)
        refine (clone_c A cap xs _ _ rfl (by omega) (HL2.out.ext hx4)).mono ?_
        rintro e W4 ⟨A3, cap3, rfl, ho, hx3, hg⟩
        have HO2 := Lib.hid (ho.mono (show V.heap.size ≤ _ from (HX1.out.trans hx4).size))
        have HR := Lib.hid (HR0.out.ext hx3)
        have HX4 := Lib.hid (HX1.out.trans (hx4.trans hx3))
        refine hK _ _ (hx4.trans hx3) ?_
        clear ho hx3 hx4 hx hg HR0
        generalize w1.heap.size = H at *
        clear hK K HL2 HX1 k0 k1 l0 l1 hs0
        refine mid_nil ?_
        go_wp2_with (at_builtin; refine wpList_app rfl (.tmp 17) (.tmp 19) 29 rfl spanInfo spanCells rfl (by exact HO2.out) [(a, s)] ⟨H, 0, none⟩ 1 (xs.length + 1) 1 (by simp) rfl rfl (by exact HR.out) (by omega) (by simp [maxLen]; omega) (by exact HX4.out.size) ?_; intro A4 cap4 W5 hown4 hgr4 hat4; have HO4 := Lib.hid hown4; have HX5 : Hid (Ext V W5) := Lib.hid (HO2.out.below HX4.out hgr4 HX4.out.size); clear hown4 hgr4 hat4)
        have hjl := joinL_length (xs ++ [(a, s)])
        refine (join_c A4 cap4 (xs ++ [(a, s)]) _ (xs.length + 1) _ W5 (by simp) rfl rfl (by omega) HO4.out.spans).mono ?_
        rintro e W6 ⟨A5, cap5, rfl, hj5, hx5⟩
        have HJ := Lib.hid hj5
        have HX6 : Hid (Ext V W6) := Lib.hid (Ext.trans HX5.out hx5)
        clear hj5 hx5 hjl
        go_wp2_with fail
        go_ret2
        exact ⟨joinL (xs ++ [(a, s)]), 0, _, A5, cap5, .inr (.inr ⟨HM.out, HB.out, rfl, rfl⟩), rfl, rfl, HJ.out, HX6.out⟩
    · go_wp2_with fail
      refine (clone_c A cap xs _ _ rfl (by omega) HL2.out).mono ?_
      rintro e w2 ⟨A2, cap2, rfl, ho, hx, hg⟩
      have HO := Lib.hid ho
      have HX2 := Lib.hid (HX1.out.trans hx)
      clear ho hx hg
      go_wp2_with fail
      go_ret2
      exact ⟨xs, 16, _, A2, cap2, .inr (.inl ⟨HM.out, HB.out, rfl, rfl⟩), rfl, rfl, HO.out.spans, HX2.out⟩
end Go.Proofs.Ytllcekmbcmhckaa
