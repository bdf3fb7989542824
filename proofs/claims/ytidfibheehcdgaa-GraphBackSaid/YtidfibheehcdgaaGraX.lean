/- The law GraphTells. -/
import Derived.Test.YtidfibheehcdgaaGraW
set_option linter.unusedSimpArgs false
set_option linter.unusedVariables false
namespace Go.Proofs.Ytidfibheehcdgaa
open Go.RowKit Go.Shelf

theorem large_is (G : GraphD) (b : Bool) (h : largeG G = b) (V : World) (hG : GraphAt V G) (oG : GraphOk G) :
    Calls Try.prog 6 #[.agg #[.slice G.nA G.ns.length G.ncap, .slice G.rA G.rs.length G.rcap]] V fun e w' => e = .returned (.bool b) ∧ Ext V w' := by
  rw [← h]; exact large_any G V hG (by have := oG.nl; omega) (by have := oG.rl; omega) (fun x hx => ⟨by have := (oG.each x hx).fl; omega, by have := (oG.each x hx).rl; omega⟩)
theorem refsize_is (x : NodeD) (n : Int) (W : World) (h : sizeN x = n) : Calls Try.prog 10 #[.agg #[.int .i64 x.kind, .slice x.fA x.fields.length x.fcap, .slice x.rA x.raws.length x.rcap]] W fun e w' => e = .returned (.int .i64 n) ∧ Ext W w' := by
  rw [← h]; exact refsize_any x W
theorem sums_is (G : GraphD) (A : Option Addr) (cap : Nat) (l : List Int) (n m : Int) (V : World) (h : addS sizeN G.ns l = n) (h2 : addS (fun x => x.fields.length) G.ns l = m) (hG : GraphAt V G) (hl : IntsAt V A l) (hlen : l.length ≤ 9223372036854775807) (hn : G.ns.length ≤ 9223372036854775807) :
    Calls Try.prog 8 #[.agg #[.slice G.nA G.ns.length G.ncap, .slice G.rA G.rs.length G.rcap], .slice A l.length cap] V fun e w' => e = .returned (.tuple #[.int .i64 n, .int .i64 m]) ∧ Ext V w' := by
  rw [← h, ← h2]; exact refsums_any G A cap l V hG hl hlen hn
theorem ints_is (A A2 : Option Addr) (cap cap2 : Nat) (xs ys : List Int) (b : Bool) (hb : decide (xs = ys) = b) (W : World) (hlen : xs.length ≤ 9223372036854775807) (hlen2 : ys.length ≤ 9223372036854775807) (hl : IntsAt W A xs) (hl2 : IntsAt W A2 ys) :
    Calls Try.prog 13 #[.slice A xs.length cap, .slice A2 ys.length cap2] W fun e w' => e = .returned (.bool b) ∧ Ext W w' := by
  subst hb; exact ints_any A A2 cap cap2 xs ys W hlen hlen2 hl hl2
theorem leadG_len (ns : List NodeD) (i : Int) (h : ∀ x ∈ ns, x.fields.length ≤ 8796093022208) : (leadG ns i).length ≤ 8796093022208 := by
  unfold leadG
  split
  · rename_i hi
    have h1 := h _ (getD_mem (d := default) (show i.toNat < ns.length by omega))
    have h2 : (leadsL (ns.getD i.toNat default).fields).length ≤ (ns.getD i.toNat default).fields.length := by
      unfold leadsL; simp only [List.length_map]; exact List.length_filter_le _ _
    omega
  · simp

set_option maxRecDepth 100000
set_option maxHeartbeats 2000000
theorem tells16_any (G : GraphD) (i : Int) (A : Option Addr) (cap : Nat) (l : List Int) (V : World) (hG : GraphAt V G) (oG : GraphOk G) (hl : IntsAt V A l) (hlen : l.length ≤ 9223372036854775807) :
    Calls Try.prog 3 #[.agg #[.slice G.nA G.ns.length G.ncap, .slice G.rA G.rs.length G.rcap], .int .i64 i, .slice A l.length cap] V fun e w' => e = .returned (.bool true) ∧ Ext V w' := by
  obtain ⟨nA, ncap, ns, rA, rcap, rs⟩ := G
  have HG := Lib.hid hG
  have HK := Lib.hid oG
  have HL := Lib.hid hl
  have hnl : ns.length ≤ 2513169434843 := oG.nl
  have HFL : Hid (∀ x ∈ ns, x.fields.length ≤ 8796093022208) := Lib.hid fun x hx => (oG.each x hx).fl
  have hW : Ext V (V.alloc (.cells #[.slice nA ns.length ncap, .slice rA rs.length rcap] 25)) := (Ext.refl V).alloc _
  have k0 := fun w' => boxed V #[.slice nA ns.length ncap, .slice rA rs.length rcap] 25 0 (.slice nA ns.length ncap) rfl w'
  have k1 := fun w' => boxed V #[.slice nA ns.length ncap, .slice rA rs.length rcap] 25 1 (.slice rA rs.length rcap) rfl w'
  obtain ⟨b, hb⟩ : ∃ b, largeG ⟨nA, ncap, ns, rA, rcap, rs⟩ = b := ⟨_, rfl⟩
  obtain ⟨sw, hsw⟩ : ∃ n, addS sizeN ns l = n := ⟨_, rfl⟩
  obtain ⟨sf, hsf⟩ : ∃ n, addS (fun x => x.fields.length) ns l = n := ⟨_, rfl⟩
  obtain ⟨rt, hrt⟩ : ∃ b, rightG ⟨nA, ncap, ns, rA, rcap, rs⟩ = b := ⟨_, rfl⟩
  have HB := Lib.hid hb
  have HSW := Lib.hid hsw
  have HSF := Lib.hid hsf
  have HRT := Lib.hid hrt
  clear hG oG hl hb hsw hsf hrt
  go_enter Try.func3, Try.ntmps3
  go_wp2_with fail
  have hx0 := (Ext.refl (V.alloc (.cells #[.slice nA ns.length ncap, .slice rA rs.length rcap] 25)))
  have Z := large_is ⟨nA, ncap, ns, rA, rcap, rs⟩ b HB.out _ (HG.out.ext hW) HK.out
  generalize V.alloc (.cells #[.slice nA ns.length ncap, .slice rA rs.length rcap] 25) = W at *
  refine Z.mono ?_
  clear Z
  rintro e w1 ⟨rfl, hx⟩
  clear hx0
  by_cases hq : b = true ∨ 100 < l.length
  · have AW : ∀ w, Calls Try.prog 7 #[] w fun e w' => e = .returned (.bool true) ∧ Ext w w' := awake16_any
    cases b
    · have h1 : decide ((100 : Int) < (l.length : Int)) = true := by simp at hq; simp; omega
      clear hq
      go_wp2_with fail
      refine (awake16_any _).mono ?_
      rintro e w2 ⟨rfl, hx2⟩
      go_wp2_with fail
      go_ret
      exact ⟨rfl, hW.trans (hx.trans hx2)⟩
    · clear hq
      go_wp2_with fail
      refine (awake16_any _).mono ?_
      rintro e w2 ⟨rfl, hx2⟩
      go_wp2_with fail
      go_ret
      exact ⟨rfl, hW.trans (hx.trans hx2)⟩
  obtain ⟨hb0, hl0⟩ : b = false ∧ l.length ≤ 100 := by
    rw [not_or] at hq; exact ⟨by simpa using hq.1, by omega⟩
  subst hb0
  have h1 : decide ((100 : Int) < (l.length : Int)) = false := by simp; omega
  clear hq
  go_wp2_with fail
  have Z := sums_is ⟨nA, ncap, ns, rA, rcap, rs⟩ A cap l sw sf _ HSW.out HSF.out (HG.out.ext (hW.trans hx)) (HL.out.ext (hW.trans hx)) (by omega) (by simp only; omega)
  refine Z.mono ?_
  clear Z
  rintro e w2 ⟨rfl, hx2⟩
  replace hx := hx.trans hx2
  clear hx2
  go_wp2_with fail
  have l0 : ∀ u : ExtOf W, u.1.cell? ⟨V.heap.size, 0, none⟩ = some (.slice nA ns.length ncap) := fun u => k0 u.1 u.2
  have l1 : ∀ u : ExtOf W, u.1.cell? ⟨V.heap.size, 1, none⟩ = some (.slice rA rs.length rcap) := fun u => k1 u.1 u.2
  clear k0 k1
  have HGW := Lib.hid (fun u : ExtOf W => HG.out.ext (hW.trans u.2))
  have HLW := Lib.hid (fun u : ExtOf W => HL.out.ext (hW.trans u.2))
  have hn63 : ns.length ≤ 9223372036854775807 := by omega
  have hr63 : rs.length ≤ 9223372036854775807 := by have := HK.out.rl; simp only at this; omega
  have HF63 : Hid (∀ x ∈ ns, x.fields.length ≤ 9223372036854775807) := Lib.hid fun x hx => by have := HFL.out x hx; omega
  by_cases c1 : 0 ≤ i
  · by_cases c2 : i < ns.length
    · obtain ⟨j, rfl⟩ := Int.eq_ofNat_of_zero_le c1
      have hj : j < ns.length := by omega
      have d1 : decide ((0 : Int) ≤ (j : Int)) = true := by simp
      have d2 : decide ((j : Int) < (ns.length : Int)) = true := by simpa using hj
      obtain ⟨nb, noff, rfl, hcn⟩ := HG.out.nodes.row.get (by simp only; omega)
      obtain ⟨e0, e1, e2⟩ := nodes_cell hcn hj
      clear hcn c1 c2
      obtain ⟨z, hz⟩ : ∃ z, sizeN (ns.getD j default) = z := ⟨_, rfl⟩
      have HZ := Lib.hid hz
      clear hz
      generalize ns.getD j default = x at e0 e1 e2 HZ
      have m0 : ∀ u : ExtOf W, u.1.cell? ⟨nb, noff + j * 3, none⟩ = some (.int .i64 x.kind) := fun u => (hW.trans u.2).cell e0
      have m1 : ∀ u : ExtOf W, u.1.cell? ⟨nb, noff + j * 3 + 1, none⟩ = some (.slice x.fA x.fields.length x.fcap) := fun u => (hW.trans u.2).cell e1
      have m2 : ∀ u : ExtOf W, u.1.cell? ⟨nb, noff + j * 3 + 2, none⟩ = some (.slice x.rA x.raws.length x.rcap) := fun u => (hW.trans u.2).cell e2
      clear e0 e1 e2
      (refine wp_region_ext (W := W) (by kernel_rfl) (by kernel_rfl) (by with_reducible assumption) ?_; (repeat (go_big_quiet_step (first | (go_at_call 9; with_reducible exact Calls.ext_of (size_is x z _ HZ.out)) | (go_at_call 10; with_reducible exact Calls.ext_of (refsize_is x z _ HZ.out))))); refine wpQuiet_nil ?_; intro w1 hx)
      go_wp2_with fail
      (refine wp_region_seg (W := W) [([(0, true), (2, true), (1, false), (3, false), (4, true), (5, true), (6, true), (7, true), (9, true), (10, true)], 8), ([], 11)] [(12, false), (13, true), (14, true), (15, true), (16, true), (18, true), (17, false), (19, true), (20, true), (21, true), (22, true), (23, true), (25, true), (24, false), (26, true), (27, true), (28, true), (29, false), (30, true), (31, true)] [] (by kernel_rfl) (by kernel_rfl) (by intro c a d v w h; cases d <;> exact h) (by with_reducible assumption) ?_; simp only [opsOf, List.map_cons, List.map_nil, List.getD_cons_zero, List.getD_cons_succ])
      ((first | refine seg_cons ?_ | refine seg_last ?_); (repeat (go_big_quiet_step (first | (go_at_call 11; with_reducible exact Calls.ext_of (right_is ⟨_, ncap, ns, rA, rcap, rs⟩ rt HRT.out _ (HGW.out _) hn63 hr63 HF63.out)) | (go_at_call 12; with_reducible exact Calls.ext_of (refright_is ⟨_, ncap, ns, rA, rcap, rs⟩ rt HRT.out _ (HGW.out _) hn63 hr63 HF63.out))))); refine wpQuiet_nil ?_; intro w1 hx)
      (refine seg_step ?_ ?_; (focus rfl); intro K hK; go_simp)
      refine (leads_any ⟨_, ncap, ns, rA, rcap, rs⟩ _ _ (HG.out.ext (hW.trans hx)) hn63 HFL.out).mono ?_
      rintro e W2 ⟨A1, cap3, rfl, hin, hx2⟩
      refine hK W2 _ _ (hx.trans hx2) (Ext.refl _) ?_
      have hx3 := hx.trans hx2
      clear hK K hx hx2
      ((first | refine seg_cons ?_ | refine seg_last ?_); (repeat (go_big_quiet_step (fail))); refine wpQuiet_nil ?_; intro w1 hx)
      (refine seg_step ?_ ?_; (focus rfl); intro K hK; go_simp)
      refine (refleads_any ⟨_, ncap, ns, rA, rcap, rs⟩ _ _ (HG.out.ext (hW.trans (hx3.trans hx))) hn63 HFL.out).mono ?_
      rintro e W3 ⟨A2, cap2, rfl, hin2, hx2⟩
      refine hK W3 _ _ (hx.trans hx2) (Ext.refl _) ?_
      have HI1 := Lib.hid (fun u : ExtOf W3 => hin.ext ((hx.trans hx2).trans u.2))
      have HI2 := Lib.hid (fun u : ExtOf W3 => hin2.ext u.2)
      replace hx3 := hx3.trans (hx.trans hx2)
      have HGW3 := Lib.hid (fun u : ExtOf W3 => HG.out.ext (hW.trans (hx3.trans u.2)))
      have HLW3 := Lib.hid (fun u : ExtOf W3 => HL.out.ext (hW.trans (hx3.trans u.2)))
      have p0 : ∀ u : ExtOf W3, u.1.cell? _ = _ := fun u => l0 ⟨u.1, hx3.trans u.2⟩
      have p1 : ∀ u : ExtOf W3, u.1.cell? _ = _ := fun u => l1 ⟨u.1, hx3.trans u.2⟩
      clear hK K hx hx2 hin hin2 l0 l1
      ((first | refine seg_cons ?_ | refine seg_last ?_); (repeat (go_big_quiet_step (first | (go_at_call 13; with_reducible exact Calls.ext_of (ints_is A1 A2 cap3 cap2 _ _ true (decide_eq_true rfl) _ (Nat.le_trans (leadG_len ns _ HFL.out) (by decide)) (Nat.le_trans (leadG_len ns _ HFL.out) (by decide)) (HI1.out _) (HI2.out _))) | (go_at_call 16; with_reducible exact Calls.ext_of (words_is ⟨_, ncap, ns, rA, rcap, rs⟩ A cap l sw _ HSW.out (HGW3.out _) (HLW3.out _) hlen hn63)) | (go_at_call 17; with_reducible exact Calls.ext_of (fieldsG_is ⟨_, ncap, ns, rA, rcap, rs⟩ A cap l sf _ HSF.out (HGW3.out _) (HLW3.out _) hlen hn63)) | (go_at_call 7; with_reducible exact Calls.ext_of (awake16_any _))))); refine wpQuiet_nil ?_; intro w1 hx)
      go_wp2_with fail
      go_ret
      exact ⟨rfl, hW.trans (hx3.trans hx)⟩
    · have d1 : decide ((0 : Int) ≤ i) = true := by simpa using c1
      have d2 : decide (i < (ns.length : Int)) = false := by simpa using c2
      (refine wp_region_ext (W := W) (by kernel_rfl) (by kernel_rfl) (by with_reducible assumption) ?_; (repeat (go_big_quiet_step (fail))); refine wpQuiet_nil ?_; intro w1 hx)
      go_wp2_with fail
      (refine wp_region_seg (W := W) [([(0, true), (2, true), (1, false), (3, false), (4, true), (5, true), (6, true), (7, true), (9, true), (10, true)], 8), ([], 11)] [(12, false), (13, true), (14, true), (15, true), (16, true), (18, true), (17, false), (19, true), (20, true), (21, true), (22, true), (23, true), (25, true), (24, false), (26, true), (27, true), (28, true), (29, false), (30, true), (31, true)] [] (by kernel_rfl) (by kernel_rfl) (by intro c a d v w h; cases d <;> exact h) (by with_reducible assumption) ?_; simp only [opsOf, List.map_cons, List.map_nil, List.getD_cons_zero, List.getD_cons_succ])
      ((first | refine seg_cons ?_ | refine seg_last ?_); (repeat (go_big_quiet_step (first | (go_at_call 11; with_reducible exact Calls.ext_of (right_is ⟨_, ncap, ns, rA, rcap, rs⟩ rt HRT.out _ (HGW.out _) hn63 hr63 HF63.out)) | (go_at_call 12; with_reducible exact Calls.ext_of (refright_is ⟨_, ncap, ns, rA, rcap, rs⟩ rt HRT.out _ (HGW.out _) hn63 hr63 HF63.out))))); refine wpQuiet_nil ?_; intro w1 hx)
      (refine seg_step ?_ ?_; (focus rfl); intro K hK; go_simp)
      refine (leads_any ⟨_, ncap, ns, rA, rcap, rs⟩ _ _ (HG.out.ext (hW.trans hx)) hn63 HFL.out).mono ?_
      rintro e W2 ⟨A1, cap3, rfl, hin, hx2⟩
      refine hK W2 _ _ (hx.trans hx2) (Ext.refl _) ?_
      have hx3 := hx.trans hx2
      clear hK K hx hx2
      ((first | refine seg_cons ?_ | refine seg_last ?_); (repeat (go_big_quiet_step (fail))); refine wpQuiet_nil ?_; intro w1 hx)
      (refine seg_step ?_ ?_; (focus rfl); intro K hK; go_simp)
      refine (refleads_any ⟨_, ncap, ns, rA, rcap, rs⟩ _ _ (HG.out.ext (hW.trans (hx3.trans hx))) hn63 HFL.out).mono ?_
      rintro e W3 ⟨A2, cap2, rfl, hin2, hx2⟩
      refine hK W3 _ _ (hx.trans hx2) (Ext.refl _) ?_
      have HI1 := Lib.hid (fun u : ExtOf W3 => hin.ext ((hx.trans hx2).trans u.2))
      have HI2 := Lib.hid (fun u : ExtOf W3 => hin2.ext u.2)
      replace hx3 := hx3.trans (hx.trans hx2)
      have HGW3 := Lib.hid (fun u : ExtOf W3 => HG.out.ext (hW.trans (hx3.trans u.2)))
      have HLW3 := Lib.hid (fun u : ExtOf W3 => HL.out.ext (hW.trans (hx3.trans u.2)))
      have p0 : ∀ u : ExtOf W3, u.1.cell? _ = _ := fun u => l0 ⟨u.1, hx3.trans u.2⟩
      have p1 : ∀ u : ExtOf W3, u.1.cell? _ = _ := fun u => l1 ⟨u.1, hx3.trans u.2⟩
      clear hK K hx hx2 hin hin2 l0 l1
      ((first | refine seg_cons ?_ | refine seg_last ?_); (repeat (go_big_quiet_step (first | (go_at_call 13; with_reducible exact Calls.ext_of (ints_is A1 A2 cap3 cap2 _ _ true (decide_eq_true rfl) _ (Nat.le_trans (leadG_len ns _ HFL.out) (by decide)) (Nat.le_trans (leadG_len ns _ HFL.out) (by decide)) (HI1.out _) (HI2.out _))) | (go_at_call 16; with_reducible exact Calls.ext_of (words_is ⟨_, ncap, ns, rA, rcap, rs⟩ A cap l sw _ HSW.out (HGW3.out _) (HLW3.out _) hlen hn63)) | (go_at_call 17; with_reducible exact Calls.ext_of (fieldsG_is ⟨_, ncap, ns, rA, rcap, rs⟩ A cap l sf _ HSF.out (HGW3.out _) (HLW3.out _) hlen hn63)) | (go_at_call 7; with_reducible exact Calls.ext_of (awake16_any _))))); refine wpQuiet_nil ?_; intro w1 hx)
      go_wp2_with fail
      go_ret
      exact ⟨rfl, hW.trans (hx3.trans hx)⟩
  · have d1 : decide ((0 : Int) ≤ i) = false := by simpa using c1
    (refine wp_region_ext (W := W) (by kernel_rfl) (by kernel_rfl) (by with_reducible assumption) ?_; (repeat (go_big_quiet_step (fail))); refine wpQuiet_nil ?_; intro w1 hx)
    go_wp2_with fail
    (refine wp_region_seg (W := W) [([(0, true), (2, true), (1, false), (3, false), (4, true), (5, true), (6, true), (7, true), (9, true), (10, true)], 8), ([], 11)] [(12, false), (13, true), (14, true), (15, true), (16, true), (18, true), (17, false), (19, true), (20, true), (21, true), (22, true), (23, true), (25, true), (24, false), (26, true), (27, true), (28, true), (29, false), (30, true), (31, true)] [] (by kernel_rfl) (by kernel_rfl) (by intro c a d v w h; cases d <;> exact h) (by with_reducible assumption) ?_; simp only [opsOf, List.map_cons, List.map_nil, List.getD_cons_zero, List.getD_cons_succ])
    ((first | refine seg_cons ?_ | refine seg_last ?_); (repeat (go_big_quiet_step (first | (go_at_call 11; with_reducible exact Calls.ext_of (right_is ⟨_, ncap, ns, rA, rcap, rs⟩ rt HRT.out _ (HGW.out _) hn63 hr63 HF63.out)) | (go_at_call 12; with_reducible exact Calls.ext_of (refright_is ⟨_, ncap, ns, rA, rcap, rs⟩ rt HRT.out _ (HGW.out _) hn63 hr63 HF63.out))))); refine wpQuiet_nil ?_; intro w1 hx)
    (refine seg_step ?_ ?_; (focus rfl); intro K hK; go_simp)
    refine (leads_any ⟨_, ncap, ns, rA, rcap, rs⟩ _ _ (HG.out.ext (hW.trans hx)) hn63 HFL.out).mono ?_
    rintro e W2 ⟨A1, cap3, rfl, hin, hx2⟩
    refine hK W2 _ _ (hx.trans hx2) (Ext.refl _) ?_
    have hx3 := hx.trans hx2
    clear hK K hx hx2
    ((first | refine seg_cons ?_ | refine seg_last ?_); (repeat (go_big_quiet_step (fail))); refine wpQuiet_nil ?_; intro w1 hx)
    (refine seg_step ?_ ?_; (focus rfl); intro K hK; go_simp)
    refine (refleads_any ⟨_, ncap, ns, rA, rcap, rs⟩ _ _ (HG.out.ext (hW.trans (hx3.trans hx))) hn63 HFL.out).mono ?_
    rintro e W3 ⟨A2, cap2, rfl, hin2, hx2⟩
    refine hK W3 _ _ (hx.trans hx2) (Ext.refl _) ?_
    have HI1 := Lib.hid (fun u : ExtOf W3 => hin.ext ((hx.trans hx2).trans u.2))
    have HI2 := Lib.hid (fun u : ExtOf W3 => hin2.ext u.2)
    replace hx3 := hx3.trans (hx.trans hx2)
    have HGW3 := Lib.hid (fun u : ExtOf W3 => HG.out.ext (hW.trans (hx3.trans u.2)))
    have HLW3 := Lib.hid (fun u : ExtOf W3 => HL.out.ext (hW.trans (hx3.trans u.2)))
    have p0 : ∀ u : ExtOf W3, u.1.cell? _ = _ := fun u => l0 ⟨u.1, hx3.trans u.2⟩
    have p1 : ∀ u : ExtOf W3, u.1.cell? _ = _ := fun u => l1 ⟨u.1, hx3.trans u.2⟩
    clear hK K hx hx2 hin hin2 l0 l1
    ((first | refine seg_cons ?_ | refine seg_last ?_); (repeat (go_big_quiet_step (first | (go_at_call 13; with_reducible exact Calls.ext_of (ints_is A1 A2 cap3 cap2 _ _ true (decide_eq_true rfl) _ (Nat.le_trans (leadG_len ns _ HFL.out) (by decide)) (Nat.le_trans (leadG_len ns _ HFL.out) (by decide)) (HI1.out _) (HI2.out _))) | (go_at_call 16; with_reducible exact Calls.ext_of (words_is ⟨_, ncap, ns, rA, rcap, rs⟩ A cap l sw _ HSW.out (HGW3.out _) (HLW3.out _) hlen hn63)) | (go_at_call 17; with_reducible exact Calls.ext_of (fieldsG_is ⟨_, ncap, ns, rA, rcap, rs⟩ A cap l sf _ HSF.out (HGW3.out _) (HLW3.out _) hlen hn63)) | (go_at_call 7; with_reducible exact Calls.ext_of (awake16_any _))))); refine wpQuiet_nil ?_; intro w1 hx)
    go_wp2_with fail
    go_ret
    exact ⟨rfl, hW.trans (hx3.trans hx)⟩
end Go.Proofs.Ytidfibheehcdgaa
