/- Two graphs held against one another: the reference. -/
import Derived.Test.YtidfibheehcdgaaGraL
import Derived.Test.YtidfibheehcdgaaTree
set_option linter.unusedSimpArgs false
set_option linter.unusedVariables false
namespace Go.Proofs.Ytidfibheehcdgaa
open Go.RowKit Go.Shelf

theorem ext_u {W w : World} (h : Ext W w) : ∃ u : ExtOf W, w = u.1 := ⟨⟨w, h⟩, rfl⟩
set_option maxRecDepth 100000
set_option maxHeartbeats 8000000
theorem refsame_x (nA : Option Addr) (ncap : Nat) (ns : List NodeD) (rA : Option Addr) (rcap : Nat) (rs : List (Int × Int)) (mA : Option Addr) (mcap : Nat) (ms : List NodeD) (qA : Option Addr) (qcap : Nat) (qs : List (Int × Int)) (W : World)
    (hG : NodesAt W nA ns) (hH : NodesAt W mA ms) (hr : SpansAt W rA rs) (hq : SpansAt W qA qs) (g1 : ns.length ≤ 9223372036854775807) (g2 : rs.length ≤ 9223372036854775807) (h1 : ms.length ≤ 9223372036854775807) (h2 : qs.length ≤ 9223372036854775807)
    (bG : ∀ x ∈ ns, NodeB x) (bH : ∀ x ∈ ms, NodeB x) :
    Calls Try.prog 20 #[.agg #[.slice nA ns.length ncap, .slice rA rs.length rcap], .agg #[.slice mA ms.length mcap, .slice qA qs.length qcap]] W fun e w' => e = .returned (.bool (decide (rs = qs) && sameL ns ms)) ∧ Ext W w' := by
  have HG := Lib.hid hG
  have HH := Lib.hid hH
  have HBG := Lib.hid bG
  have HBH := Lib.hid bH
  have HR := Lib.hid hr
  have HQ := Lib.hid hq
  have hw : Ext W ((W.alloc (.cells #[.slice nA ns.length ncap, .slice rA rs.length rcap] 25)).alloc (.cells #[.slice mA ms.length mcap, .slice qA qs.length qcap] 25)) := ((Ext.refl W).alloc _).alloc _
  have k2 := fun w' (h : Ext ((W.alloc (.cells #[.slice nA ns.length ncap, .slice rA rs.length rcap] 25)).alloc (.cells #[.slice mA ms.length mcap, .slice qA qs.length qcap] 25)) w') => boxed W #[.slice nA ns.length ncap, .slice rA rs.length rcap] 25 0 (.slice nA ns.length ncap) rfl w' (((Ext.refl _).alloc _).trans h)
  have k5 := fun w' => boxed (W.alloc (.cells #[.slice nA ns.length ncap, .slice rA rs.length rcap] 25)) #[.slice mA ms.length mcap, .slice qA qs.length qcap] 25 0 (.slice mA ms.length mcap) rfl w'
  have hsz0 : ((W.alloc (.cells #[.slice nA ns.length ncap, .slice rA rs.length rcap] 25)).alloc (.cells #[.slice mA ms.length mcap, .slice qA qs.length qcap] 25)).heap.size = W.heap.size + 2 := by simp
  simp only [World.size_alloc] at k5
  clear hG hH bG bH hr hq
  by_cases hne : ns.length = ms.length
  rotate_left
  · have hd : ((ns.length : Int) != (ms.length : Int)) = true := by rw [bne_iff_ne]; omega
    have HN := Lib.hid (show (decide (rs = qs) && sameL ns ms) = false by rw [sameL_len hne, Bool.and_false])
    clear hne k2 k5
    go_enter Try.func20, Try.ntmps20
    go_wp2_with fail
    go_ret
    exact ⟨ret_bool HN.out.symm, hw⟩
  have HN := Lib.hid hne
  have hd : ((ns.length : Int) != (ms.length : Int)) = false := by rw [← HN.out]; simp
  obtain ⟨b, hb⟩ : ∃ b, decide (rs = qs) = b := ⟨_, rfl⟩
  have HB := Lib.hid hb
  rw [hb]
  clear hne hb
  go_enter Try.func20, Try.ntmps20
  go_wp2_with fail
  generalize ((W.alloc (.cells #[.slice nA ns.length ncap, .slice rA rs.length rcap] 25)).alloc (.cells #[.slice mA ms.length mcap, .slice qA qs.length qcap] 25)) = W0 at *
  refine (vals_is rA qA rcap qcap rs qs b HB.out _ g2 h2 (HR.out.ext hw) (HQ.out.ext hw)).mono ?_
  rintro e W1 ⟨rfl, hx1⟩
  have HW := Lib.hid (hw.trans hx1)
  have hs1 := Ext.size hx1
  replace k2 := fun w' (h : Ext W1 w') => k2 w' (hx1.trans h)
  replace k5 := fun w' (h : Ext W1 w') => k5 w' (hx1.trans h)
  cases b
  · go_wp2_with fail
    go_ret
    exact ⟨rfl, HW.out⟩
  clear hx1 hw HR HQ HB
  go_wp2_with fail
  go_loopw [5] (fun i wr => ∃ k : Nat, k ≤ ns.length ∧ i = .int .i64 k ∧ Ext W1 wr ∧ Hid (∀ i, i < k → sameN (ns.getD i default) (ms.getD i default) = true)) (fun i _ => ns.length - (intOf i).toNat)
  case atStart => exact ⟨0, by omega, rfl, Ext.refl _, Lib.hid (by omega)⟩
  case round =>
    obtain ⟨k, hk, rfl, hxr, hq⟩ := hrel
    have b0 := k2 _ hxr
    have b1 := k5 _ hxr
    have HX := Lib.hid hxr
    have hsr := Ext.size hxr
    by_cases hlt : k < ns.length
    rotate_left
    · have HR := Lib.hid (sameL_all HN.out (fun i hi => hq.out i (by omega)))
      clear hq
      go_wp2_with fail
      go_ret
      exact ⟨ret_bool (by rw [HR.out]; rfl), HW.out.trans HX.out⟩
    have hlt2 : k < ms.length := by have := HN.out; omega
    obtain ⟨lb, off, rfl, hc⟩ := HG.out.row.get (by omega)
    obtain ⟨lb2, off2, rfl, hc2⟩ := HH.out.row.get (by omega)
    obtain ⟨d0, d1, d2⟩ := nodes_cell hc hlt
    obtain ⟨d3, d4, d5⟩ := nodes_cell hc2 hlt2
    have HXW := Lib.hid (HW.out.trans hxr)
    have e0 := HXW.out.cell d0
    have e1 := HXW.out.cell d1
    have e2 := HXW.out.cell d2
    have e3 := HXW.out.cell d3
    have e4 := HXW.out.cell d4
    have e5 := HXW.out.cell d5
    have HNX := Lib.hid (HG.out.each _ (getD_mem (d := default) hlt))
    have HNY := Lib.hid (HH.out.each _ (getD_mem (d := default) hlt2))
    obtain ⟨x1, x2⟩ := HBG.out _ (getD_mem (d := default) hlt)
    obtain ⟨y1, y2⟩ := HBH.out _ (getD_mem (d := default) hlt2)
    have HU := Lib.hid (fun h => upTo2 (a := ns) (b := ms) hq.out h)
    have HO := Lib.hid (fun h => sameL_one (a := ns) (b := ms) hlt hlt2 h)
    have ib1 : (k : Int) < (ns.length : Int) := by omega
    have ib2 : (k : Int) < (ms.length : Int) := by omega
    have ib3 : (0 : Int) ≤ (k : Int) := by omega
    have hs0 : Ext wr wr := Ext.refl wr
    clear hc hc2 d0 d1 d2 d3 d4 d5 hq HG HH HBG HBH k2 k5 hxr
    generalize ns.getD k default = x at *
    generalize ms.getD k default = y at *
    have l0 : ∀ u : ExtOf wr, u.1.cell? ⟨W.heap.size, 0, none⟩ = some (.slice (some ⟨lb, off, none⟩) ns.length ncap) := fun u => u.2.cell b0
    have l1 : ∀ u : ExtOf wr, u.1.cell? ⟨W.heap.size + 1, 0, none⟩ = some (.slice (some ⟨lb2, off2, none⟩) ms.length mcap) := fun u => u.2.cell b1
    have l2 : ∀ u : ExtOf wr, u.1.cell? ⟨lb, off + k * 3, none⟩ = some (.int .i64 x.kind) := fun u => u.2.cell e0
    have l3 : ∀ u : ExtOf wr, u.1.cell? ⟨lb, off + k * 3 + 1, none⟩ = some (.slice x.fA x.fields.length x.fcap) := fun u => u.2.cell e1
    have l4 : ∀ u : ExtOf wr, u.1.cell? ⟨lb, off + k * 3 + 2, none⟩ = some (.slice x.rA x.raws.length x.rcap) := fun u => u.2.cell e2
    have l5 : ∀ u : ExtOf wr, u.1.cell? ⟨lb2, off2 + k * 3, none⟩ = some (.int .i64 y.kind) := fun u => u.2.cell e3
    have l6 : ∀ u : ExtOf wr, u.1.cell? ⟨lb2, off2 + k * 3 + 1, none⟩ = some (.slice y.fA y.fields.length y.fcap) := fun u => u.2.cell e4
    have l7 : ∀ u : ExtOf wr, u.1.cell? ⟨lb2, off2 + k * 3 + 2, none⟩ = some (.slice y.rA y.raws.length y.rcap) := fun u => u.2.cell e5
    go_wp2_with fail
    refine wp_region_tree (fun w' => ∃ u : ExtOf wr, w' = u.1) [0, 1, 2, 3, 4, 5, 6, 7, 8, 9] 4 [(10, [(11, [(12, [(13, ())])]), (12, [(11, [(13, ())])])]), (11, [(10, [(12, [(13, ())])])])] [] (by kernel_rfl) (by kernel_rfl) (by intro c a d v w h; cases d <;> exact h) ⟨⟨_, (Ext.refl wr).drew⟩, rfl⟩ ?_
    simp only [opsOf, List.map_cons, List.map_nil, List.getD_cons_zero, List.getD_cons_succ]
    (repeat (go_big_quiet_step (fail)))
    refine wpQuiet_nil ?_
    have hs1 : Ext wr wr.drew := (Ext.refl wr).drew
    have hs2 : wr.drew.heap.size = wr.heap.size := rfl
    generalize wr.drew = w0 at *
    refine tr_two ?_ ?_
    · (refine op_step (by rfl) ?_; intro K hK; go_simp; refine hK _ _ (ext_u ?_) ?_; (focus exact (by repeat (first | (with_reducible exact Ext.refl _) | (with_reducible assumption) | (with_reducible refine Ext.drew ?_) | (with_reducible refine Ext.alloc ?_ _) | ((with_reducible refine Ext.setCell ?_ ?_ _); rotate_left; (focus (simp; try omega))) | (with_reducible refine Ext.trans ?_ (by assumption))))); clear hK K)
      refine tr_two ?_ ?_
      · (refine op_step (by rfl) ?_; intro K hK; go_simp; refine hK _ _ (ext_u ?_) ?_; (focus exact (by repeat (first | (with_reducible exact Ext.refl _) | (with_reducible assumption) | (with_reducible refine Ext.drew ?_) | (with_reducible refine Ext.alloc ?_ _) | ((with_reducible refine Ext.setCell ?_ ?_ _); rotate_left; (focus (simp; try omega))) | (with_reducible refine Ext.trans ?_ (by assumption))))); clear hK K)
        refine tr_one ?_
        (refine op_step (by rfl) ?_; intro K hK; go_simp; refine hK _ _ (ext_u ?_) ?_; (focus exact (by repeat (first | (with_reducible exact Ext.refl _) | (with_reducible assumption) | (with_reducible refine Ext.drew ?_) | (with_reducible refine Ext.alloc ?_ _) | ((with_reducible refine Ext.setCell ?_ ?_ _); rotate_left; (focus (simp; try omega))) | (with_reducible refine Ext.trans ?_ (by assumption))))); clear hK K)
        refine tr_one ?_
        (refine op_step (by rfl) ?_; intro K hK; go_simp; refine hK _ _ (ext_u ?_) ?_; (focus exact (by repeat (first | (with_reducible exact Ext.refl _) | (with_reducible assumption) | (with_reducible refine Ext.drew ?_) | (with_reducible refine Ext.alloc ?_ _) | ((with_reducible refine Ext.setCell ?_ ?_ _); rotate_left; (focus (simp; try omega))) | (with_reducible refine Ext.trans ?_ (by assumption))))); clear hK K)
        refine tr_nil ?_
        have hwn : Ext wr ((w0.alloc (.cells #[.int .i64 x.kind, .slice x.fA x.fields.length x.fcap, .slice x.rA x.raws.length x.rcap] 34)).alloc (.cells #[.int .i64 y.kind, .slice y.fA y.fields.length y.fcap, .slice y.rA y.raws.length y.rcap] 34)) := (hs1.alloc _).alloc _
        have kx0 := fun w' (h : Ext ((w0.alloc (.cells #[.int .i64 x.kind, .slice x.fA x.fields.length x.fcap, .slice x.rA x.raws.length x.rcap] 34)).alloc (.cells #[.int .i64 y.kind, .slice y.fA y.fields.length y.fcap, .slice y.rA y.raws.length y.rcap] 34)) w') => boxed w0 #[.int .i64 x.kind, .slice x.fA x.fields.length x.fcap, .slice x.rA x.raws.length x.rcap] 34 0 (.int .i64 x.kind) rfl w' (((Ext.refl _).alloc _).trans h)
        have kx1 := fun w' (h : Ext ((w0.alloc (.cells #[.int .i64 x.kind, .slice x.fA x.fields.length x.fcap, .slice x.rA x.raws.length x.rcap] 34)).alloc (.cells #[.int .i64 y.kind, .slice y.fA y.fields.length y.fcap, .slice y.rA y.raws.length y.rcap] 34)) w') => boxed w0 #[.int .i64 x.kind, .slice x.fA x.fields.length x.fcap, .slice x.rA x.raws.length x.rcap] 34 1 (.slice x.fA x.fields.length x.fcap) rfl w' (((Ext.refl _).alloc _).trans h)
        have kx2 := fun w' (h : Ext ((w0.alloc (.cells #[.int .i64 x.kind, .slice x.fA x.fields.length x.fcap, .slice x.rA x.raws.length x.rcap] 34)).alloc (.cells #[.int .i64 y.kind, .slice y.fA y.fields.length y.fcap, .slice y.rA y.raws.length y.rcap] 34)) w') => boxed w0 #[.int .i64 x.kind, .slice x.fA x.fields.length x.fcap, .slice x.rA x.raws.length x.rcap] 34 2 (.slice x.rA x.raws.length x.rcap) rfl w' (((Ext.refl _).alloc _).trans h)
        have ky0 := fun w' (h : Ext ((w0.alloc (.cells #[.int .i64 x.kind, .slice x.fA x.fields.length x.fcap, .slice x.rA x.raws.length x.rcap] 34)).alloc (.cells #[.int .i64 y.kind, .slice y.fA y.fields.length y.fcap, .slice y.rA y.raws.length y.rcap] 34)) w') => boxed (w0.alloc (.cells #[.int .i64 x.kind, .slice x.fA x.fields.length x.fcap, .slice x.rA x.raws.length x.rcap] 34)) #[.int .i64 y.kind, .slice y.fA y.fields.length y.fcap, .slice y.rA y.raws.length y.rcap] 34 0 (.int .i64 y.kind) rfl w' (h)
        have ky1 := fun w' (h : Ext ((w0.alloc (.cells #[.int .i64 x.kind, .slice x.fA x.fields.length x.fcap, .slice x.rA x.raws.length x.rcap] 34)).alloc (.cells #[.int .i64 y.kind, .slice y.fA y.fields.length y.fcap, .slice y.rA y.raws.length y.rcap] 34)) w') => boxed (w0.alloc (.cells #[.int .i64 x.kind, .slice x.fA x.fields.length x.fcap, .slice x.rA x.raws.length x.rcap] 34)) #[.int .i64 y.kind, .slice y.fA y.fields.length y.fcap, .slice y.rA y.raws.length y.rcap] 34 1 (.slice y.fA y.fields.length y.fcap) rfl w' (h)
        have ky2 := fun w' (h : Ext ((w0.alloc (.cells #[.int .i64 x.kind, .slice x.fA x.fields.length x.fcap, .slice x.rA x.raws.length x.rcap] 34)).alloc (.cells #[.int .i64 y.kind, .slice y.fA y.fields.length y.fcap, .slice y.rA y.raws.length y.rcap] 34)) w') => boxed (w0.alloc (.cells #[.int .i64 x.kind, .slice x.fA x.fields.length x.fcap, .slice x.rA x.raws.length x.rcap] 34)) #[.int .i64 y.kind, .slice y.fA y.fields.length y.fcap, .slice y.rA y.raws.length y.rcap] 34 2 (.slice y.rA y.raws.length y.rcap) rfl w' (h)
        simp only [World.size_alloc, hs2] at kx0 kx1 kx2 ky0 ky1 ky2
        generalize ((w0.alloc (.cells #[.int .i64 x.kind, .slice x.fA x.fields.length x.fcap, .slice x.rA x.raws.length x.rcap] 34)).alloc (.cells #[.int .i64 y.kind, .slice y.fA y.fields.length y.fcap, .slice y.rA y.raws.length y.rcap] 34)) = Wn at *
        have cx0 := kx0 _ (Ext.refl _)
        have cx1 := kx1 _ (Ext.refl _)
        have cx2 := kx2 _ (Ext.refl _)
        have cy0 := ky0 _ (Ext.refl _)
        have cy1 := ky1 _ (Ext.refl _)
        have cy2 := ky2 _ (Ext.refl _)
        have HWN := Lib.hid hwn
        clear hs1 hs2 hwn
        by_cases hkk : x.kind = y.kind
        rotate_left
        · have hd : (x.kind != y.kind) = true := by simpa using hkk
          have HR := Lib.hid (HO.out (by simp [sameN, hkk]))
          clear HO HU hkk
          go_wp2_with fail
          go_ret
          exact ⟨ret_bool (by rw [HR.out]; rfl), HXW.out.trans HWN.out⟩
        have hd : (x.kind != y.kind) = false := by simpa using hkk
        obtain ⟨b, hb⟩ : ∃ b, decide (x.fields = y.fields) = b := ⟨_, rfl⟩
        obtain ⟨c, hc⟩ : ∃ c, decide (x.raws = y.raws) = c := ⟨_, rfl⟩
        have HS := Lib.hid (show sameN x y = (b && c) by simp [sameN, hkk, hb, hc])
        have HB := Lib.hid hb
        have HC := Lib.hid hc
        clear hb hc hkk
        go_wp2_with fail
        refine (vals_is x.fA y.fA x.fcap y.fcap x.fields y.fields b HB.out _ x1 y1 (HNX.out.fields.ext (HXW.out.trans HWN.out)) (HNY.out.fields.ext (HXW.out.trans HWN.out))).mono ?_
        rintro e w1 ⟨rfl, hx1⟩
        have cx2 := kx2 _ hx1
        have cy2 := ky2 _ hx1
        have HX1 := Lib.hid (HWN.out.trans hx1)
        clear hx1
        cases b
        · have HR := Lib.hid (HO.out HS.out)
          clear HO HU
          go_wp2_with fail
          go_ret
          exact ⟨ret_bool (by rw [HR.out]; rfl), HXW.out.trans HX1.out⟩
        go_wp2_with fail
        refine (refwords_is x.rA y.rA x.rcap y.rcap x.raws y.raws c HC.out _ x2 y2 (HNX.out.raws.ext (HXW.out.trans HX1.out)) (HNY.out.raws.ext (HXW.out.trans HX1.out))).mono ?_
        rintro e w2 ⟨rfl, hx2⟩
        have HX2 := Lib.hid (HX1.out.trans hx2)
        clear hx2
        cases c
        · have HR := Lib.hid (HO.out HS.out)
          clear HO HU
          go_wp2_with fail
          go_ret
          exact ⟨ret_bool (by rw [HR.out]; rfl), HXW.out.trans HX2.out⟩
        · have HR := Lib.hid (HU.out HS.out)
          clear HO HU
          go_wp2_with fail
          go_roundw
          case rel => exact ⟨k + 1, by omega, by go_num, HX.out.trans HX2.out, HR⟩
          case measure => simp [intOf]; omega
      · (refine op_step (by rfl) ?_; intro K hK; go_simp; refine hK _ _ (ext_u ?_) ?_; (focus exact (by repeat (first | (with_reducible exact Ext.refl _) | (with_reducible assumption) | (with_reducible refine Ext.drew ?_) | (with_reducible refine Ext.alloc ?_ _) | ((with_reducible refine Ext.setCell ?_ ?_ _); rotate_left; (focus (simp; try omega))) | (with_reducible refine Ext.trans ?_ (by assumption))))); clear hK K)
        refine tr_one ?_
        (refine op_step (by rfl) ?_; intro K hK; go_simp; refine hK _ _ (ext_u ?_) ?_; (focus exact (by repeat (first | (with_reducible exact Ext.refl _) | (with_reducible assumption) | (with_reducible refine Ext.drew ?_) | (with_reducible refine Ext.alloc ?_ _) | ((with_reducible refine Ext.setCell ?_ ?_ _); rotate_left; (focus (simp; try omega))) | (with_reducible refine Ext.trans ?_ (by assumption))))); clear hK K)
        refine tr_one ?_
        (refine op_step (by rfl) ?_; intro K hK; go_simp; refine hK _ _ (ext_u ?_) ?_; (focus exact (by repeat (first | (with_reducible exact Ext.refl _) | (with_reducible assumption) | (with_reducible refine Ext.drew ?_) | (with_reducible refine Ext.alloc ?_ _) | ((with_reducible refine Ext.setCell ?_ ?_ _); rotate_left; (focus (simp; try omega))) | (with_reducible refine Ext.trans ?_ (by assumption))))); clear hK K)
        refine tr_nil ?_
        have hwn : Ext wr ((w0.alloc (.cells #[.int .i64 x.kind, .slice x.fA x.fields.length x.fcap, .slice x.rA x.raws.length x.rcap] 34)).alloc (.cells #[.int .i64 y.kind, .slice y.fA y.fields.length y.fcap, .slice y.rA y.raws.length y.rcap] 34)) := (hs1.alloc _).alloc _
        have kx0 := fun w' (h : Ext ((w0.alloc (.cells #[.int .i64 x.kind, .slice x.fA x.fields.length x.fcap, .slice x.rA x.raws.length x.rcap] 34)).alloc (.cells #[.int .i64 y.kind, .slice y.fA y.fields.length y.fcap, .slice y.rA y.raws.length y.rcap] 34)) w') => boxed w0 #[.int .i64 x.kind, .slice x.fA x.fields.length x.fcap, .slice x.rA x.raws.length x.rcap] 34 0 (.int .i64 x.kind) rfl w' (((Ext.refl _).alloc _).trans h)
        have kx1 := fun w' (h : Ext ((w0.alloc (.cells #[.int .i64 x.kind, .slice x.fA x.fields.length x.fcap, .slice x.rA x.raws.length x.rcap] 34)).alloc (.cells #[.int .i64 y.kind, .slice y.fA y.fields.length y.fcap, .slice y.rA y.raws.length y.rcap] 34)) w') => boxed w0 #[.int .i64 x.kind, .slice x.fA x.fields.length x.fcap, .slice x.rA x.raws.length x.rcap] 34 1 (.slice x.fA x.fields.length x.fcap) rfl w' (((Ext.refl _).alloc _).trans h)
        have kx2 := fun w' (h : Ext ((w0.alloc (.cells #[.int .i64 x.kind, .slice x.fA x.fields.length x.fcap, .slice x.rA x.raws.length x.rcap] 34)).alloc (.cells #[.int .i64 y.kind, .slice y.fA y.fields.length y.fcap, .slice y.rA y.raws.length y.rcap] 34)) w') => boxed w0 #[.int .i64 x.kind, .slice x.fA x.fields.length x.fcap, .slice x.rA x.raws.length x.rcap] 34 2 (.slice x.rA x.raws.length x.rcap) rfl w' (((Ext.refl _).alloc _).trans h)
        have ky0 := fun w' (h : Ext ((w0.alloc (.cells #[.int .i64 x.kind, .slice x.fA x.fields.length x.fcap, .slice x.rA x.raws.length x.rcap] 34)).alloc (.cells #[.int .i64 y.kind, .slice y.fA y.fields.length y.fcap, .slice y.rA y.raws.length y.rcap] 34)) w') => boxed (w0.alloc (.cells #[.int .i64 x.kind, .slice x.fA x.fields.length x.fcap, .slice x.rA x.raws.length x.rcap] 34)) #[.int .i64 y.kind, .slice y.fA y.fields.length y.fcap, .slice y.rA y.raws.length y.rcap] 34 0 (.int .i64 y.kind) rfl w' (h)
        have ky1 := fun w' (h : Ext ((w0.alloc (.cells #[.int .i64 x.kind, .slice x.fA x.fields.length x.fcap, .slice x.rA x.raws.length x.rcap] 34)).alloc (.cells #[.int .i64 y.kind, .slice y.fA y.fields.length y.fcap, .slice y.rA y.raws.length y.rcap] 34)) w') => boxed (w0.alloc (.cells #[.int .i64 x.kind, .slice x.fA x.fields.length x.fcap, .slice x.rA x.raws.length x.rcap] 34)) #[.int .i64 y.kind, .slice y.fA y.fields.length y.fcap, .slice y.rA y.raws.length y.rcap] 34 1 (.slice y.fA y.fields.length y.fcap) rfl w' (h)
        have ky2 := fun w' (h : Ext ((w0.alloc (.cells #[.int .i64 x.kind, .slice x.fA x.fields.length x.fcap, .slice x.rA x.raws.length x.rcap] 34)).alloc (.cells #[.int .i64 y.kind, .slice y.fA y.fields.length y.fcap, .slice y.rA y.raws.length y.rcap] 34)) w') => boxed (w0.alloc (.cells #[.int .i64 x.kind, .slice x.fA x.fields.length x.fcap, .slice x.rA x.raws.length x.rcap] 34)) #[.int .i64 y.kind, .slice y.fA y.fields.length y.fcap, .slice y.rA y.raws.length y.rcap] 34 2 (.slice y.rA y.raws.length y.rcap) rfl w' (h)
        simp only [World.size_alloc, hs2] at kx0 kx1 kx2 ky0 ky1 ky2
        generalize ((w0.alloc (.cells #[.int .i64 x.kind, .slice x.fA x.fields.length x.fcap, .slice x.rA x.raws.length x.rcap] 34)).alloc (.cells #[.int .i64 y.kind, .slice y.fA y.fields.length y.fcap, .slice y.rA y.raws.length y.rcap] 34)) = Wn at *
        have cx0 := kx0 _ (Ext.refl _)
        have cx1 := kx1 _ (Ext.refl _)
        have cx2 := kx2 _ (Ext.refl _)
        have cy0 := ky0 _ (Ext.refl _)
        have cy1 := ky1 _ (Ext.refl _)
        have cy2 := ky2 _ (Ext.refl _)
        have HWN := Lib.hid hwn
        clear hs1 hs2 hwn
        by_cases hkk : x.kind = y.kind
        rotate_left
        · have hd : (x.kind != y.kind) = true := by simpa using hkk
          have HR := Lib.hid (HO.out (by simp [sameN, hkk]))
          clear HO HU hkk
          go_wp2_with fail
          go_ret
          exact ⟨ret_bool (by rw [HR.out]; rfl), HXW.out.trans HWN.out⟩
        have hd : (x.kind != y.kind) = false := by simpa using hkk
        obtain ⟨b, hb⟩ : ∃ b, decide (x.fields = y.fields) = b := ⟨_, rfl⟩
        obtain ⟨c, hc⟩ : ∃ c, decide (x.raws = y.raws) = c := ⟨_, rfl⟩
        have HS := Lib.hid (show sameN x y = (b && c) by simp [sameN, hkk, hb, hc])
        have HB := Lib.hid hb
        have HC := Lib.hid hc
        clear hb hc hkk
        go_wp2_with fail
        refine (vals_is x.fA y.fA x.fcap y.fcap x.fields y.fields b HB.out _ x1 y1 (HNX.out.fields.ext (HXW.out.trans HWN.out)) (HNY.out.fields.ext (HXW.out.trans HWN.out))).mono ?_
        rintro e w1 ⟨rfl, hx1⟩
        have cx2 := kx2 _ hx1
        have cy2 := ky2 _ hx1
        have HX1 := Lib.hid (HWN.out.trans hx1)
        clear hx1
        cases b
        · have HR := Lib.hid (HO.out HS.out)
          clear HO HU
          go_wp2_with fail
          go_ret
          exact ⟨ret_bool (by rw [HR.out]; rfl), HXW.out.trans HX1.out⟩
        go_wp2_with fail
        refine (refwords_is x.rA y.rA x.rcap y.rcap x.raws y.raws c HC.out _ x2 y2 (HNX.out.raws.ext (HXW.out.trans HX1.out)) (HNY.out.raws.ext (HXW.out.trans HX1.out))).mono ?_
        rintro e w2 ⟨rfl, hx2⟩
        have HX2 := Lib.hid (HX1.out.trans hx2)
        clear hx2
        cases c
        · have HR := Lib.hid (HO.out HS.out)
          clear HO HU
          go_wp2_with fail
          go_ret
          exact ⟨ret_bool (by rw [HR.out]; rfl), HXW.out.trans HX2.out⟩
        · have HR := Lib.hid (HU.out HS.out)
          clear HO HU
          go_wp2_with fail
          go_roundw
          case rel => exact ⟨k + 1, by omega, by go_num, HX.out.trans HX2.out, HR⟩
          case measure => simp [intOf]; omega
    · (refine op_step (by rfl) ?_; intro K hK; go_simp; refine hK _ _ (ext_u ?_) ?_; (focus exact (by repeat (first | (with_reducible exact Ext.refl _) | (with_reducible assumption) | (with_reducible refine Ext.drew ?_) | (with_reducible refine Ext.alloc ?_ _) | ((with_reducible refine Ext.setCell ?_ ?_ _); rotate_left; (focus (simp; try omega))) | (with_reducible refine Ext.trans ?_ (by assumption))))); clear hK K)
      refine tr_one ?_
      (refine op_step (by rfl) ?_; intro K hK; go_simp; refine hK _ _ (ext_u ?_) ?_; (focus exact (by repeat (first | (with_reducible exact Ext.refl _) | (with_reducible assumption) | (with_reducible refine Ext.drew ?_) | (with_reducible refine Ext.alloc ?_ _) | ((with_reducible refine Ext.setCell ?_ ?_ _); rotate_left; (focus (simp; try omega))) | (with_reducible refine Ext.trans ?_ (by assumption))))); clear hK K)
      refine tr_one ?_
      (refine op_step (by rfl) ?_; intro K hK; go_simp; refine hK _ _ (ext_u ?_) ?_; (focus exact (by repeat (first | (with_reducible exact Ext.refl _) | (with_reducible assumption) | (with_reducible refine Ext.drew ?_) | (with_reducible refine Ext.alloc ?_ _) | ((with_reducible refine Ext.setCell ?_ ?_ _); rotate_left; (focus (simp; try omega))) | (with_reducible refine Ext.trans ?_ (by assumption))))); clear hK K)
      refine tr_one ?_
      (refine op_step (by rfl) ?_; intro K hK; go_simp; refine hK _ _ (ext_u ?_) ?_; (focus exact (by repeat (first | (with_reducible exact Ext.refl _) | (with_reducible assumption) | (with_reducible refine Ext.drew ?_) | (with_reducible refine Ext.alloc ?_ _) | ((with_reducible refine Ext.setCell ?_ ?_ _); rotate_left; (focus (simp; try omega))) | (with_reducible refine Ext.trans ?_ (by assumption))))); clear hK K)
      refine tr_nil ?_
      have hwn : Ext wr ((w0.alloc (.cells #[.int .i64 y.kind, .slice y.fA y.fields.length y.fcap, .slice y.rA y.raws.length y.rcap] 34)).alloc (.cells #[.int .i64 x.kind, .slice x.fA x.fields.length x.fcap, .slice x.rA x.raws.length x.rcap] 34)) := (hs1.alloc _).alloc _
      have ky0 := fun w' (h : Ext ((w0.alloc (.cells #[.int .i64 y.kind, .slice y.fA y.fields.length y.fcap, .slice y.rA y.raws.length y.rcap] 34)).alloc (.cells #[.int .i64 x.kind, .slice x.fA x.fields.length x.fcap, .slice x.rA x.raws.length x.rcap] 34)) w') => boxed w0 #[.int .i64 y.kind, .slice y.fA y.fields.length y.fcap, .slice y.rA y.raws.length y.rcap] 34 0 (.int .i64 y.kind) rfl w' (((Ext.refl _).alloc _).trans h)
      have ky1 := fun w' (h : Ext ((w0.alloc (.cells #[.int .i64 y.kind, .slice y.fA y.fields.length y.fcap, .slice y.rA y.raws.length y.rcap] 34)).alloc (.cells #[.int .i64 x.kind, .slice x.fA x.fields.length x.fcap, .slice x.rA x.raws.length x.rcap] 34)) w') => boxed w0 #[.int .i64 y.kind, .slice y.fA y.fields.length y.fcap, .slice y.rA y.raws.length y.rcap] 34 1 (.slice y.fA y.fields.length y.fcap) rfl w' (((Ext.refl _).alloc _).trans h)
      have ky2 := fun w' (h : Ext ((w0.alloc (.cells #[.int .i64 y.kind, .slice y.fA y.fields.length y.fcap, .slice y.rA y.raws.length y.rcap] 34)).alloc (.cells #[.int .i64 x.kind, .slice x.fA x.fields.length x.fcap, .slice x.rA x.raws.length x.rcap] 34)) w') => boxed w0 #[.int .i64 y.kind, .slice y.fA y.fields.length y.fcap, .slice y.rA y.raws.length y.rcap] 34 2 (.slice y.rA y.raws.length y.rcap) rfl w' (((Ext.refl _).alloc _).trans h)
      have kx0 := fun w' (h : Ext ((w0.alloc (.cells #[.int .i64 y.kind, .slice y.fA y.fields.length y.fcap, .slice y.rA y.raws.length y.rcap] 34)).alloc (.cells #[.int .i64 x.kind, .slice x.fA x.fields.length x.fcap, .slice x.rA x.raws.length x.rcap] 34)) w') => boxed (w0.alloc (.cells #[.int .i64 y.kind, .slice y.fA y.fields.length y.fcap, .slice y.rA y.raws.length y.rcap] 34)) #[.int .i64 x.kind, .slice x.fA x.fields.length x.fcap, .slice x.rA x.raws.length x.rcap] 34 0 (.int .i64 x.kind) rfl w' (h)
      have kx1 := fun w' (h : Ext ((w0.alloc (.cells #[.int .i64 y.kind, .slice y.fA y.fields.length y.fcap, .slice y.rA y.raws.length y.rcap] 34)).alloc (.cells #[.int .i64 x.kind, .slice x.fA x.fields.length x.fcap, .slice x.rA x.raws.length x.rcap] 34)) w') => boxed (w0.alloc (.cells #[.int .i64 y.kind, .slice y.fA y.fields.length y.fcap, .slice y.rA y.raws.length y.rcap] 34)) #[.int .i64 x.kind, .slice x.fA x.fields.length x.fcap, .slice x.rA x.raws.length x.rcap] 34 1 (.slice x.fA x.fields.length x.fcap) rfl w' (h)
      have kx2 := fun w' (h : Ext ((w0.alloc (.cells #[.int .i64 y.kind, .slice y.fA y.fields.length y.fcap, .slice y.rA y.raws.length y.rcap] 34)).alloc (.cells #[.int .i64 x.kind, .slice x.fA x.fields.length x.fcap, .slice x.rA x.raws.length x.rcap] 34)) w') => boxed (w0.alloc (.cells #[.int .i64 y.kind, .slice y.fA y.fields.length y.fcap, .slice y.rA y.raws.length y.rcap] 34)) #[.int .i64 x.kind, .slice x.fA x.fields.length x.fcap, .slice x.rA x.raws.length x.rcap] 34 2 (.slice x.rA x.raws.length x.rcap) rfl w' (h)
      simp only [World.size_alloc, hs2] at kx0 kx1 kx2 ky0 ky1 ky2
      generalize ((w0.alloc (.cells #[.int .i64 y.kind, .slice y.fA y.fields.length y.fcap, .slice y.rA y.raws.length y.rcap] 34)).alloc (.cells #[.int .i64 x.kind, .slice x.fA x.fields.length x.fcap, .slice x.rA x.raws.length x.rcap] 34)) = Wn at *
      have cx0 := kx0 _ (Ext.refl _)
      have cx1 := kx1 _ (Ext.refl _)
      have cx2 := kx2 _ (Ext.refl _)
      have cy0 := ky0 _ (Ext.refl _)
      have cy1 := ky1 _ (Ext.refl _)
      have cy2 := ky2 _ (Ext.refl _)
      have HWN := Lib.hid hwn
      clear hs1 hs2 hwn
      by_cases hkk : x.kind = y.kind
      rotate_left
      · have hd : (x.kind != y.kind) = true := by simpa using hkk
        have HR := Lib.hid (HO.out (by simp [sameN, hkk]))
        clear HO HU hkk
        go_wp2_with fail
        go_ret
        exact ⟨ret_bool (by rw [HR.out]; rfl), HXW.out.trans HWN.out⟩
      have hd : (x.kind != y.kind) = false := by simpa using hkk
      obtain ⟨b, hb⟩ : ∃ b, decide (x.fields = y.fields) = b := ⟨_, rfl⟩
      obtain ⟨c, hc⟩ : ∃ c, decide (x.raws = y.raws) = c := ⟨_, rfl⟩
      have HS := Lib.hid (show sameN x y = (b && c) by simp [sameN, hkk, hb, hc])
      have HB := Lib.hid hb
      have HC := Lib.hid hc
      clear hb hc hkk
      go_wp2_with fail
      refine (vals_is x.fA y.fA x.fcap y.fcap x.fields y.fields b HB.out _ x1 y1 (HNX.out.fields.ext (HXW.out.trans HWN.out)) (HNY.out.fields.ext (HXW.out.trans HWN.out))).mono ?_
      rintro e w1 ⟨rfl, hx1⟩
      have cx2 := kx2 _ hx1
      have cy2 := ky2 _ hx1
      have HX1 := Lib.hid (HWN.out.trans hx1)
      clear hx1
      cases b
      · have HR := Lib.hid (HO.out HS.out)
        clear HO HU
        go_wp2_with fail
        go_ret
        exact ⟨ret_bool (by rw [HR.out]; rfl), HXW.out.trans HX1.out⟩
      go_wp2_with fail
      refine (refwords_is x.rA y.rA x.rcap y.rcap x.raws y.raws c HC.out _ x2 y2 (HNX.out.raws.ext (HXW.out.trans HX1.out)) (HNY.out.raws.ext (HXW.out.trans HX1.out))).mono ?_
      rintro e w2 ⟨rfl, hx2⟩
      have HX2 := Lib.hid (HX1.out.trans hx2)
      clear hx2
      cases c
      · have HR := Lib.hid (HO.out HS.out)
        clear HO HU
        go_wp2_with fail
        go_ret
        exact ⟨ret_bool (by rw [HR.out]; rfl), HXW.out.trans HX2.out⟩
      · have HR := Lib.hid (HU.out HS.out)
        clear HO HU
        go_wp2_with fail
        go_roundw
        case rel => exact ⟨k + 1, by omega, by go_num, HX.out.trans HX2.out, HR⟩
        case measure => simp [intOf]; omega
theorem refsame_any (G H : GraphD) (W : World) (hG : GraphAt W G) (hH : GraphAt W H) (oG : GraphOk G) (oH : GraphOk H) :
    Calls Try.prog 20 #[.agg #[.slice G.nA G.ns.length G.ncap, .slice G.rA G.rs.length G.rcap], .agg #[.slice H.nA H.ns.length H.ncap, .slice H.rA H.rs.length H.rcap]] W fun e w' => e = .returned (.bool (sameG G H)) ∧ Ext W w' := by
  have g1 := oG.nl
  have g2 := oG.rl
  have h1 := oH.nl
  have h2 := oH.rl
  exact refsame_x _ _ _ _ _ _ _ _ _ _ _ _ W hG.nodes hH.nodes hG.roots hH.roots (by omega) (by omega) (by omega) (by omega)
    (fun x hx => ⟨by have := (oG.each x hx).fl; omega, by have := (oG.each x hx).rl; omega⟩) (fun x hx => ⟨by have := (oH.each x hx).fl; omega, by have := (oH.each x hx).rl; omega⟩)
end Go.Proofs.Ytidfibheehcdgaa
