/- The reference's Copy. -/
import Derived.Test.YtidfibheehcdgaaGraN
set_option linter.unusedSimpArgs false
set_option linter.unusedVariables false
namespace Go.Proofs.Ytidfibheehcdgaa
open Go.RowKit Go.Shelf

/-- Two blocks that stand. -/
def CpS (Bo X : Nat) (o1 o2 : Obj) (w : World) : Prop := w.heap[Bo]? = some o1 ∧ w.heap[X]? = some o2
theorem CpS.ext {Bo X : Nat} {o1 o2 : Obj} {w w' : World} (h : CpS Bo X o1 o2 w) (hx : Ext w w') : CpS Bo X o1 o2 w' := ⟨(hx.block (lt_of_heap h.1)).trans h.1, (hx.block (lt_of_heap h.2)).trans h.2⟩
theorem Own.ne_block {α : Type} {e : TypeId} {n : Nat} {f : α → List Value} {B : Nat} {v : Value} {xs : List α} {w : World} (h : Own e n f w B v xs) {b : Nat} {ws : Array Value} {t : TypeId} {r : Nat × Nat} (hb : w.heap[b]? = some (.cells ws t r)) (hne : t ≠ e) : some b ≠ v.ownBlock := fun heq => by
  rcases h.2 with ⟨hv, _⟩ | ⟨b2, cap, cur, hv, _, hg2, _⟩
  · rw [hv] at heq; cases heq
  · rw [hv] at heq
    have : b = b2 := by simpa [Value.ownBlock] using heq
    subst this
    rw [hb] at hg2
    cases hg2
    exact hne rfl
theorem CopI.fin {V : World} {Bo : Nat} {g0 g1 : Value} {res : Array Value} {rs : List (Int × Int)} {cs : List NodeD} {A A1 : Option Addr} {cap cap1 : Nat} {wr : World}
    (h : CopI V Bo g0 g1 res rs cs (.slice A cs.length cap) (.slice A1 rs.length cap1) wr) (u0 u1 : Value) :
    OwnG ((wr.setCell ⟨V.heap.size + 1, 0, none⟩ u0).setCell ⟨V.heap.size + 1, 1, none⟩ u1) V.heap.size ⟨A, cap, cs, A1, cap1, rs⟩ ∧ Ext V ((wr.setCell ⟨V.heap.size + 1, 0, none⟩ u0).setCell ⟨V.heap.size + 1, 1, none⟩ u1) := by
  have h1 := heap_setCell_same wr (V.heap.size + 1) 0 _ _ u0 h.r
  exact ⟨⟨(h.own.setOther h.r (by decide)).setOther h1 (by decide), fun c hc => ⟨((h.each c hc).f.setOther h.r (by decide)).setOther h1 (by decide), ((h.each c hc).r.setOther h.r (by decide)).setOther h1 (by decide)⟩, (h.root.setOther h.r (by decide)).setOther h1 (by decide)⟩,
    (h.ext.setCell (by simp) _).setCell (by simp) _⟩
/-- A graph of the call's own comes back, that is another. -/
def RetG (V : World) (ns : List NodeD) (rs : List (Int × Int)) (e : Ending) (w' : World) : Prop :=
  ∃ H : GraphD, e = .returned (.agg #[.slice H.nA H.ns.length H.ncap, .slice H.rA H.rs.length H.rcap]) ∧ OwnG w' V.heap.size H ∧ H.ns.map nodeV = ns.map nodeV ∧ H.rs = rs ∧ Ext V w'
set_option maxRecDepth 100000
set_option maxHeartbeats 8000000
theorem refcopy_x (nA : Option Addr) (ncap : Nat) (ns : List NodeD) (rA : Option Addr) (rcap : Nat) (rs : List (Int × Int)) (V : World) (hN : NodesAt V nA ns) (hR : SpansAt V rA rs) (hn : ns.length ≤ 2513169434843) (hr : rs.length ≤ 8796093022208) (hrn : rA = none → rcap = 0) (hf : ∀ x ∈ ns, NodeOk x) :
    Calls Try.prog 22 #[.agg #[.slice nA ns.length ncap, .slice rA rs.length rcap]] V (RetG V ns rs) := by
  have HN := Lib.hid hN
  have HR := Lib.hid hR
  have HF := Lib.hid hf
  have HRN := Lib.hid hrn
  have hw1 : Ext V ((V.alloc (.cells #[.slice nA ns.length ncap, .slice rA rs.length rcap] 25)).alloc (.cells #[.slice none 0 0, .slice none 0 0] 25)) := ((Ext.refl V).alloc _).alloc _
  have hsz1 : ((V.alloc (.cells #[.slice nA ns.length ncap, .slice rA rs.length rcap] 25)).alloc (.cells #[.slice none 0 0, .slice none 0 0] 25)).heap.size = V.heap.size + 2 := by simp
  have hg1 : ((V.alloc (.cells #[.slice nA ns.length ncap, .slice rA rs.length rcap] 25)).alloc (.cells #[.slice none 0 0, .slice none 0 0] 25)).heap[V.heap.size]? = some (.cells #[.slice nA ns.length ncap, .slice rA rs.length rcap] 25 (0, 0)) := (Below.heap_alloc _ _ _ (by simp)).trans (World.alloc_heap_new _ _)
  have hr1 : ((V.alloc (.cells #[.slice nA ns.length ncap, .slice rA rs.length rcap] 25)).alloc (.cells #[.slice none 0 0, .slice none 0 0] 25)).heap[V.heap.size + 1]? = some (.cells #[.slice none 0 0, .slice none 0 0] 25 (0, 0)) := by
    have := World.alloc_heap_new (V.alloc (.cells #[.slice nA ns.length ncap, .slice rA rs.length rcap] 25)) (.cells #[.slice none 0 0, .slice none 0 0] 25)
    simpa using this
  have he0 := Own.empty 46 2 spanC ((V.alloc (.cells #[.slice nA ns.length ncap, .slice rA rs.length rcap] 25)).alloc (.cells #[.slice none 0 0, .slice none 0 0] 25)) V.heap.size (by rw [hsz1]; omega)
  rw [hsz1] at he0
  have HE0 := Lib.hid he0
  have HW1 := Lib.hid hw1
  have HG1 := Lib.hid hg1
  have HR1 := Lib.hid hr1
  clear hN hR hf hrn hw1 hg1 hr1 he0
  go_enter Try.func22, Try.ntmps22
  go_wp2_with (at_builtin; refine wpList_src rfl (.tmp 6) (.tmp 8) 23 rfl valInfo spanCells rfl (by exact HE0.out) rs rA rcap HRN.out rs.length rs.length (by simp) rfl rfl (by exact RowAt.ext HR.out (HW1.out.alloc _)) (by omega) (by simp [maxLen]; omega) (by simp; omega) ?_; intro A1 cap1 W1 hown1 hgr1 hat1; have HO1 := Lib.hid hown1; simp only [Act.eval] at hgr1; have HGR := Lib.hid (show World.grownBy _ W1 (some (V.heap.size + 2)) from hgr1); clear hown1 hgr1 hat1)
  have hgb : W1.heap[V.heap.size]? = some (.cells #[.slice nA ns.length ncap, .slice rA rs.length rcap] 25 (0, 0)) :=
    (HGR.out.block _ (by simp; omega) (by simp [Value.ownBlock])).trans ((Below.heap_alloc _ _ _ (by simp; omega)).trans HG1.out)
  have hrb : W1.heap[V.heap.size + 1]? = some (.cells #[.slice none 0 0, .slice none 0 0] 25 (0, 0)) :=
    (HGR.out.block _ (by simp) (by simp [Value.ownBlock])).trans ((Below.heap_alloc _ _ _ (by simp)).trans HR1.out)
  have hx1 : Ext V W1 := Own.below HE0.out (HW1.out.alloc _) HGR.out (by simp; omega)
  have hws := HGR.out.size
  simp only [World.size_alloc] at hws
  have hC0 : CopI V W1.heap.size (.slice nA ns.length ncap) (.slice rA rs.length rcap) #[.slice none 0 0, .slice none 0 0] rs [] (.slice none 0 0) (.slice A1 rs.length cap1) (W1.alloc (.cells #[.slice none 0 0, .slice A1 rs.length cap1] 25)) :=
    ⟨(Below.heap_alloc _ _ _ (lt_of_heap hgb)).trans hgb, (Below.heap_alloc _ _ _ (lt_of_heap hrb)).trans hrb, World.alloc_heap_new _ _, Own.nil _ _ _ _ _, by simp, HO1.out.ext ((Ext.refl _).alloc _), hx1.alloc _, by omega⟩
  have HC0 := Lib.hid hC0
  clear hgb hrb hx1 hC0 HGR HO1 HW1 HG1 HR1 HE0
  go_wp2_with fail
  generalize W1.alloc (.cells #[.slice none 0 0, .slice A1 rs.length cap1] 25) = W2 at *
  generalize W1.heap.size = Bo at *
  go_loopw [4] (fun i wr => ∃ (k : Nat) (cs : List NodeD) (A : Option Addr) (cap : Nat), k ≤ ns.length ∧ i = .int .i64 k ∧ Hid (cs.map nodeV = (ns.take k).map nodeV) ∧ Hid (CopI V Bo (.slice nA ns.length ncap) (.slice rA rs.length rcap) #[.slice none 0 0, .slice none 0 0] rs cs (.slice A cs.length cap) (.slice A1 rs.length cap1) wr)) (fun i _ => ns.length - (intOf i).toNat)
  case atStart => exact ⟨0, [], none, 0, by omega, rfl, Lib.hid rfl, HC0⟩
  case round =>
    obtain ⟨k, cs, A, cap, hk, rfl, hcs, hC⟩ := hrel
    have b0 : wr.cell? ⟨V.heap.size, 0, none⟩ = some (.slice nA ns.length ncap) := by simp [World.cell?, hC.out.g]
    have q0 : wr.cell? ⟨Bo, 0, none⟩ = some (.slice A cs.length cap) := by simp [World.cell?, hC.out.out]
    have q1 : wr.cell? ⟨Bo, 1, none⟩ = some (.slice A1 rs.length cap1) := by simp [World.cell?, hC.out.out]
    have hvs := hC.out.ext.size
    by_cases hlt : k < ns.length
    rotate_left
    · obtain rfl : k = ns.length := by omega
      have p0 : wr.cell? ⟨V.heap.size + 1, 0, none⟩ = some (.slice none 0 0) := by simp [World.cell?, hC.out.r]
      have p1 : wr.cell? ⟨V.heap.size + 1, 1, none⟩ = some (.slice none 0 0) := by simp [World.cell?, hC.out.r]
      have p2 : wr.frozen? ⟨V.heap.size + 1, 0, none⟩ = false := by simp [World.frozen?, hC.out.r]
      have p3 : wr.frozen? ⟨V.heap.size + 1, 1, none⟩ = false := by simp [World.frozen?, hC.out.r]
      have HFIN := Lib.hid (hC.out.fin (.slice A cs.length cap) (.slice A1 rs.length cap1))
      have HM := Lib.hid hcs.out
      go_wp2_with fail
      ((try simp only [Exit.inBlock, Exit.then]); refine bodyPost_ret (v := .agg #[.slice A cs.length cap, .slice A1 rs.length cap1]) (by simp only [results, Try.results22]; go_simp) rfl ?_)
      exact ⟨⟨A, cap, cs, A1, cap1, rs⟩, rfl, HFIN.out.1, by have := HM.out; rwa [List.take_length] at this, rfl, HFIN.out.2⟩
    obtain ⟨nb, noff, rfl, hcn⟩ := HN.out.row.get (by omega)
    obtain ⟨d0, d1, d2⟩ := nodes_cell hcn hlt
    have e0 := hC.out.ext.cell d0
    have e1 := hC.out.ext.cell d1
    have e2 := hC.out.ext.cell d2
    have HNA := Lib.hid (HN.out.each _ (getD_mem (d := default) hlt))
    have HOK := Lib.hid (HF.out _ (getD_mem (d := default) hlt))
    have HMS := Lib.hid (fun x => map_nodeV_snoc (x := x) hlt hcs.out)
    have hclb : cs.length ≤ 2513169434842 := by have := congrArg List.length hcs.out; simp at this; omega
    have ib1 : (k : Int) < (ns.length : Int) := by omega
    clear hcn d0 d1 d2
    generalize ns.getD k default = x at *
    obtain ⟨xk, xA, xc, fs, yA, yc, ys⟩ := x
    simp only at e0 e1 e2
    have HC1 := Lib.hid (hC.out.grow ((Ext.refl wr).alloc (.cells #[.int .i64 xk, .slice xA fs.length xc, .slice yA ys.length yc] 34)))
    have HBX := Lib.hid (World.alloc_heap_new wr (.cells #[.int .i64 xk, .slice xA fs.length xc, .slice yA ys.length yc] 34))
    have HVX := Lib.hid (show Value.ownBlock (.slice A cs.length cap) ≠ some wr.heap.size from fun e => by have := (World.ownsRow.lt hC.out.own _ e).2; omega)
    have HS1 := Lib.hid (show (wr.alloc (.cells #[.int .i64 xk, .slice xA fs.length xc, .slice yA ys.length yc] 34)).heap.size = wr.heap.size + 1 by simp)
    have HVS0 := Lib.hid hvs
    go_wp2_with fail
    clear hC hvs e0 e1 e2 b0 q0 q1
    generalize wr.alloc (.cells #[.int .i64 xk, .slice xA fs.length xc, .slice yA ys.length yc] 34) = w1 at *
    generalize wr.heap.size = X at *
    have HS := Lib.hid (show CpS Bo X (.cells #[.slice A cs.length cap, .slice A1 rs.length cap1] 25 (0, 0)) (.cells #[.int .i64 xk, .slice xA fs.length xc, .slice yA ys.length yc] 34 (0, 0)) w1.drew from ⟨HC1.out.out, HBX.out⟩)
    have HS0 := Lib.hid (show CpS Bo X (.cells #[.slice A cs.length cap, .slice A1 rs.length cap1] 25 (0, 0)) (.cells #[.int .i64 xk, .slice xA fs.length xc, .slice yA ys.length yc] 34 (0, 0)) w1 from ⟨HC1.out.out, HBX.out⟩)
    have l0 : ∀ u : KeptOf w1 (CpS Bo X (.cells #[.slice A cs.length cap, .slice A1 rs.length cap1] 25 (0, 0)) (.cells #[.int .i64 xk, .slice xA fs.length xc, .slice yA ys.length yc] 34 (0, 0))), u.1.cell? ⟨Bo, 0, none⟩ = some (.slice A cs.length cap) := fun u => by have := (u.of HS0.out).1; simp [World.cell?, this]
    have l1 : ∀ u : KeptOf w1 (CpS Bo X (.cells #[.slice A cs.length cap, .slice A1 rs.length cap1] 25 (0, 0)) (.cells #[.int .i64 xk, .slice xA fs.length xc, .slice yA ys.length yc] 34 (0, 0))), u.1.cell? ⟨X, 0, none⟩ = some (.int .i64 xk) := fun u => by have := (u.of HS0.out).2; simp [World.cell?, this]
    have l2 : ∀ u : KeptOf w1 (CpS Bo X (.cells #[.slice A cs.length cap, .slice A1 rs.length cap1] 25 (0, 0)) (.cells #[.int .i64 xk, .slice xA fs.length xc, .slice yA ys.length yc] 34 (0, 0))), u.1.cell? ⟨X, 1, none⟩ = some (.slice xA fs.length xc) := fun u => by have := (u.of HS0.out).2; simp [World.cell?, this]
    have l3 : ∀ u : KeptOf w1 (CpS Bo X (.cells #[.slice A cs.length cap, .slice A1 rs.length cap1] 25 (0, 0)) (.cells #[.int .i64 xk, .slice xA fs.length xc, .slice yA ys.length yc] 34 (0, 0))), u.1.cell? ⟨X, 2, none⟩ = some (.slice yA ys.length yc) := fun u => by have := (u.of HS0.out).2; simp [World.cell?, this]
    refine wp_region_tree (fun w' => ∃ u : KeptOf w1 (CpS Bo X (.cells #[.slice A cs.length cap, .slice A1 rs.length cap1] 25 (0, 0)) (.cells #[.int .i64 xk, .slice xA fs.length xc, .slice yA ys.length yc] 34 (0, 0))), w' = u.1) [0, 1, 2, 3, 5, 6, 9, 10] 7 [(4, [(7, [(8, [(11, [(12, [(13, [(14, ())])])])])]), (8, [(7, [(11, [(12, [(13, [(14, ())])])])])])]), (8, [(4, [(7, [(11, [(12, [(13, [(14, ())])])])])])])] [15, 16] (by kernel_rfl) (by kernel_rfl) (by intro c a d v w h; cases d <;> exact h) (kept_mk HS.out) ?_
    simp only [opsOf, List.map_cons, List.map_nil, List.getD_cons_zero, List.getD_cons_succ]
    (repeat (go_big_quiet_step (fail)))
    refine wpQuiet_nil ?_
    have HC2 := Lib.hid (HC1.out.grow ((Ext.refl w1).drew))
    have HVS := Lib.hid (show V.heap.size ≤ w1.drew.heap.size by have := HS1.out; have := HVS0.out; show V.heap.size ≤ w1.heap.size; omega)
    have HFA := Lib.hid (HNA.out.fields.ext HC2.out.ext)
    have HRA := Lib.hid (HNA.out.raws.ext HC2.out.ext)
    have HFN := Lib.hid HOK.out.fn
    have HRN2 := Lib.hid HOK.out.rn
    have hfl := HOK.out.fl
    have hrl := HOK.out.rl
    simp only at hfl hrl
    clear l0 l1 l2 l3 HC1 HS0 HBX HS1 HVS0 HNA HOK
    generalize w1.drew = w2 at *
    refine tr_two ?_ ?_
    · (refine op_step (by rfl) ?_; intro K hK; go_simp; refine hK _ _ (kept_mk (HS.out.ext ((Ext.refl w2).alloc _))) ?_; clear hK K)
      refine tr_two ?_ ?_
      · refine op_step (by rfl) ?_
        intro K hK
        have hoo := Own.empty 46 2 spanC w2 w2.heap.size (Nat.le_refl _)
        refine wp_app_src (.tmp 27) (.tmp 29) 23 rfl valInfo spanCells rfl hoo fs xA xc HFN.out fs.length fs.length (by simp) rfl rfl (by exact RowAt.ext HFA.out ((Ext.refl w2).alloc _)) (by omega) (by simp [maxLen]; omega) (by simp) ?_
        intro A2 cap2 w3 ho2 hg2 ht2
        have hx3 : Ext w2 w3 := Own.below hoo ((Below.refl _ _).alloc (Nat.le_refl _) _) hg2 (by simp)
        refine hK _ _ (kept_mk (HS.out.ext hx3)) ?_
        clear hK K
        refine tr_one ?_
        (refine op_step (by rfl) ?_; intro K hK; go_simp; refine hK _ _ (kept_mk (HS.out.ext (hx3.alloc _))) ?_; clear hK K)
        refine tr_one ?_
        refine op_step (by rfl) ?_
        intro K hK
        have hou := Own.empty 47 1 u64C w3 w2.heap.size hx3.size
        refine wp_app_src (.tmp 31) (.tmp 33) 32 rfl u64Info u64Cells rfl hou ys yA yc HRN2.out ys.length ys.length (by simp) rfl rfl (by exact RowAt.ext HRA.out (hx3.alloc _)) (by omega) (by simp [maxLen]; omega) (by have := hx3.size; simp; omega) ?_
        intro A3 cap3 w4 ho3 hg3 ht3
        have HX4 : Hid (Ext w2 w4) := Lib.hid (Own.below hou (Below.alloc hx3 hx3.size _) hg3 (by have := hx3.size; simp; omega))
        have HFO := Lib.hid (show Own 46 2 spanC w4 w2.heap.size (.slice A2 fs.length cap2) fs from (Own.ext ho2 ((Ext.refl _).alloc _)).keep2 hou (by decide) hg3)
        have HRO := Lib.hid (show Own 47 1 u64C w4 w2.heap.size (.slice A3 ys.length cap3) ys from ho3)
        refine hK _ _ (kept_mk (HS.out.ext HX4.out)) ?_
        clear hK K ho2 hg2 ht2 ho3 hg3 ht3 hoo hou hx3
        have hx4 := HX4.out
        have HS4 := Lib.hid (HS.out.ext hx4)
        have HC4 := Lib.hid (HC2.out.grow hx4)
        have hs4 := hx4.size
        clear hx4
        refine tr_one ?_
        (refine op_step (by rfl) ?_; intro K hK; go_simp; refine hK _ _ (kept_mk HS4.out) ?_; clear hK K)
        refine tr_one ?_
        (refine op_step (by rfl) ?_; intro K hK; go_simp; refine hK _ _ (kept_mk (HS4.out.ext ((Ext.refl _).alloc _))) ?_; clear hK K)
        have HC5 := Lib.hid (HC4.out.grow ((Ext.refl _).alloc (.cells #[.int .i64 xk, .slice A2 fs.length cap2, .slice A3 ys.length cap3] 34)))
        have HS5 := Lib.hid (HS4.out.ext ((Ext.refl _).alloc (.cells #[.int .i64 xk, .slice A2 fs.length cap2, .slice A3 ys.length cap3] 34)))
        have HNN := Lib.hid (show OwnN (w4.alloc (.cells #[.int .i64 xk, .slice A2 fs.length cap2, .slice A3 ys.length cap3] 34)) V.heap.size ⟨xk, A2, cap2, fs, A3, cap3, ys⟩ from ⟨(HFO.out.mono HVS.out).ext ((Ext.refl _).alloc _), (HRO.out.mono HVS.out).ext ((Ext.refl _).alloc _)⟩)
        refine tr_one ?_
        refine op_step (by rfl) ?_
        intro K hK
        refine wp_app (.tmp 24) (.tmp 36) 22 rfl nodeInfo nodeCells rfl HC5.out.own ⟨w4.heap.size, 0, none⟩ 1 [⟨xk, A2, cap2, fs, A3, cap3, ys⟩] (cs.length + 1) 1 (by simp) rfl rfl (row_lit w4 _ rfl nodeCells (by decide)) (by omega) (by simp [maxLen]; omega) (by have := HC5.out.ext.size; exact this) ?_
        intro A5 cap5 w5 ho5 hg5 ht5
        have hs5 : CpS Bo X (.cells #[.slice A cs.length cap, .slice A1 rs.length cap1] 25 (0, 0)) (.cells #[.int .i64 xk, .slice xA fs.length xc, .slice yA ys.length yc] 34 (0, 0)) w5 :=
          ⟨(hg5.block _ (lt_of_heap HS5.out.1) (HC5.out.own.ne_block HS5.out.1 (by decide))).trans HS5.out.1, (hg5.block _ (lt_of_heap HS5.out.2) (fun e => HVX.out e.symm)).trans HS5.out.2⟩
        have HC6 := Lib.hid (CopI.app HC5.out ho5 hg5 HNN.out)
        refine hK _ _ (kept_mk hs5) ?_
        clear hK K ho5 hg5 ht5
        have f1 : w5.cell? ⟨Bo, 0, none⟩ = some (.slice A cs.length cap) := by simp [World.cell?, hs5.1]
        have f2 : w5.frozen? ⟨Bo, 0, none⟩ = false := by simp [World.frozen?, hs5.1]
        clear hs5
        refine tr_nil ?_
        simp only [opsOf, List.map_cons, List.map_nil, List.getD_cons_zero, List.getD_cons_succ]
        go_wp2_with fail
        go_roundw
        case rel => exact ⟨k + 1, cs ++ [⟨xk, A2, cap2, fs, A3, cap3, ys⟩], A5, cap5, by omega, by go_num, Lib.hid (HMS.out _ rfl), Lib.hid (by rw [List.length_append]; exact HC6.out)⟩
        case measure => simp [intOf]; omega
      · (refine op_step (by rfl) ?_; intro K hK; go_simp; refine hK _ _ (kept_mk (HS.out.ext (((Ext.refl w2).alloc _).alloc _))) ?_; clear hK K)
        refine tr_one ?_
        refine op_step (by rfl) ?_
        intro K hK
        have hoo := Own.ext (Own.empty 46 2 spanC w2 w2.heap.size (Nat.le_refl _)) ((Ext.refl _).alloc (.cells #[] 47))
        refine wp_app_src (.tmp 27) (.tmp 29) 23 rfl valInfo spanCells rfl hoo fs xA xc HFN.out fs.length fs.length (by simp) rfl rfl (by exact RowAt.ext HFA.out (((Ext.refl w2).alloc _).alloc _)) (by omega) (by simp [maxLen]; omega) (by simp; omega) ?_
        intro A2 cap2 w3 ho2 hg2 ht2
        have hx3 : Ext w2 w3 := Own.below hoo (((Below.refl _ _).alloc (Nat.le_refl _) _).alloc (by simp) _) hg2 (by simp; omega)
        refine hK _ _ (kept_mk (HS.out.ext hx3)) ?_
        clear hK K
        refine tr_one ?_
        refine op_step (by rfl) ?_
        intro K hK
        have hou := ((show Own 47 1 u64C ((w2.alloc (.cells #[] 46)).alloc (.cells #[] 47)) w2.heap.size (.slice (some ⟨w2.heap.size + 1, 0, none⟩) 0 0) ([] : List Int) from by have := Own.empty 47 1 u64C (w2.alloc (.cells #[] 46)) w2.heap.size (by simp); rwa [World.size_alloc] at this)).keep2 hoo (by decide) hg2
        refine wp_app_src (.tmp 31) (.tmp 33) 32 rfl u64Info u64Cells rfl hou ys yA yc HRN2.out ys.length ys.length (by simp) rfl rfl (by exact RowAt.ext HRA.out (hx3)) (by omega) (by simp [maxLen]; omega) hx3.size ?_
        intro A3 cap3 w4 ho3 hg3 ht3
        have HX4 : Hid (Ext w2 w4) := Lib.hid (Own.below hou (hx3) hg3 hx3.size)
        have HFO := Lib.hid (show Own 46 2 spanC w4 w2.heap.size (.slice A2 fs.length cap2) fs from (ho2).keep2 hou (by decide) hg3)
        have HRO := Lib.hid (show Own 47 1 u64C w4 w2.heap.size (.slice A3 ys.length cap3) ys from ho3)
        refine hK _ _ (kept_mk (HS.out.ext HX4.out)) ?_
        clear hK K ho2 hg2 ht2 ho3 hg3 ht3 hoo hou hx3
        have hx4 := HX4.out
        have HS4 := Lib.hid (HS.out.ext hx4)
        have HC4 := Lib.hid (HC2.out.grow hx4)
        have hs4 := hx4.size
        clear hx4
        refine tr_one ?_
        (refine op_step (by rfl) ?_; intro K hK; go_simp; refine hK _ _ (kept_mk HS4.out) ?_; clear hK K)
        refine tr_one ?_
        (refine op_step (by rfl) ?_; intro K hK; go_simp; refine hK _ _ (kept_mk (HS4.out.ext ((Ext.refl _).alloc _))) ?_; clear hK K)
        have HC5 := Lib.hid (HC4.out.grow ((Ext.refl _).alloc (.cells #[.int .i64 xk, .slice A2 fs.length cap2, .slice A3 ys.length cap3] 34)))
        have HS5 := Lib.hid (HS4.out.ext ((Ext.refl _).alloc (.cells #[.int .i64 xk, .slice A2 fs.length cap2, .slice A3 ys.length cap3] 34)))
        have HNN := Lib.hid (show OwnN (w4.alloc (.cells #[.int .i64 xk, .slice A2 fs.length cap2, .slice A3 ys.length cap3] 34)) V.heap.size ⟨xk, A2, cap2, fs, A3, cap3, ys⟩ from ⟨(HFO.out.mono HVS.out).ext ((Ext.refl _).alloc _), (HRO.out.mono HVS.out).ext ((Ext.refl _).alloc _)⟩)
        refine tr_one ?_
        refine op_step (by rfl) ?_
        intro K hK
        refine wp_app (.tmp 24) (.tmp 36) 22 rfl nodeInfo nodeCells rfl HC5.out.own ⟨w4.heap.size, 0, none⟩ 1 [⟨xk, A2, cap2, fs, A3, cap3, ys⟩] (cs.length + 1) 1 (by simp) rfl rfl (row_lit w4 _ rfl nodeCells (by decide)) (by omega) (by simp [maxLen]; omega) (by have := HC5.out.ext.size; exact this) ?_
        intro A5 cap5 w5 ho5 hg5 ht5
        have hs5 : CpS Bo X (.cells #[.slice A cs.length cap, .slice A1 rs.length cap1] 25 (0, 0)) (.cells #[.int .i64 xk, .slice xA fs.length xc, .slice yA ys.length yc] 34 (0, 0)) w5 :=
          ⟨(hg5.block _ (lt_of_heap HS5.out.1) (HC5.out.own.ne_block HS5.out.1 (by decide))).trans HS5.out.1, (hg5.block _ (lt_of_heap HS5.out.2) (fun e => HVX.out e.symm)).trans HS5.out.2⟩
        have HC6 := Lib.hid (CopI.app HC5.out ho5 hg5 HNN.out)
        refine hK _ _ (kept_mk hs5) ?_
        clear hK K ho5 hg5 ht5
        have f1 : w5.cell? ⟨Bo, 0, none⟩ = some (.slice A cs.length cap) := by simp [World.cell?, hs5.1]
        have f2 : w5.frozen? ⟨Bo, 0, none⟩ = false := by simp [World.frozen?, hs5.1]
        clear hs5
        refine tr_nil ?_
        simp only [opsOf, List.map_cons, List.map_nil, List.getD_cons_zero, List.getD_cons_succ]
        go_wp2_with fail
        go_roundw
        case rel => exact ⟨k + 1, cs ++ [⟨xk, A2, cap2, fs, A3, cap3, ys⟩], A5, cap5, by omega, by go_num, Lib.hid (HMS.out _ rfl), Lib.hid (by rw [List.length_append]; exact HC6.out)⟩
        case measure => simp [intOf]; omega
    · (refine op_step (by rfl) ?_; intro K hK; go_simp; refine hK _ _ (kept_mk (HS.out.ext ((Ext.refl w2).alloc _))) ?_; clear hK K)
      refine tr_one ?_
      (refine op_step (by rfl) ?_; intro K hK; go_simp; refine hK _ _ (kept_mk (HS.out.ext (((Ext.refl w2).alloc _).alloc _))) ?_; clear hK K)
      refine tr_one ?_
      refine op_step (by rfl) ?_
      intro K hK
      have hoo := (show Own 46 2 spanC ((w2.alloc (.cells #[] 47)).alloc (.cells #[] 46)) w2.heap.size (.slice (some ⟨w2.heap.size + 1, 0, none⟩) 0 0) ([] : List (Int × Int)) from by have := Own.empty 46 2 spanC (w2.alloc (.cells #[] 47)) w2.heap.size (by simp); rwa [World.size_alloc] at this)
      refine wp_app_src (.tmp 27) (.tmp 29) 23 rfl valInfo spanCells rfl hoo fs xA xc HFN.out fs.length fs.length (by simp) rfl rfl (by exact RowAt.ext HFA.out (((Ext.refl w2).alloc _).alloc _)) (by omega) (by simp [maxLen]; omega) (by simp; omega) ?_
      intro A2 cap2 w3 ho2 hg2 ht2
      have hx3 : Ext w2 w3 := Own.below hoo (((Below.refl _ _).alloc (Nat.le_refl _) _).alloc (by simp) _) hg2 (by simp; omega)
      refine hK _ _ (kept_mk (HS.out.ext hx3)) ?_
      clear hK K
      refine tr_one ?_
      refine op_step (by rfl) ?_
      intro K hK
      have hou := (Own.ext (Own.empty 47 1 u64C w2 w2.heap.size (Nat.le_refl _)) ((Ext.refl _).alloc (.cells #[] 46))).keep2 hoo (by decide) hg2
      refine wp_app_src (.tmp 31) (.tmp 33) 32 rfl u64Info u64Cells rfl hou ys yA yc HRN2.out ys.length ys.length (by simp) rfl rfl (by exact RowAt.ext HRA.out (hx3)) (by omega) (by simp [maxLen]; omega) hx3.size ?_
      intro A3 cap3 w4 ho3 hg3 ht3
      have HX4 : Hid (Ext w2 w4) := Lib.hid (Own.below hou (hx3) hg3 hx3.size)
      have HFO := Lib.hid (show Own 46 2 spanC w4 w2.heap.size (.slice A2 fs.length cap2) fs from (ho2).keep2 hou (by decide) hg3)
      have HRO := Lib.hid (show Own 47 1 u64C w4 w2.heap.size (.slice A3 ys.length cap3) ys from ho3)
      refine hK _ _ (kept_mk (HS.out.ext HX4.out)) ?_
      clear hK K ho2 hg2 ht2 ho3 hg3 ht3 hoo hou hx3
      have hx4 := HX4.out
      have HS4 := Lib.hid (HS.out.ext hx4)
      have HC4 := Lib.hid (HC2.out.grow hx4)
      have hs4 := hx4.size
      clear hx4
      refine tr_one ?_
      (refine op_step (by rfl) ?_; intro K hK; go_simp; refine hK _ _ (kept_mk HS4.out) ?_; clear hK K)
      refine tr_one ?_
      (refine op_step (by rfl) ?_; intro K hK; go_simp; refine hK _ _ (kept_mk (HS4.out.ext ((Ext.refl _).alloc _))) ?_; clear hK K)
      have HC5 := Lib.hid (HC4.out.grow ((Ext.refl _).alloc (.cells #[.int .i64 xk, .slice A2 fs.length cap2, .slice A3 ys.length cap3] 34)))
      have HS5 := Lib.hid (HS4.out.ext ((Ext.refl _).alloc (.cells #[.int .i64 xk, .slice A2 fs.length cap2, .slice A3 ys.length cap3] 34)))
      have HNN := Lib.hid (show OwnN (w4.alloc (.cells #[.int .i64 xk, .slice A2 fs.length cap2, .slice A3 ys.length cap3] 34)) V.heap.size ⟨xk, A2, cap2, fs, A3, cap3, ys⟩ from ⟨(HFO.out.mono HVS.out).ext ((Ext.refl _).alloc _), (HRO.out.mono HVS.out).ext ((Ext.refl _).alloc _)⟩)
      refine tr_one ?_
      refine op_step (by rfl) ?_
      intro K hK
      refine wp_app (.tmp 24) (.tmp 36) 22 rfl nodeInfo nodeCells rfl HC5.out.own ⟨w4.heap.size, 0, none⟩ 1 [⟨xk, A2, cap2, fs, A3, cap3, ys⟩] (cs.length + 1) 1 (by simp) rfl rfl (row_lit w4 _ rfl nodeCells (by decide)) (by omega) (by simp [maxLen]; omega) (by have := HC5.out.ext.size; exact this) ?_
      intro A5 cap5 w5 ho5 hg5 ht5
      have hs5 : CpS Bo X (.cells #[.slice A cs.length cap, .slice A1 rs.length cap1] 25 (0, 0)) (.cells #[.int .i64 xk, .slice xA fs.length xc, .slice yA ys.length yc] 34 (0, 0)) w5 :=
        ⟨(hg5.block _ (lt_of_heap HS5.out.1) (HC5.out.own.ne_block HS5.out.1 (by decide))).trans HS5.out.1, (hg5.block _ (lt_of_heap HS5.out.2) (fun e => HVX.out e.symm)).trans HS5.out.2⟩
      have HC6 := Lib.hid (CopI.app HC5.out ho5 hg5 HNN.out)
      refine hK _ _ (kept_mk hs5) ?_
      clear hK K ho5 hg5 ht5
      have f1 : w5.cell? ⟨Bo, 0, none⟩ = some (.slice A cs.length cap) := by simp [World.cell?, hs5.1]
      have f2 : w5.frozen? ⟨Bo, 0, none⟩ = false := by simp [World.frozen?, hs5.1]
      clear hs5
      refine tr_nil ?_
      simp only [opsOf, List.map_cons, List.map_nil, List.getD_cons_zero, List.getD_cons_succ]
      go_wp2_with fail
      go_roundw
      case rel => exact ⟨k + 1, cs ++ [⟨xk, A2, cap2, fs, A3, cap3, ys⟩], A5, cap5, by omega, by go_num, Lib.hid (HMS.out _ rfl), Lib.hid (by rw [List.length_append]; exact HC6.out)⟩
      case measure => simp [intOf]; omega
end Go.Proofs.Ytidfibheehcdgaa
