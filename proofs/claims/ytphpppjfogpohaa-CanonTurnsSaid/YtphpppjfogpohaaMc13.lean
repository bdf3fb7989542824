/- Merged by program (merge.py) out of: GraP, GraQ, GraR. -/
import Derived.Test.YtphpppjfogpohaaMc6
import Derived.Test.YtphpppjfogpohaaMc12
/- The program's Copy. -/
set_option linter.unusedSimpArgs false
set_option linter.unusedVariables false
namespace Go.Proofs.Ytphpppjfogpohaa
open Go.RowKit Go.Shelf

section
variable {w : World} {B g cap n : Nat} {cs rest : List NodeD} {x : NodeD}
/-- A node's fields are exchanged, and its raws. -/
theorem own_setF (h : Own 51 3 nodeC w B (.slice (some ⟨g, 0, none⟩) n cap) (cs ++ x :: rest)) (hn : (cs ++ x :: rest).length = n) (A : Option Addr) (c : Nat) :
    Own 51 3 nodeC (w.setCell ⟨g, cs.length * 3 + 1, none⟩ (.slice A x.fields.length c)) B (.slice (some ⟨g, 0, none⟩) n cap) (cs ++ { x with fA := A, fcap := c } :: rest) := by
  unfold Own at h ⊢
  have hl : (cs ++ { x with fA := A, fcap := c } :: rest).length = n := by rw [← hn]; simp
  rw [hn] at h
  rw [hl]
  have h1 := (World.ownsRow.stored h (cs.length * 3 + 1) (.slice A x.fields.length c)).1
  have h2 : (cs ++ { x with fA := A, fcap := c } :: rest).flatMap nodeC = ((cs ++ x :: rest).flatMap nodeC).set (cs.length * 3 + 1) (.slice A x.fields.length c) := by
    have hf := flat_len nodeCells cs
    simp only [List.flatMap_append, List.flatMap_cons, nodeC]
    rw [List.set_append_right _ _ (by omega), hf]
    simp
  rw [h2]
  exact h1
theorem own_setR (h : Own 51 3 nodeC w B (.slice (some ⟨g, 0, none⟩) n cap) (cs ++ x :: rest)) (hn : (cs ++ x :: rest).length = n) (A : Option Addr) (c : Nat) :
    Own 51 3 nodeC (w.setCell ⟨g, cs.length * 3 + 2, none⟩ (.slice A x.raws.length c)) B (.slice (some ⟨g, 0, none⟩) n cap) (cs ++ { x with rA := A, rcap := c } :: rest) := by
  unfold Own at h ⊢
  have hl : (cs ++ { x with rA := A, rcap := c } :: rest).length = n := by rw [← hn]; simp
  rw [hn] at h
  rw [hl]
  have h1 := (World.ownsRow.stored h (cs.length * 3 + 2) (.slice A x.raws.length c)).1
  have h2 : (cs ++ { x with rA := A, rcap := c } :: rest).flatMap nodeC = ((cs ++ x :: rest).flatMap nodeC).set (cs.length * 3 + 2) (.slice A x.raws.length c) := by
    have hf := flat_len nodeCells cs
    simp only [List.flatMap_append, List.flatMap_cons, nodeC]
    rw [List.set_append_right _ _ (by omega), hf]
    simp
  rw [h2]
  exact h1
end
/-- What the copying loop in place keeps. -/
structure CpyI (V : World) (Bo : Nat) (g0 g1 : Value) (res : Array Value) (rs : List (Int × Int)) (cs L : List NodeD) (v root : Value) (wr : World) : Prop where
  g : wr.heap[V.heap.size]? = some (.cells #[g0, g1] 25 (0, 0))
  r : wr.heap[V.heap.size + 1]? = some (.cells res 25 (0, 0))
  out : wr.heap[Bo]? = some (.cells #[v, root] 25 (0, 0))
  own : Own 51 3 nodeC wr V.heap.size v L
  each : ∀ c ∈ cs, OwnN wr V.heap.size c
  root : Own 53 2 spanC wr V.heap.size root rs
  ext : Ext V wr
  bo : V.heap.size + 1 < Bo
section
variable {V : World} {Bo : Nat} {g0 g1 : Value} {res : Array Value} {rs : List (Int × Int)} {cs L : List NodeD} {v root : Value} {wr w' : World}
theorem CpyI.grow (h : CpyI V Bo g0 g1 res rs cs L v root wr) (hx : Ext wr w') : CpyI V Bo g0 g1 res rs cs L v root w' :=
  ⟨(hx.block (lt_of_heap h.g)).trans h.g, (hx.block (lt_of_heap h.r)).trans h.r, (hx.block (lt_of_heap h.out)).trans h.out, h.own.ext hx, fun c hc => (h.each c hc).ext hx, h.root.ext hx, h.ext.trans hx, h.bo⟩
/-- A cell of the nodes' block is set. -/
theorem CpyI.set {g n cap : Nat} {cs' L' : List NodeD} (h : CpyI V Bo g0 g1 res rs cs L (.slice (some ⟨g, 0, none⟩) n cap) root wr) {i : Nat} {u : Value} (hown : Own 51 3 nodeC (wr.setCell ⟨g, i, none⟩ u) V.heap.size (.slice (some ⟨g, 0, none⟩) n cap) L')
    (hcs : ∀ c ∈ cs', OwnN wr V.heap.size c) : CpyI V Bo g0 g1 res rs cs' L' (.slice (some ⟨g, 0, none⟩) n cap) root (wr.setCell ⟨g, i, none⟩ u) := by
  obtain ⟨cur, hg⟩ := own_heap h.own
  have hty : ∀ (b : Nat) (ws : Array Value), wr.heap[b]? = some (.cells ws 25 (0, 0)) → (wr.setCell ⟨g, i, none⟩ u).heap[b]? = some (.cells ws 25 (0, 0)) := fun b ws hb =>
    (Below.heap_setCell wr ⟨g, i, none⟩ u b (fun e => by simp only at e; subst e; rw [hg] at hb; cases hb)).trans hb
  exact ⟨hty _ _ h.g, hty _ _ h.r, hty _ _ h.out, hown, fun c hc => ⟨(hcs c hc).f.setOther hg (by decide), (hcs c hc).r.setOther hg (by decide)⟩, h.root.setOther hg (by decide), h.ext.setCell (by have := (World.ownsRow.lt h.own g rfl).1; exact this) _, h.bo⟩
theorem CpyI.fin {A A1 : Option Addr} {n cap cap1 : Nat} (h : CpyI V Bo g0 g1 res rs cs cs (.slice A n cap) (.slice A1 rs.length cap1) wr) (hn : cs.length = n) (u0 u1 : Value) :
    OwnG ((wr.setCell ⟨V.heap.size + 1, 0, none⟩ u0).setCell ⟨V.heap.size + 1, 1, none⟩ u1) V.heap.size ⟨A, cap, cs, A1, cap1, rs⟩ ∧ Ext V ((wr.setCell ⟨V.heap.size + 1, 0, none⟩ u0).setCell ⟨V.heap.size + 1, 1, none⟩ u1) := by
  subst hn
  exact CopI.fin ⟨h.g, h.r, h.out, h.own, h.each, h.root, h.ext, h.bo⟩ u0 u1
theorem CpyI.start {w0 w5 : World} {ns : List NodeD} (hx0 : Ext V w0) (hs0 : w0.heap.size = V.heap.size + 2) (hg0 : w0.heap[V.heap.size]? = some (.cells #[g0, g1] 25 (0, 0))) (hr0 : w0.heap[V.heap.size + 1]? = some (.cells res 25 (0, 0)))
    (hx : Ext w0 w5) {o : Array Value} (hb : w5.heap[Bo]? = some (.cells o 25 (0, 0))) (hbo : w0.heap.size ≤ Bo) (h2 : o = #[.slice none 0 0, .slice none 0 0])
    (hn : Own 51 3 nodeC w5 V.heap.size v ns) (hr : Own 53 2 spanC w5 V.heap.size root rs) : CpyI V Bo g0 g1 res rs [] ns v root ((w5.setCell ⟨Bo, 0, none⟩ v).setCell ⟨Bo, 1, none⟩ root) := by
  subst h2
  have h1 := heap_setCell_same w5 Bo 0 _ _ v hb
  have hset : ∀ b ob, w5.heap[b]? = some ob → b ≠ Bo → ((w5.setCell ⟨Bo, 0, none⟩ v).setCell ⟨Bo, 1, none⟩ root).heap[b]? = some ob := fun b ob hb' hne =>
    (Below.heap_setCell _ ⟨Bo, 1, none⟩ _ b hne).trans ((Below.heap_setCell w5 ⟨Bo, 0, none⟩ _ b hne).trans hb')
  refine ⟨hset _ _ ((hx.block (lt_of_heap hg0)).trans hg0) (by omega), hset _ _ ((hx.block (lt_of_heap hr0)).trans hr0) (by omega), ?_, (hn.setOther hb (by decide)).setOther h1 (by decide), by simp, (hr.setOther hb (by decide)).setOther h1 (by decide),
    ((hx0.trans hx).setCell (by simp only; omega) _).setCell (by simp only; omega) _, by omega⟩
  rw [heap_setCell_same _ Bo 1 _ _ root h1]
  rfl
end
set_option maxRecDepth 100000
set_option maxHeartbeats 8000000
theorem copy_x (nA : Option Addr) (ncap : Nat) (ns : List NodeD) (rA : Option Addr) (rcap : Nat) (rs : List (Int × Int)) (V : World) (hN : NodesAt V nA ns) (hR : SpansAt V rA rs) (hn : ns.length ≤ 2513169434843) (hr : rs.length ≤ 8796093022208) (hf : ∀ x ∈ ns, NodeOk x) :
    Calls Try.prog 32 #[.agg #[.slice nA ns.length ncap, .slice rA rs.length rcap]] V (RetG V ns rs) := by
  have HN := Lib.hid hN
  have HR := Lib.hid hR
  have HF := Lib.hid hf
  have HXV := Lib.hid (show Ext V ((V.alloc (.cells #[.slice nA ns.length ncap, .slice rA rs.length rcap] 25)).alloc (.cells #[.slice none 0 0, .slice none 0 0] 25)) from ((Ext.refl V).alloc _).alloc _)
  have HSZ := Lib.hid (show ((V.alloc (.cells #[.slice nA ns.length ncap, .slice rA rs.length rcap] 25)).alloc (.cells #[.slice none 0 0, .slice none 0 0] 25)).heap.size = V.heap.size + 2 by simp)
  have HG0 := Lib.hid (show ((V.alloc (.cells #[.slice nA ns.length ncap, .slice rA rs.length rcap] 25)).alloc (.cells #[.slice none 0 0, .slice none 0 0] 25)).heap[V.heap.size]? = some (.cells #[.slice nA ns.length ncap, .slice rA rs.length rcap] 25 (0, 0)) from (Below.heap_alloc _ _ _ (by simp)).trans (World.alloc_heap_new _ _))
  have HR0 := Lib.hid (show ((V.alloc (.cells #[.slice nA ns.length ncap, .slice rA rs.length rcap] 25)).alloc (.cells #[.slice none 0 0, .slice none 0 0] 25)).heap[V.heap.size + 1]? = some (.cells #[.slice none 0 0, .slice none 0 0] 25 (0, 0)) from by
    have := World.alloc_heap_new (V.alloc (.cells #[.slice nA ns.length ncap, .slice rA rs.length rcap] 25)) (.cells #[.slice none 0 0, .slice none 0 0] 25)
    simpa using this)
  clear hN hR hf
  go_enter Try.func32, Try.ntmps32
  go_wp2_with fail
  generalize ((V.alloc (.cells #[.slice nA ns.length ncap, .slice rA rs.length rcap] 25)).alloc (.cells #[.slice none 0 0, .slice none 0 0] 25)) = w1 at *
  have l0 : ∀ u : ExtOf w1, u.1.cell? ⟨V.heap.size, 0, none⟩ = some (.slice nA ns.length ncap) := fun u => u.2.cell (by simp [World.cell?, HG0.out])
  have l1 : ∀ u : ExtOf w1, u.1.cell? ⟨V.heap.size, 1, none⟩ = some (.slice rA rs.length rcap) := fun u => u.2.cell (by simp [World.cell?, HG0.out])
  refine wp_norm (fun a w => ∃ A1 cap1 A2 cap2 Bo, a = { tmps := #[.agg #[.slice nA ns.length ncap, .slice rA rs.length rcap], .pointer (some ⟨V.heap.size, 0, none⟩), .pointer (some ⟨V.heap.size + 1, 0, none⟩), .pointer (some ⟨Bo, 0, none⟩), undef, undef, .pointer (some ⟨V.heap.size, 0, none⟩), .slice nA ns.length ncap, .slice A1 ns.length cap1, .pointer (some ⟨V.heap.size, 1, none⟩), .slice rA rs.length rcap, .slice A2 rs.length cap2, .agg #[.slice A1 ns.length cap1, .slice A2 rs.length cap2], undef, undef, undef, undef, undef, undef, undef, undef, undef, undef, undef, undef, undef, undef, undef, undef, undef, undef, undef, undef, undef, undef, undef, undef, undef, undef], defers := [] } ∧
    CpyI V Bo (.slice nA ns.length ncap) (.slice rA rs.length rcap) #[.slice none 0 0, .slice none 0 0] rs [] ns (.slice A1 ns.length cap1) (.slice A2 rs.length cap2) w) ?_ ?_
  · refine wp_region_tree (fun w' => ∃ u : ExtOf w1, w' = u.1) [0, 1, 3, 4] 4 [(2, [(5, [(6, [(7, ())]), (7, [(6, ())])]), (7, [(5, [(6, ())])])]), (7, [(2, [(5, [(6, ())])])])] [8] (by kernel_rfl) (by kernel_rfl) (by intro c a d v w h; cases h.1) ⟨⟨_, (Ext.refl w1).drew⟩, rfl⟩ ?_
    simp only [opsOf, List.map_cons, List.map_nil, List.getD_cons_zero, List.getD_cons_succ]
    (repeat (go_big_quiet_step (fail)))
    refine wpQuiet_nil ?_
    have HXD := Lib.hid ((Ext.refl w1).drew)
    have HXW := Lib.hid (HXV.out.drew)
    have HSD := Lib.hid (show w1.drew.heap.size = V.heap.size + 2 from HSZ.out)
    have HGD := Lib.hid (show w1.drew.heap[V.heap.size]? = some (.cells #[.slice nA ns.length ncap, .slice rA rs.length rcap] 25 (0, 0)) from HG0.out)
    have HRD := Lib.hid (show w1.drew.heap[V.heap.size + 1]? = some (.cells #[.slice none 0 0, .slice none 0 0] 25 (0, 0)) from HR0.out)
    generalize w1.drew = w2 at *
    refine tr_two ?_ ?_
    · (refine op_step (by rfl) ?_; intro K hK; go_simp)
      refine (cloneN_any nA ncap ns _ hn (HN.out.row.ext (HXW.out.trans (Ext.refl w2)))).mono ?_
      rintro e w3 ⟨A1, cap1, rfl, hon, hxn⟩
      refine hK _ _ (ext_u (HXD.out.trans ((Ext.refl w2).trans hxn))) ?_
      clear hK K
      refine tr_two ?_ ?_
      · (refine op_step (by rfl) ?_; intro K hK; go_simp)
        refine (cloneV_any rA rcap rs _ hr (HR.out.ext (HXW.out.trans (hxn)))).mono ?_
        rintro e w4 ⟨A2, cap2, rfl, hor, hxr⟩
        refine hK _ _ (ext_u (HXD.out.trans ((hxn).trans hxr))) ?_
        clear hK K
        refine tr_two ?_ ?_
        · (refine op_step (by rfl) ?_; intro K hK; go_simp; refine hK _ _ (ext_u (HXD.out.trans (hxn.trans hxr))) ?_; clear hK K)
          refine tr_one ?_
          (refine op_step (by rfl) ?_; intro K hK; go_simp; refine hK _ _ (ext_u (HXD.out.trans ((hxn.trans hxr).alloc _))) ?_; clear hK K)
          refine tr_nil ?_
          try simp only [opsOf, List.map_cons, List.map_nil, List.getD_cons_zero, List.getD_cons_succ]
          have HBB := Lib.hid (show (w4.alloc (.cells #[.slice none 0 0, .slice none 0 0] 25)).heap[w4.heap.size]? = some (.cells #[.slice none 0 0, .slice none 0 0] 25 (0, 0)) from World.alloc_heap_new _ _)
          have HST := Lib.hid (CpyI.start HXW.out HSD.out HGD.out HRD.out ((hxn.trans hxr).alloc _) HBB.out ((hxn.trans hxr).size) rfl (((hon.mono (by have := HSD.out; omega)).ext hxr).ext ((Ext.refl _).alloc _)) ((hor.mono (by have := HSD.out; have := hxn.size; omega)).ext ((Ext.refl _).alloc _)))
          have z0 : (w4.alloc (.cells #[.slice none 0 0, .slice none 0 0] 25)).frozen? ⟨w4.heap.size, 0, none⟩ = false := frozen_of_row _ _ 0 _ _ HBB.out
          have z1 : (w4.alloc (.cells #[.slice none 0 0, .slice none 0 0] 25)).frozen? ⟨w4.heap.size, 1, none⟩ = false := frozen_of_row _ _ 1 _ _ HBB.out
          have z2 : (w4.alloc (.cells #[.slice none 0 0, .slice none 0 0] 25)).cell? ⟨w4.heap.size, 0, none⟩ = some (.slice none 0 0) := (cell_of_row _ _ 0 _ _ (0, 0) HBB.out).trans rfl
          have z3 : (w4.alloc (.cells #[.slice none 0 0, .slice none 0 0] 25)).cell? ⟨w4.heap.size, 1, none⟩ = some (.slice none 0 0) := (cell_of_row _ _ 1 _ _ (0, 0) HBB.out).trans rfl
          clear l0 l1
          generalize (w4.alloc (.cells #[.slice none 0 0, .slice none 0 0] 25)) = w5 at *
          go_wp2_with fail
          exact ⟨_, _, _, _, _, ⟨rfl, ⟨rfl, rfl⟩, ⟨rfl, rfl⟩, ⟨rfl, rfl⟩, rfl, rfl⟩, HST.out⟩
        · (refine op_step (by rfl) ?_; intro K hK; go_simp; refine hK _ _ (ext_u (HXD.out.trans ((hxn.trans hxr).alloc _))) ?_; clear hK K)
          refine tr_one ?_
          (refine op_step (by rfl) ?_; intro K hK; go_simp; refine hK _ _ (ext_u (HXD.out.trans ((hxn.trans hxr).alloc _))) ?_; clear hK K)
          refine tr_nil ?_
          try simp only [opsOf, List.map_cons, List.map_nil, List.getD_cons_zero, List.getD_cons_succ]
          have HBB := Lib.hid (show (w4.alloc (.cells #[.slice none 0 0, .slice none 0 0] 25)).heap[w4.heap.size]? = some (.cells #[.slice none 0 0, .slice none 0 0] 25 (0, 0)) from World.alloc_heap_new _ _)
          have HST := Lib.hid (CpyI.start HXW.out HSD.out HGD.out HRD.out ((hxn.trans hxr).alloc _) HBB.out ((hxn.trans hxr).size) rfl (((hon.mono (by have := HSD.out; omega)).ext hxr).ext ((Ext.refl _).alloc _)) ((hor.mono (by have := HSD.out; have := hxn.size; omega)).ext ((Ext.refl _).alloc _)))
          have z0 : (w4.alloc (.cells #[.slice none 0 0, .slice none 0 0] 25)).frozen? ⟨w4.heap.size, 0, none⟩ = false := frozen_of_row _ _ 0 _ _ HBB.out
          have z1 : (w4.alloc (.cells #[.slice none 0 0, .slice none 0 0] 25)).frozen? ⟨w4.heap.size, 1, none⟩ = false := frozen_of_row _ _ 1 _ _ HBB.out
          have z2 : (w4.alloc (.cells #[.slice none 0 0, .slice none 0 0] 25)).cell? ⟨w4.heap.size, 0, none⟩ = some (.slice none 0 0) := (cell_of_row _ _ 0 _ _ (0, 0) HBB.out).trans rfl
          have z3 : (w4.alloc (.cells #[.slice none 0 0, .slice none 0 0] 25)).cell? ⟨w4.heap.size, 1, none⟩ = some (.slice none 0 0) := (cell_of_row _ _ 1 _ _ (0, 0) HBB.out).trans rfl
          clear l0 l1
          generalize (w4.alloc (.cells #[.slice none 0 0, .slice none 0 0] 25)) = w5 at *
          go_wp2_with fail
          exact ⟨_, _, _, _, _, ⟨rfl, ⟨rfl, rfl⟩, ⟨rfl, rfl⟩, ⟨rfl, rfl⟩, rfl, rfl⟩, HST.out⟩
      · (refine op_step (by rfl) ?_; intro K hK; go_simp; refine hK _ _ (ext_u (HXD.out.trans (hxn.alloc _))) ?_; clear hK K)
        refine tr_one ?_
        (refine op_step (by rfl) ?_; intro K hK; go_simp)
        refine (cloneV_any rA rcap rs _ hr (HR.out.ext (HXW.out.trans (hxn.alloc _)))).mono ?_
        rintro e w4 ⟨A2, cap2, rfl, hor, hxr⟩
        refine hK _ _ (ext_u (HXD.out.trans ((hxn.alloc _).trans hxr))) ?_
        clear hK K
        refine tr_one ?_
        (refine op_step (by rfl) ?_; intro K hK; go_simp; refine hK _ _ (ext_u (HXD.out.trans ((hxn.alloc _).trans hxr))) ?_; clear hK K)
        refine tr_nil ?_
        try simp only [opsOf, List.map_cons, List.map_nil, List.getD_cons_zero, List.getD_cons_succ]
        have HBB := Lib.hid (show w4.heap[w3.heap.size]? = some (.cells #[.slice none 0 0, .slice none 0 0] 25 (0, 0)) from (hxr.block (by simp)).trans (World.alloc_heap_new _ _))
        have HST := Lib.hid (CpyI.start HXW.out HSD.out HGD.out HRD.out ((hxn.alloc (.cells #[.slice none 0 0, .slice none 0 0] 25)).trans hxr) HBB.out (hxn.size) rfl (((hon.mono (by have := HSD.out; omega)).ext ((Ext.refl _).alloc (.cells #[.slice none 0 0, .slice none 0 0] 25))).ext hxr) (hor.mono (by have := HSD.out; have := hxn.size; simp; omega)))
        have z0 : w4.frozen? ⟨w3.heap.size, 0, none⟩ = false := frozen_of_row _ _ 0 _ _ HBB.out
        have z1 : w4.frozen? ⟨w3.heap.size, 1, none⟩ = false := frozen_of_row _ _ 1 _ _ HBB.out
        have z2 : w4.cell? ⟨w3.heap.size, 0, none⟩ = some (.slice none 0 0) := (cell_of_row _ _ 0 _ _ (0, 0) HBB.out).trans rfl
        have z3 : w4.cell? ⟨w3.heap.size, 1, none⟩ = some (.slice none 0 0) := (cell_of_row _ _ 1 _ _ (0, 0) HBB.out).trans rfl
        clear l0 l1
        generalize w4 = w5 at *
        go_wp2_with fail
        exact ⟨_, _, _, _, _, ⟨rfl, ⟨rfl, rfl⟩, ⟨rfl, rfl⟩, ⟨rfl, rfl⟩, rfl, rfl⟩, HST.out⟩
    · (refine op_step (by rfl) ?_; intro K hK; go_simp; refine hK _ _ (ext_u (HXD.out.trans ((Ext.refl w2).alloc _))) ?_; clear hK K)
      refine tr_one ?_
      (refine op_step (by rfl) ?_; intro K hK; go_simp)
      refine (cloneN_any nA ncap ns _ hn (HN.out.row.ext (HXW.out.trans ((Ext.refl w2).alloc _)))).mono ?_
      rintro e w3 ⟨A1, cap1, rfl, hon, hxn⟩
      refine hK _ _ (ext_u (HXD.out.trans (((Ext.refl w2).alloc _).trans hxn))) ?_
      clear hK K
      refine tr_one ?_
      (refine op_step (by rfl) ?_; intro K hK; go_simp)
      refine (cloneV_any rA rcap rs _ hr (HR.out.ext (HXW.out.trans (((Ext.refl w2).alloc _).trans hxn)))).mono ?_
      rintro e w4 ⟨A2, cap2, rfl, hor, hxr⟩
      refine hK _ _ (ext_u (HXD.out.trans ((((Ext.refl w2).alloc _).trans hxn).trans hxr))) ?_
      clear hK K
      refine tr_one ?_
      (refine op_step (by rfl) ?_; intro K hK; go_simp; refine hK _ _ (ext_u (HXD.out.trans ((((Ext.refl w2).alloc _).trans hxn).trans hxr))) ?_; clear hK K)
      refine tr_nil ?_
      try simp only [opsOf, List.map_cons, List.map_nil, List.getD_cons_zero, List.getD_cons_succ]
      have HBB := Lib.hid (show w4.heap[w2.heap.size]? = some (.cells #[.slice none 0 0, .slice none 0 0] 25 (0, 0)) from ((hxn.trans hxr).block (by simp)).trans (World.alloc_heap_new _ _))
      have HST := Lib.hid (CpyI.start HXW.out HSD.out HGD.out HRD.out ((((Ext.refl w2).alloc (.cells #[.slice none 0 0, .slice none 0 0] 25)).trans hxn).trans hxr) HBB.out (Nat.le_refl _) rfl ((hon.mono (by have := HSD.out; simp; omega)).ext hxr) (hor.mono (by have := HSD.out; have := hxn.size; simp at this; omega)))
      have z0 : w4.frozen? ⟨w2.heap.size, 0, none⟩ = false := frozen_of_row _ _ 0 _ _ HBB.out
      have z1 : w4.frozen? ⟨w2.heap.size, 1, none⟩ = false := frozen_of_row _ _ 1 _ _ HBB.out
      have z2 : w4.cell? ⟨w2.heap.size, 0, none⟩ = some (.slice none 0 0) := (cell_of_row _ _ 0 _ _ (0, 0) HBB.out).trans rfl
      have z3 : w4.cell? ⟨w2.heap.size, 1, none⟩ = some (.slice none 0 0) := (cell_of_row _ _ 1 _ _ (0, 0) HBB.out).trans rfl
      clear l0 l1
      generalize w4 = w5 at *
      go_wp2_with fail
      exact ⟨_, _, _, _, _, ⟨rfl, ⟨rfl, rfl⟩, ⟨rfl, rfl⟩, ⟨rfl, rfl⟩, rfl, rfl⟩, HST.out⟩
  rintro a w ⟨A1, cap1, A2, cap2, Bo, rfl, hC⟩
  have HC0 := Lib.hid hC
  have b0 : w.cell? ⟨Bo, 0, none⟩ = some (.slice A1 ns.length cap1) := by simp [World.cell?, hC.out]
  clear hC l0 l1 HXV HSZ HG0 HR0
  go_wp2_with fail
  go_loopw [16] (fun i wr => ∃ (k : Nat) (cs : List NodeD), k ≤ ns.length ∧ i = .int .i64 k ∧ Hid (cs.map nodeV = (ns.take k).map nodeV) ∧ Hid (CpyI V Bo (.slice nA ns.length ncap) (.slice rA rs.length rcap) #[.slice none 0 0, .slice none 0 0] rs cs (cs ++ ns.drop k) (.slice A1 ns.length cap1) (.slice A2 rs.length cap2) wr)) (fun i _ => ns.length - (intOf i).toNat)
  case atStart => exact ⟨0, [], by omega, rfl, Lib.hid rfl, HC0⟩
  case round =>
    obtain ⟨k, cs, hk, rfl, hcs, hC⟩ := hrel
    clear b0 HC0
    have q0 : wr.cell? ⟨Bo, 0, none⟩ = some (.slice A1 ns.length cap1) := by simp [World.cell?, hC.out.out]
    have q1 : wr.cell? ⟨Bo, 1, none⟩ = some (.slice A2 rs.length cap2) := by simp [World.cell?, hC.out.out]
    have hvs := hC.out.ext.size
    have HCL := Lib.hid (show cs.length = k by have := congrArg List.length hcs.out; simp at this; omega)
    by_cases hlt : k < ns.length
    rotate_left
    · obtain rfl : k = ns.length := by omega
      have p0 : wr.cell? ⟨V.heap.size + 1, 0, none⟩ = some (.slice none 0 0) := by simp [World.cell?, hC.out.r]
      have p1 : wr.cell? ⟨V.heap.size + 1, 1, none⟩ = some (.slice none 0 0) := by simp [World.cell?, hC.out.r]
      have p2 : wr.frozen? ⟨V.heap.size + 1, 0, none⟩ = false := by simp [World.frozen?, hC.out.r]
      have p3 : wr.frozen? ⟨V.heap.size + 1, 1, none⟩ = false := by simp [World.frozen?, hC.out.r]
      have hC' := hC.out
      rw [List.drop_length, List.append_nil] at hC'
      have HFIN := Lib.hid (hC'.fin HCL.out (.slice A1 ns.length cap1) (.slice A2 rs.length cap2))
      have HM := Lib.hid hcs.out
      clear hC' hcs hC
      go_wp2_with fail
      ((try simp only [Exit.inBlock, Exit.then]); refine bodyPost_ret (v := .agg #[.slice A1 ns.length cap1, .slice A2 rs.length cap2]) (by simp only [results, Try.results32]; go_simp) rfl ?_)
      exact ⟨⟨A1, cap1, cs, A2, cap2, rs⟩, by rw [HCL.out], HFIN.out.1, by have := HM.out; rwa [List.take_length] at this, rfl, HFIN.out.2⟩
    have hdr : ns.drop k = ns.getD k default :: ns.drop (k + 1) := by
      rw [List.drop_eq_getElem_cons hlt, List.getD_eq_getElem?_getD, List.getElem?_eq_getElem hlt]; rfl
    have hll : (cs ++ ns.drop k).length = ns.length := by simp; have := HCL.out; omega
    have HLL := Lib.hid hll
    obtain ⟨g, rfl⟩ : ∃ g, A1 = some ⟨g, 0, none⟩ := by
      rcases hC.out.own.2 with ⟨hv, h0⟩ | ⟨g, cap, cur, hv, _⟩
      · rw [hll] at h0; omega
      · injection hv with h1 h2 h3
        exact ⟨g, h1⟩
    have hrow := own_row (by have := hC.out.own; rw [← hll] at this; exact this) nodeCells (by decide)
    obtain ⟨nb, noff, hA, hcn⟩ := hrow.1.get (by omega)
    injection hA with hA
    injection hA with hA1 hA2
    subst hA1 hA2
    obtain ⟨d0, d1, d2⟩ := nodes_cell hcn (k := k) (by omega)
    have hget : (cs ++ ns.drop k).getD k default = ns.getD k default := by
      rw [hdr, List.getD_eq_getElem?_getD, List.getElem?_append_right (by have := HCL.out; omega), HCL.out]
      simp
    rw [hget] at d0 d1 d2
    have HNA := Lib.hid (HN.out.each _ (getD_mem (d := default) hlt))
    have HOK := Lib.hid (HF.out _ (getD_mem (d := default) hlt))
    have HMS := Lib.hid (fun x => map_nodeV_snoc (x := x) hlt hcs.out)
    rw [hdr] at hC
    rw [hdr] at HLL
    have ib1 : (k : Int) < (ns.length : Int) := by omega
    clear hrow hcn hget hdr hll hcs
    generalize ns.getD k default = x at *
    obtain ⟨xk, xA, xc, fs, yA, yc, ys⟩ := x
    simp only [Nat.zero_add] at d0 d1 d2
    have hgl : g < wr.heap.size := (World.ownsRow.lt hC.out.own g rfl).2
    have HC1 := Lib.hid (hC.out.grow ((Ext.refl wr).alloc (.cells #[.int .i64 xk, .slice xA fs.length xc, .slice yA ys.length yc] 51)))
    have HBX := Lib.hid (World.alloc_heap_new wr (.cells #[.int .i64 xk, .slice xA fs.length xc, .slice yA ys.length yc] 51))
    have HGX := Lib.hid (show g ≠ wr.heap.size by omega)
    have HGB := Lib.hid (show g ≠ Bo from fun e => by
      obtain ⟨cur, hh⟩ := own_heap hC.out.own
      subst e
      rw [hC.out.out] at hh
      cases hh)
    have HVS0 := Lib.hid hvs
    clear hC
    go_wp2_with fail
    clear hvs d0 d1 d2 q0 q1 hgl
    generalize wr.alloc (.cells #[.int .i64 xk, .slice xA fs.length xc, .slice yA ys.length yc] 51) = w1 at *
    generalize wr.heap.size = X at *
    have HS := Lib.hid (show CpS Bo X (.cells #[.slice (some ⟨g, 0, none⟩) ns.length cap1, .slice A2 rs.length cap2] 25 (0, 0)) (.cells #[.int .i64 xk, .slice xA fs.length xc, .slice yA ys.length yc] 51 (0, 0)) w1.drew from ⟨HC1.out.out, HBX.out⟩)
    have HS0 := Lib.hid (show CpS Bo X (.cells #[.slice (some ⟨g, 0, none⟩) ns.length cap1, .slice A2 rs.length cap2] 25 (0, 0)) (.cells #[.int .i64 xk, .slice xA fs.length xc, .slice yA ys.length yc] 51 (0, 0)) w1 from ⟨HC1.out.out, HBX.out⟩)
    have l0 : ∀ u : KeptOf w1 (CpS Bo X (.cells #[.slice (some ⟨g, 0, none⟩) ns.length cap1, .slice A2 rs.length cap2] 25 (0, 0)) (.cells #[.int .i64 xk, .slice xA fs.length xc, .slice yA ys.length yc] 51 (0, 0))), u.1.cell? ⟨Bo, 0, none⟩ = some (.slice (some ⟨g, 0, none⟩) ns.length cap1) := fun u => by have := (u.of HS0.out).1; simp [World.cell?, this]
    have l2 : ∀ u : KeptOf w1 (CpS Bo X (.cells #[.slice (some ⟨g, 0, none⟩) ns.length cap1, .slice A2 rs.length cap2] 25 (0, 0)) (.cells #[.int .i64 xk, .slice xA fs.length xc, .slice yA ys.length yc] 51 (0, 0))), u.1.cell? ⟨X, 1, none⟩ = some (.slice xA fs.length xc) := fun u => by have := (u.of HS0.out).2; simp [World.cell?, this]
    have l3 : ∀ u : KeptOf w1 (CpS Bo X (.cells #[.slice (some ⟨g, 0, none⟩) ns.length cap1, .slice A2 rs.length cap2] 25 (0, 0)) (.cells #[.int .i64 xk, .slice xA fs.length xc, .slice yA ys.length yc] 51 (0, 0))), u.1.cell? ⟨X, 2, none⟩ = some (.slice yA ys.length yc) := fun u => by have := (u.of HS0.out).2; simp [World.cell?, this]
    refine wp_region_tree (fun w' => ∃ u : KeptOf w1 (CpS Bo X (.cells #[.slice (some ⟨g, 0, none⟩) ns.length cap1, .slice A2 rs.length cap2] 25 (0, 0)) (.cells #[.int .i64 xk, .slice xA fs.length xc, .slice yA ys.length yc] 51 (0, 0))), w' = u.1) [0, 1, 2, 3, 4, 5, 6, 7, 9, 10] 5 [(8, [(11, [(12, [(13, [(14, ())])])])])] [15, 16, 17] (by kernel_rfl) (by kernel_rfl) (by intro c a d v w h; cases d <;> exact h) (kept_mk HS.out) ?_
    simp only [opsOf, List.map_cons, List.map_nil, List.getD_cons_zero, List.getD_cons_succ]
    (repeat (go_big_quiet_step (fail)))
    refine wpQuiet_nil ?_
    have HC2 := Lib.hid (HC1.out.grow ((Ext.refl w1).drew))
    have HFA := Lib.hid (HNA.out.fields.ext HC2.out.ext)
    have HRA := Lib.hid (HNA.out.raws.ext HC2.out.ext)
    have hfl := HOK.out.fl
    have hrl := HOK.out.rl
    simp only at hfl hrl
    clear l0 l2 l3 HC1 HS0 HBX HNA HOK
    generalize w1.drew = w2 at *
    refine tr_one ?_
    (refine op_step (by rfl) ?_; intro K hK; go_simp)
    refine (cloneV_any xA xc fs _ hfl HFA.out).mono ?_
    rintro e w3 ⟨A3, cap3, rfl, ho3, hx3⟩
    refine hK _ _ (kept_mk (HS.out.ext hx3)) ?_
    clear hK K
    refine tr_one ?_
    (refine op_step (by rfl) ?_; intro K hK; go_simp)
    refine (cloneU_any yA yc ys _ hrl (HRA.out.ext hx3)).mono ?_
    rintro e w4 ⟨A4, cap4, rfl, ho4, hx4⟩
    refine hK _ _ (kept_mk (HS.out.ext (hx3.trans hx4))) ?_
    clear hK K
    have HC4 := Lib.hid (HC2.out.grow (hx3.trans hx4))
    have HS4 := Lib.hid (HS.out.ext (hx3.trans hx4))
    have hv2 := HC2.out.ext.size
    have HNN := Lib.hid (show OwnN w4 V.heap.size ⟨xk, A3, cap3, fs, A4, cap4, ys⟩ from ⟨(ho3.mono hv2).ext hx4, ho4.mono (Nat.le_trans hv2 hx3.size)⟩)
    clear ho3 ho4 hx3 hx4 hv2 HC2 HS
    have hs1 := own_setF HC4.out.own HLL.out A3 cap3
    have hll1 : (cs ++ (⟨xk, A3, cap3, fs, yA, yc, ys⟩ : NodeD) :: ns.drop (k + 1)).length = ns.length := by have := HLL.out; simpa using this
    have hs2 := own_setR (x := ⟨xk, A3, cap3, fs, yA, yc, ys⟩) hs1 hll1 A4 cap4
    simp only [HCL.out] at hs1 hs2
    have C5 := CpyI.set HC4.out hs1 HC4.out.each
    obtain ⟨cur4, hh4⟩ := own_heap HC4.out.own
    have C6 := CpyI.set (cs' := cs ++ [⟨xk, A3, cap3, fs, A4, cap4, ys⟩]) C5 hs2 (fun c hc => by
      rcases List.mem_append.1 hc with hc | hc
      · exact C5.each c hc
      · rcases List.mem_singleton.1 hc with rfl
        exact ⟨HNN.out.f.setOther hh4 (by decide), HNN.out.r.setOther hh4 (by decide)⟩)
    have hh5 := heap_setCell_same w4 g (k * 3 + 1) _ _ (.slice A3 fs.length cap3) hh4
    have fr1 : w4.frozen? ⟨g, k * 3 + 1, none⟩ = false := frozen_of_row _ _ _ _ _ hh4
    have fr2 : (w4.setCell ⟨g, k * 3 + 1, none⟩ (.slice A3 fs.length cap3)).frozen? ⟨g, k * 3 + 2, none⟩ = false := frozen_of_row _ _ _ _ _ hh5
    have ce1 := World.ownsRow.cellAt (by have := HC4.out.own; unfold Own at this; rw [HLL.out] at this; exact this) (k * 3 + 1) (by omega)
    have ce2 := World.ownsRow.cellAt (by have := hs1; unfold Own at this; rw [hll1] at this; exact this) (k * 3 + 2) (by omega)
    have hflc := flat_len nodeCells cs
    have hcl := HCL.out
    rw [List.flatMap_append, List.flatMap_cons, List.getElem?_append_right (by omega), show k * 3 + 1 - (cs.flatMap nodeC).length = 1 by omega] at ce1
    rw [List.flatMap_append, List.flatMap_cons, List.getElem?_append_right (by omega), show k * 3 + 2 - (cs.flatMap nodeC).length = 2 by omega] at ce2
    simp only [nodeC, List.cons_append, List.nil_append, List.getElem?_cons_succ, List.getElem?_cons_zero] at ce1 ce2
    have HC6 := Lib.hid C6
    have S5 := Lib.hid (show CpS Bo X _ _ (w4.setCell ⟨g, k * 3 + 1, none⟩ (.slice A3 fs.length cap3)) from ⟨(Below.heap_setCell w4 ⟨g, k * 3 + 1, none⟩ _ Bo (fun e => HGB.out e.symm)).trans HS4.out.1, (Below.heap_setCell w4 ⟨g, k * 3 + 1, none⟩ _ X (fun e => HGX.out e.symm)).trans HS4.out.2⟩)
    clear C5 C6 hs1 hs2 hh4 hh5 hll1 hflc hcl HNN HFA HRA HLL HCL
    refine tr_one ?_
    (refine op_step (by rfl) ?_; intro K hK; go_simp; refine hK _ _ (kept_mk HS4.out) ?_; clear hK K)
    refine tr_one ?_
    (refine op_step (by rfl) ?_; intro K hK; go_simp; refine hK _ _ (kept_mk HS4.out) ?_; clear hK K)
    refine tr_one ?_
    (refine op_step (by rfl) ?_; intro K hK; go_simp; refine hK _ _ (kept_mk S5.out) ?_; clear hK K)
    refine tr_nil ?_
    (try simp only [opsOf, List.map_cons, List.map_nil, List.getD_cons_zero, List.getD_cons_succ])
    go_wp2_with fail
    go_roundw
    case rel => exact ⟨k + 1, cs ++ [⟨xk, A3, cap3, fs, A4, cap4, ys⟩], by omega, by go_num, Lib.hid (HMS.out _ rfl), Lib.hid (by rw [List.append_assoc]; exact HC6.out)⟩
    case measure => simp [intOf]; omega
end Go.Proofs.Ytphpppjfogpohaa

/- The reference's Renumber. -/
set_option linter.unusedSimpArgs false
set_option linter.unusedVariables false
namespace Go.Proofs.Ytphpppjfogpohaa
open Go.RowKit Go.Shelf

/-- Is a number of an order none of a node, or there twice? -/
def badO (o : List Int) (n : Nat) : Bool := (List.range o.length).any fun i => !decide (0 ≤ o.getD i 0 ∧ o.getD i 0 < n ∧ placeZ o (o.getD i 0) = i)
def lostO (o : List Int) (ns : List NodeD) (rs : List (Int × Int)) : Bool := (o.any fun j => (ns.getD j.toNat default).fields.any (lostV o)) || rs.any (lostV o)
def renE (G : GraphD) (o : List Int) : Int := if rightG G then (if badO o G.ns.length then 1 else if lostO o G.ns G.rs then 2 else 0) else 4
def turnN (o : List Int) (ns : List NodeD) (j : Int) : Int × List (Int × Int) × List Int := ((ns.getD j.toNat default).kind, (ns.getD j.toNat default).fields.map (turned o), (ns.getD j.toNat default).raws)
def renN (G : GraphD) (o : List Int) : List (Int × List (Int × Int) × List Int) := if renE G o = 0 then o.map (turnN o G.ns) else []
def renR (G : GraphD) (o : List Int) : List (Int × Int) := if renE G o = 0 then G.rs.map (turned o) else []
theorem badO_no {o : List Int} {n : Nat} (h : ∀ i, i < o.length → 0 ≤ o.getD i 0 ∧ o.getD i 0 < n ∧ placeZ o (o.getD i 0) = i) : badO o n = false := by
  unfold badO
  rw [List.any_eq_false]
  intro i hi
  have := h i (List.mem_range.1 hi)
  simp only [decide_eq_true this, Bool.not_true, Bool.false_eq_true, not_false_eq_true]
theorem badO_yes {o : List Int} {n i : Nat} (hi : i < o.length) (h : ¬ (0 ≤ o.getD i 0 ∧ o.getD i 0 < n ∧ placeZ o (o.getD i 0) = i)) : badO o n = true := by
  unfold badO
  rw [List.any_eq_true]
  exact ⟨i, List.mem_range.2 hi, by simp only [decide_eq_false h, Bool.not_false]⟩
theorem renE_form {G : GraphD} {o : List Int} (h : rightG G = false) : renE G o = 4 := by simp [renE, h]
theorem renE_arg {G : GraphD} {o : List Int} (h : rightG G = true) (h2 : badO o G.ns.length = true) : renE G o = 1 := by simp [renE, h, h2]
theorem renE_place {G : GraphD} {o : List Int} (h : rightG G = true) (h2 : badO o G.ns.length = false) (h3 : lostO o G.ns G.rs = true) : renE G o = 2 := by simp [renE, h, h2, h3]
theorem renE_ok {G : GraphD} {o : List Int} (h : rightG G = true) (h2 : badO o G.ns.length = false) (h3 : lostO o G.ns G.rs = false) : renE G o = 0 := by simp [renE, h, h2, h3]
/-- A graph and an error come back. -/
def RetN (V : World) (c : Int) (vs : List (Int × List (Int × Int) × List Int)) (rs : List (Int × Int)) (e : Ending) (w' : World) : Prop :=
  ∃ H : GraphD, e = .returned (.tuple #[.agg #[.slice H.nA H.ns.length H.ncap, .slice H.rA H.rs.length H.rcap], .int .i64 c]) ∧ GraphAt w' H ∧ H.ns.map nodeV = vs ∧ H.rs = rs ∧ (∀ x ∈ H.ns, (x.fA = none → x.fcap = 0) ∧ (x.rA = none → x.rcap = 0) ∧ x.fields.length ≤ x.fcap ∧ x.raws.length ≤ x.rcap) ∧
    (H.nA = none → H.ncap = 0) ∧ (H.rA = none → H.rcap = 0) ∧ H.ns.length ≤ H.ncap ∧ H.rs.length ≤ H.rcap ∧ Ext V w'
theorem retN_none {V w : World} {c : Int} {vs : List (Int × List (Int × Int) × List Int)} {rs : List (Int × Int)} (hv : vs = []) (hr : rs = []) (hx : Ext V w) : RetN V c vs rs (.returned (.tuple #[.agg #[.slice none 0 0, .slice none 0 0], .int .i64 c])) w := by
  subst hv hr
  exact ⟨⟨none, 0, [], none, 0, []⟩, rfl, ⟨⟨RowAt.none _ _ _, by simp⟩, RowAt.none _ _ _⟩, rfl, rfl, by simp, fun _ => rfl, fun _ => rfl, by simp, by simp, hx⟩
/-- What the renumbering loop keeps. -/
structure RenI (V : World) (Bo : Nat) (g0 g1 : Value) (cs : List NodeD) (v : Value) (wr : World) : Prop where
  g : wr.heap[V.heap.size]? = some (.cells #[g0, g1] 25 (0, 0))
  r : wr.heap[V.heap.size + 1]? = some (.cells #[.slice none 0 0, .slice none 0 0] 25 (0, 0))
  out : wr.heap[Bo]? = some (.cells #[v, .slice none 0 0] 25 (0, 0))
  own : Own 51 3 nodeC wr V.heap.size v cs
  each : ∀ c ∈ cs, Own 53 2 spanC wr V.heap.size (.slice c.fA c.fields.length c.fcap) c.fields ∧ WordsAt V c.rA c.raws ∧ (c.rA = none → c.rcap = 0) ∧ c.raws.length ≤ c.rcap
  ext : Ext V wr
  bo : V.heap.size + 1 < Bo
section
variable {V : World} {Bo : Nat} {g0 g1 : Value} {cs : List NodeD} {v : Value} {wr w' : World}
theorem RenI.grow (h : RenI V Bo g0 g1 cs v wr) (hx : Ext wr w') : RenI V Bo g0 g1 cs v w' :=
  ⟨(hx.block (lt_of_heap h.g)).trans h.g, (hx.block (lt_of_heap h.r)).trans h.r, (hx.block (lt_of_heap h.out)).trans h.out, h.own.ext hx, fun c hc => ⟨(h.each c hc).1.ext hx, (h.each c hc).2⟩, h.ext.trans hx, h.bo⟩
theorem RenI.app (h : RenI V Bo g0 g1 cs v wr) {v' : Value} {x : NodeD} (hown : Own 51 3 nodeC w' V.heap.size v' (cs ++ [x])) (hg : wr.grownBy w' v.ownBlock)
    (hx : Own 53 2 spanC wr V.heap.size (.slice x.fA x.fields.length x.fcap) x.fields) (hx2 : WordsAt V x.rA x.raws ∧ (x.rA = none → x.rcap = 0) ∧ x.raws.length ≤ x.rcap) :
    RenI V Bo g0 g1 (cs ++ [x]) v' (w'.setCell ⟨Bo, 0, none⟩ v') := by
  have hty : ∀ (b : Nat) (ws : Array Value), wr.heap[b]? = some (.cells ws 25 (0, 0)) → w'.heap[b]? = some (.cells ws 25 (0, 0)) := fun b ws hb =>
    (hg.block b (lt_of_heap hb) (h.own.ne_block hb (by decide))).trans hb
  have hout := hty _ _ h.out
  have hbo := h.bo
  have hset : ∀ b o, w'.heap[b]? = some o → b ≠ Bo → (w'.setCell ⟨Bo, 0, none⟩ v').heap[b]? = some o := fun b o hb hne => (Below.heap_setCell w' ⟨Bo, 0, none⟩ v' b hne).trans hb
  refine ⟨hset _ _ (hty _ _ h.g) (by omega), hset _ _ (hty _ _ h.r) (by omega), ?_, hown.setOther hout (by decide), fun c hc => ?_, (Own.grown h.own hg (Nat.le_refl _) h.ext).setCell (by simp only; omega) _, h.bo⟩
  · rw [heap_setCell_same w' Bo 0 _ _ _ hout]; rfl
  · rcases List.mem_append.1 hc with hc | hc
    · exact ⟨((h.each c hc).1.keep2 h.own (by decide) hg).setOther hout (by decide), (h.each c hc).2⟩
    · rcases List.mem_singleton.1 hc with rfl
      exact ⟨(hx.keep2 h.own (by decide) hg).setOther hout (by decide), hx2⟩
/-- The end: the roots are put, and the result is laid. -/
theorem RenI.fin {A A1 : Option Addr} {cap cap1 : Nat} {rs : List (Int × Int)} {vs : List (Int × List (Int × Int) × List Int)} (h : RenI V Bo g0 g1 cs (.slice A cs.length cap) wr) (hr : Own 53 2 spanC wr V.heap.size (.slice A1 rs.length cap1) rs) (hvs : cs.map nodeV = vs) (u2 u0 u1 : Value) :
    RetN V 0 vs rs (.returned (.tuple #[.agg #[.slice A cs.length cap, .slice A1 rs.length cap1], .int .i64 0])) (((wr.setCell ⟨Bo, 1, none⟩ u2).setCell ⟨V.heap.size + 1, 0, none⟩ u0).setCell ⟨V.heap.size + 1, 1, none⟩ u1) := by
  have hbo := h.bo
  have h1 : (wr.setCell ⟨Bo, 1, none⟩ u2).heap[V.heap.size + 1]? = _ := (Below.heap_setCell wr ⟨Bo, 1, none⟩ u2 (V.heap.size + 1) (by simp only; omega)).trans h.r
  have h2 := heap_setCell_same _ (V.heap.size + 1) 0 _ _ u0 h1
  have st : ∀ {α : Type} {e : TypeId} {n : Nat} {f : α → List Value} {v : Value} {xs : List α}, Own e n f wr V.heap.size v xs → 25 ≠ e → Own e n f (((wr.setCell ⟨Bo, 1, none⟩ u2).setCell ⟨V.heap.size + 1, 0, none⟩ u0).setCell ⟨V.heap.size + 1, 1, none⟩ u1) V.heap.size v xs :=
    fun ho hne => ((ho.setOther h.out hne).setOther h1 hne).setOther h2 hne
  have hx : Ext V (((wr.setCell ⟨Bo, 1, none⟩ u2).setCell ⟨V.heap.size + 1, 0, none⟩ u0).setCell ⟨V.heap.size + 1, 1, none⟩ u1) := ((h.ext.setCell (by simp only; omega) _).setCell (by simp) _).setCell (by simp) _
  have on := own_row (st h.own (by decide)) nodeCells (by decide)
  have orr := own_row (st hr (by decide)) spanCells (by decide)
  refine ⟨⟨A, cap, cs, A1, cap1, rs⟩, rfl, ⟨⟨on.1, fun c hc => ⟨(own_row (st (h.each c hc).1 (by decide)) spanCells (by decide)).1, (h.each c hc).2.1.ext hx⟩⟩, orr.1⟩, hvs, rfl, fun c hc => ?_, on.2.1, orr.2.1, on.2.2, orr.2.2, hx⟩
  have of := own_row (st (h.each c hc).1 (by decide)) spanCells (by decide)
  exact ⟨of.2.1, (h.each c hc).2.2.1, of.2.2, (h.each c hc).2.2.2⟩
end
theorem refright_is (G : GraphD) (b : Bool) (hb : rightG G = b) (V : World) (hG : GraphAt V G) (hn : G.ns.length ≤ 9223372036854775807) (hr : G.rs.length ≤ 9223372036854775807) (hf : ∀ x ∈ G.ns, x.fields.length ≤ 9223372036854775807) :
    Calls Try.prog 34 #[.agg #[.slice G.nA G.ns.length G.ncap, .slice G.rA G.rs.length G.rcap]] V fun e w' => e = .returned (.bool b) ∧ Ext V w' := by
  subst hb; exact grefright_any G V hG hn hr hf
theorem place_is (A : Option Addr) (cap : Nat) (l : List Int) (x z : Int) (hz : placeZ l x = z) (W : World) (hlen : l.length ≤ 9223372036854775807) (hl : IntsAt W A l) :
    Calls Try.prog 59 #[.slice A l.length cap, .int .i64 x] W fun e w' => e = .returned (.int .i64 z) ∧ Ext W w' := by
  subst hz; exact place_any A cap l x W hlen hl
end Go.Proofs.Ytphpppjfogpohaa

/- The walk of the reference's Renumber. -/
set_option linter.unusedSimpArgs false
set_option linter.unusedVariables false
namespace Go.Proofs.Ytphpppjfogpohaa
open Go.RowKit Go.Shelf

theorem ret_fail {V w : World} {G : GraphD} {o : List Int} {c : Int} (hc : renE G o = c) (hne : c ≠ 0) (hx : Ext V w) :
    RetN V (renE G o) (renN G o) (renR G o) (.returned (.tuple #[.agg #[.slice none 0 0, .slice none 0 0], .int .i64 c])) w := by
  rw [renN, renR, hc, if_neg hne, if_neg hne]
  exact retN_none rfl rfl hx
theorem lostO_node {o : List Int} {ns : List NodeD} {rs : List (Int × Int)} {k : Nat} (hk : k < o.length) (h : (ns.getD (o.getD k 0).toNat default).fields.any (lostV o) = true) : lostO o ns rs = true := by
  unfold lostO
  rw [Bool.or_eq_true]
  exact .inl (List.any_eq_true.2 ⟨_, getD_mem hk, h⟩)
theorem lostO_root {o : List Int} {ns : List NodeD} {rs : List (Int × Int)} (h : rs.any (lostV o) = true) : lostO o ns rs = true := by
  unfold lostO
  rw [h, Bool.or_true]
theorem lostO_no {o : List Int} {ns : List NodeD} {rs : List (Int × Int)} (h : ∀ i, i < o.length → (ns.getD (o.getD i 0).toNat default).fields.any (lostV o) = false) (h2 : rs.any (lostV o) = false) : lostO o ns rs = false := by
  unfold lostO
  rw [h2, Bool.or_false, List.any_eq_false]
  intro x hx
  obtain ⟨i, hi, rfl⟩ := List.getElem_of_mem hx
  have := h i hi
  rw [show o.getD i 0 = o[i] by simp [hi]] at this
  rw [this]
  simp
set_option maxRecDepth 100000
set_option maxHeartbeats 4000000
theorem refren_x (nA : Option Addr) (ncap : Nat) (ns : List NodeD) (rA : Option Addr) (rcap : Nat) (rs : List (Int × Int)) (A2 : Option Addr) (cap2 : Nat) (o : List Int) (V : World) (hN : NodesAt V nA ns) (hR : SpansAt V rA rs) (hO : IntsAt V A2 o)
    (hn : ns.length ≤ 2513169434843) (hr : rs.length ≤ 8796093022208) (hol : o.length ≤ 1000) (hf : ∀ x ∈ ns, NodeOk x) :
    Calls Try.prog 37 #[.agg #[.slice nA ns.length ncap, .slice rA rs.length rcap], .slice A2 o.length cap2] V (RetN V (renE ⟨nA, ncap, ns, rA, rcap, rs⟩ o) (renN ⟨nA, ncap, ns, rA, rcap, rs⟩ o) (renR ⟨nA, ncap, ns, rA, rcap, rs⟩ o)) := by
  have HN := Lib.hid hN
  have HR := Lib.hid hR
  have HO := Lib.hid hO
  have HF := Lib.hid hf
  have HXV := Lib.hid (show Ext V ((V.alloc (.cells #[.slice nA ns.length ncap, .slice rA rs.length rcap] 25)).alloc (.cells #[.slice none 0 0, .slice none 0 0] 25)) from ((Ext.refl V).alloc _).alloc _)
  have HSZ := Lib.hid (show ((V.alloc (.cells #[.slice nA ns.length ncap, .slice rA rs.length rcap] 25)).alloc (.cells #[.slice none 0 0, .slice none 0 0] 25)).heap.size = V.heap.size + 2 by simp)
  have HG0 := Lib.hid (show ((V.alloc (.cells #[.slice nA ns.length ncap, .slice rA rs.length rcap] 25)).alloc (.cells #[.slice none 0 0, .slice none 0 0] 25)).heap[V.heap.size]? = some (.cells #[.slice nA ns.length ncap, .slice rA rs.length rcap] 25 (0, 0)) from (Below.heap_alloc _ _ _ (by simp)).trans (World.alloc_heap_new _ _))
  have HR0 := Lib.hid (show ((V.alloc (.cells #[.slice nA ns.length ncap, .slice rA rs.length rcap] 25)).alloc (.cells #[.slice none 0 0, .slice none 0 0] 25)).heap[V.heap.size + 1]? = some (.cells #[.slice none 0 0, .slice none 0 0] 25 (0, 0)) from by
    have := World.alloc_heap_new (V.alloc (.cells #[.slice nA ns.length ncap, .slice rA rs.length rcap] 25)) (.cells #[.slice none 0 0, .slice none 0 0] 25)
    simpa using this)
  obtain ⟨b, hb⟩ : ∃ b, rightG ⟨nA, ncap, ns, rA, rcap, rs⟩ = b := ⟨_, rfl⟩
  have HB := Lib.hid hb
  clear hN hR hO hf hb
  go_enter Try.func37, Try.ntmps37
  go_wp2_with fail
  generalize ((V.alloc (.cells #[.slice nA ns.length ncap, .slice rA rs.length rcap] 25)).alloc (.cells #[.slice none 0 0, .slice none 0 0] 25)) = w0 at *
  refine (refright_is ⟨nA, ncap, ns, rA, rcap, rs⟩ b HB.out _ ⟨HN.out.ext HXV.out, HR.out.ext HXV.out⟩ (by simp only; omega) (by simp only; omega) (fun x hx => by have := (HF.out x hx).fl; omega)).mono ?_
  rintro e w1 ⟨rfl, hx1⟩
  have HX1 := Lib.hid (HXV.out.trans hx1)
  have HR1 := Lib.hid ((hx1.block (lt_of_heap HR0.out)).trans HR0.out)
  have HG1 := Lib.hid ((hx1.block (lt_of_heap HG0.out)).trans HG0.out)
  have HS1 := Lib.hid (show V.heap.size + 2 ≤ w1.heap.size by have := hx1.size; have := HSZ.out; omega)
  clear HXV HSZ HG0 HR0 hx1
  cases b
  · have HE := Lib.hid (renE_form (o := o) HB.out)
    have p0 : w1.cell? ⟨V.heap.size + 1, 0, none⟩ = some (.slice none 0 0) := by simp [World.cell?, HR1.out]
    have p1 : w1.cell? ⟨V.heap.size + 1, 1, none⟩ = some (.slice none 0 0) := by simp [World.cell?, HR1.out]
    have p2 : w1.frozen? ⟨V.heap.size + 1, 0, none⟩ = false := by simp [World.frozen?, HR1.out]
    have p3 : w1.frozen? ⟨V.heap.size + 1, 1, none⟩ = false := by simp [World.frozen?, HR1.out]
    go_wp2_with fail
    ((try simp only [Exit.inBlock, Exit.then]); refine bodyPost_ret (v := .tuple #[.agg #[.slice none 0 0, .slice none 0 0], .int .i64 4]) (by simp only [results, Try.results37]; go_simp) rfl ?_)
    exact ret_fail HE.out (by decide) (((HX1.out).setCell (by simp) _).setCell (by simp) _)
  go_wp2_with fail
  go_loopw [6] (fun i wr => ∃ k : Nat, k ≤ o.length ∧ i = .int .i64 k ∧ Hid (Ext w1 wr) ∧ Hid (∀ i, i < k → 0 ≤ o.getD i 0 ∧ o.getD i 0 < ns.length ∧ placeZ o (o.getD i 0) = i)) (fun i _ => o.length - (intOf i).toNat)
  case atStart => exact ⟨0, by omega, rfl, Lib.hid (Ext.refl _), Lib.hid (by omega)⟩
  case round =>
    obtain ⟨k, hk, rfl, hxr, hq⟩ := hrel
    have hsr := hxr.out.size
    have hs1 := HS1.out
    have HRR := Lib.hid ((hxr.out.block (lt_of_heap HR1.out)).trans HR1.out)
    have HGR := Lib.hid ((hxr.out.block (lt_of_heap HG1.out)).trans HG1.out)
    have b0 : wr.cell? ⟨V.heap.size, 0, none⟩ = some (.slice nA ns.length ncap) := by simp [World.cell?, HGR.out]
    by_cases hlt : k < o.length
    rotate_left
    · obtain rfl : k = o.length := by omega
      have HBO := Lib.hid (badO_no hq.out)
      have HQ := Lib.hid hq.out
      have HI0 := Lib.hid (show RenI V wr.heap.size (.slice nA ns.length ncap) (.slice rA rs.length rcap) [] (.slice none 0 0) (wr.alloc (.cells #[.slice none 0 0, .slice none 0 0] 25)) from
        ⟨(Below.heap_alloc _ _ _ (lt_of_heap HGR.out)).trans HGR.out, (Below.heap_alloc _ _ _ (lt_of_heap HRR.out)).trans HRR.out, World.alloc_heap_new _ _, Own.nil _ _ _ _ _, by simp, (HX1.out.trans hxr.out).alloc _, by omega⟩)
      clear hq b0 hxr HRR HGR HR1 HG1 HS1 hs1
      go_wp2_with fail
      generalize wr.alloc (.cells #[.slice none 0 0, .slice none 0 0] 25) = w2 at *
      generalize wr.heap.size = Bo at *
      clear hsr
      go_loopw [8] (fun i wr => ∃ (k : Nat) (cs : List NodeD) (A : Option Addr) (cap : Nat), k ≤ o.length ∧ i = .int .i64 k ∧ Hid (cs.map nodeV = (o.take k).map (turnN o ns)) ∧ Hid (∀ i, i < k → (ns.getD (o.getD i 0).toNat default).fields.any (lostV o) = false) ∧ Hid (RenI V Bo (.slice nA ns.length ncap) (.slice rA rs.length rcap) cs (.slice A cs.length cap) wr)) (fun i _ => o.length - (intOf i).toNat)
      case atStart => exact ⟨0, [], none, 0, by omega, rfl, Lib.hid rfl, Lib.hid (by omega), HI0⟩
      case round =>
        obtain ⟨k, cs, A, cap, hk, rfl, hcs, hnl, hI⟩ := hrel
        clear HI0
        have b0 : wr.cell? ⟨V.heap.size, 0, none⟩ = some (.slice nA ns.length ncap) := by simp [World.cell?, hI.out.g]
        have b1 : wr.cell? ⟨V.heap.size, 1, none⟩ = some (.slice rA rs.length rcap) := by simp [World.cell?, hI.out.g]
        have hvs := hI.out.ext.size
        have hbo := hI.out.bo
        have hbl := lt_of_heap hI.out.out
        by_cases hlt : k < o.length
        rotate_left
        · obtain rfl : k = o.length := by omega
          rw [List.take_length] at hcs
          go_wp2_with fail
          refine (turn_any rA A2 rcap cap2 rs o _ hr (by omega) (HR.out.ext hI.out.ext) (HO.out.ext hI.out.ext)).mono ?_
          rintro e w3 ⟨hx3, hret⟩
          have HI3 := Lib.hid (hI.out.grow hx3)
          have HXW := Lib.hid (hI.out.ext.trans hx3)
          rcases hret with ⟨hl, rfl⟩ | ⟨hl, A5, cap5, rfl, hown⟩
          · have HE := Lib.hid (renE_place HB.out HBO.out (lostO_root (o := o) (ns := ns) hl))
            clear hx3 hl hI b0 b1
            have p0 : w3.cell? ⟨V.heap.size + 1, 0, none⟩ = some (.slice none 0 0) := by simp [World.cell?, HI3.out.r]
            have p1 : w3.cell? ⟨V.heap.size + 1, 1, none⟩ = some (.slice none 0 0) := by simp [World.cell?, HI3.out.r]
            have p2 : w3.frozen? ⟨V.heap.size + 1, 0, none⟩ = false := by simp [World.frozen?, HI3.out.r]
            have p3 : w3.frozen? ⟨V.heap.size + 1, 1, none⟩ = false := by simp [World.frozen?, HI3.out.r]
            go_wp2_with fail
            ((try simp only [Exit.inBlock, Exit.then]); refine bodyPost_ret (v := .tuple #[.agg #[.slice none 0 0, .slice none 0 0], .int .i64 2]) (by simp only [results, Try.results37]; go_simp) rfl ?_)
            exact ret_fail HE.out (by decide) (((HXW.out).setCell (by simp) _).setCell (by simp) _)
          · have HE := Lib.hid (renE_ok HB.out HBO.out (lostO_no hnl.out hl))
            have HFIN := Lib.hid (HI3.out.fin (rs := rs.map (turned o)) (hown.mono hvs) hcs.out)
            have f0 : w3.cell? ⟨Bo, 0, none⟩ = some (.slice A cs.length cap) := by simp [World.cell?, HI3.out.out]
            have f1 : w3.cell? ⟨Bo, 1, none⟩ = some (.slice none 0 0) := by simp [World.cell?, HI3.out.out]
            have f2 : w3.frozen? ⟨Bo, 1, none⟩ = false := by simp [World.frozen?, HI3.out.out]
            have hb3 := lt_of_heap HI3.out.out
            clear hx3 hl hI b0 b1 hown hbl
            have p0 : w3.cell? ⟨V.heap.size + 1, 0, none⟩ = some (.slice none 0 0) := by simp [World.cell?, HI3.out.r]
            have p1 : w3.cell? ⟨V.heap.size + 1, 1, none⟩ = some (.slice none 0 0) := by simp [World.cell?, HI3.out.r]
            have p2 : w3.frozen? ⟨V.heap.size + 1, 0, none⟩ = false := by simp [World.frozen?, HI3.out.r]
            have p3 : w3.frozen? ⟨V.heap.size + 1, 1, none⟩ = false := by simp [World.frozen?, HI3.out.r]
            go_wp2_with fail
            ((try simp only [Exit.inBlock, Exit.then]); refine bodyPost_ret (v := .tuple #[.agg #[.slice A cs.length cap, .slice A5 (rs.map (turned o)).length cap5], .int .i64 0]) (by simp only [results, Try.results37]; go_simp) rfl ?_)
            have := HFIN.out (.slice A5 rs.length cap5) (.slice A cs.length cap) (.slice A5 rs.length cap5)
            rw [renN, renR, HE.out, if_pos rfl, if_pos rfl]
            exact this
        obtain ⟨lb, off, rfl, hc⟩ := HO.out.get (by omega)
        have c1 := hI.out.ext.cell (ints_cell hc hlt)
        obtain ⟨q1, q2, q3⟩ := HQ.out k hlt
        have HMS := Lib.hid (map_snoc (f := turnN o ns) (d := 0) hlt)
        have HLN := Lib.hid (fun h => lostO_node (ns := ns) (rs := rs) hlt h)
        have HNL := Lib.hid (fun (h : (ns.getD (o.getD k 0).toNat default).fields.any (lostV o) = false) => (fun i (hi : i < k + 1) => by
          rcases Nat.lt_or_ge i k with h' | h'
          · exact hnl.out i h'
          · obtain rfl : i = k := by omega
            exact h : ∀ i, i < k + 1 → (ns.getD (o.getD i 0).toNat default).fields.any (lostV o) = false))
        have hclb : cs.length ≤ 1000 := by have := congrArg List.length hcs.out; simp at this; omega
        have ib1 : (k : Int) < (o.length : Int) := by omega
        have ib0 : (0 : Int) ≤ (k : Int) := by omega
        have HTN := Lib.hid (show turnN o ns (o.getD k 0) = ((ns.getD (o.getD k 0).toNat default).kind, (ns.getD (o.getD k 0).toNat default).fields.map (turned o), (ns.getD (o.getD k 0).toNat default).raws) from rfl)
        clear hc hnl q3
        generalize o.getD k 0 = a at *
        obtain ⟨j, rfl⟩ := Int.eq_ofNat_of_zero_le q1
        have hj : j < ns.length := by omega
        rw [Int.toNat_natCast] at HLN HNL HTN
        obtain ⟨nb, noff, rfl, hcn⟩ := HN.out.row.get (by omega)
        obtain ⟨d0, d1, d2⟩ := nodes_cell hcn hj
        have e0 := hI.out.ext.cell d0
        have e1 := hI.out.ext.cell d1
        have e2 := hI.out.ext.cell d2
        have HNA := Lib.hid (HN.out.each _ (getD_mem (d := default) hj))
        have HOK := Lib.hid (HF.out _ (getD_mem (d := default) hj))
        clear hcn d0 d1 d2
        generalize ns.getD j default = x at *
        obtain ⟨xk, xA, xc, fs, yA, yc, ys⟩ := x
        simp only at e0 e1 e2 HLN HNL HTN
        have hfl := HOK.out.fl
        have hrl := HOK.out.rl
        simp only at hfl hrl
        have HI1 := hI
        have hs0 : Ext wr wr := Ext.refl wr
        have l0 : ∀ u : ExtOf wr, u.1.cell? ⟨V.heap.size, 0, none⟩ = some (.slice (some ⟨nb, noff, none⟩) ns.length ncap) := fun u => u.2.cell b0
        have l1 : ∀ u : ExtOf wr, u.1.cell? ⟨lb, off + k, none⟩ = some (.int .i64 j) := fun u => u.2.cell c1
        have l2 : ∀ u : ExtOf wr, u.1.cell? ⟨nb, noff + j * 3, none⟩ = some (.int .i64 xk) := fun u => u.2.cell e0
        have l3 : ∀ u : ExtOf wr, u.1.cell? ⟨nb, noff + j * 3 + 1, none⟩ = some (.slice xA fs.length xc) := fun u => u.2.cell e1
        have l4 : ∀ u : ExtOf wr, u.1.cell? ⟨nb, noff + j * 3 + 2, none⟩ = some (.slice yA ys.length yc) := fun u => u.2.cell e2
        go_wp2_with fail
        (refine wp_region_ord (W := wr) [(0, true), (1, true), (2, true), (3, true), (4, true), (5, true), (6, true), (7, true)] [8] [9] (by kernel_rfl) (by kernel_rfl) (by intro c a d v w h; cases d <;> first | exact h | (cases h; done) | cases h.1.1 | cases h.1) (by with_reducible assumption) ?_; simp only [opsOf, List.map_cons, List.map_nil, List.getD_cons_zero, List.getD_cons_succ]; (repeat (go_big_quiet_step (fail))); refine wpQuiet_nil ?_; intro w1 hx; (repeat (refine mid_step (by rfl) ?_; intro K hK; go_simp; refine hK _ _ (by repeat (first | (with_reducible exact Ext.refl _) | (with_reducible assumption) | (with_reducible refine Ext.drew ?_) | (with_reducible refine Ext.alloc ?_ _))) ?_; clear hK K)); refine mid_nil ?_)
        have HI2 := Lib.hid (HI1.out.grow (hx.alloc (.cells #[.int .i64 xk, .slice xA fs.length xc, .slice yA ys.length yc] 51)))
        have hkx : ∀ w', Ext (w1.alloc (.cells #[.int .i64 xk, .slice xA fs.length xc, .slice yA ys.length yc] 51)) w' → w'.cell? ⟨w1.heap.size, 0, none⟩ = some (.int .i64 xk) ∧ w'.cell? ⟨w1.heap.size, 1, none⟩ = some (.slice xA fs.length xc) ∧ w'.cell? ⟨w1.heap.size, 2, none⟩ = some (.slice yA ys.length yc) := fun w' h =>
          ⟨boxed w1 #[.int .i64 xk, .slice xA fs.length xc, .slice yA ys.length yc] 51 0 (.int .i64 xk) rfl w' h, boxed w1 #[.int .i64 xk, .slice xA fs.length xc, .slice yA ys.length yc] 51 1 (.slice xA fs.length xc) rfl w' h, boxed w1 #[.int .i64 xk, .slice xA fs.length xc, .slice yA ys.length yc] 51 2 (.slice yA ys.length yc) rfl w' h⟩
        have HKX := Lib.hid hkx
        have HX2 := Lib.hid (hI.out.ext.trans (hx.alloc (.cells #[.int .i64 xk, .slice xA fs.length xc, .slice yA ys.length yc] 51)))
        clear hkx hx hs0 l0 l1 l2 l3 l4 e0 e1 e2 b0 b1 c1 hI HI1
        go_wp2_with fail
        refine (turn_any xA (some ⟨lb, off, none⟩) xc cap2 fs o _ hfl (by omega) (HNA.out.fields.ext HX2.out) (HO.out.ext HX2.out)).mono ?_
        rintro e w3 ⟨hx3, hret⟩
        have HI3 := Lib.hid (HI2.out.grow hx3)
        have HX3 := Lib.hid (HX2.out.trans hx3)
        have hv3 := HX2.out.size
        obtain ⟨m0, m1, m2⟩ := HKX.out _ hx3
        clear hx3 HKX
        rcases hret with ⟨hl, rfl⟩ | ⟨hl, A5, cap5, rfl, hown⟩
        · have HE := Lib.hid (renE_place HB.out HBO.out (HLN.out hl))
          clear hl
          have p0 : w3.cell? ⟨V.heap.size + 1, 0, none⟩ = some (.slice none 0 0) := by simp [World.cell?, HI3.out.r]
          have p1 : w3.cell? ⟨V.heap.size + 1, 1, none⟩ = some (.slice none 0 0) := by simp [World.cell?, HI3.out.r]
          have p2 : w3.frozen? ⟨V.heap.size + 1, 0, none⟩ = false := by simp [World.frozen?, HI3.out.r]
          have p3 : w3.frozen? ⟨V.heap.size + 1, 1, none⟩ = false := by simp [World.frozen?, HI3.out.r]
          go_wp2_with fail
          ((try simp only [Exit.inBlock, Exit.then]); refine bodyPost_ret (v := .tuple #[.agg #[.slice none 0 0, .slice none 0 0], .int .i64 2]) (by simp only [results, Try.results37]; go_simp) rfl ?_)
          exact ret_fail HE.out (by decide) (((HX3.out).setCell (by simp) _).setCell (by simp) _)
        · have HNL2 := Lib.hid (HNL.out hl)
          have HOW := Lib.hid (show Own 53 2 spanC w3 V.heap.size (.slice A5 (fs.map (turned o)).length cap5) (fs.map (turned o)) from hown.mono hv3)
          have f0 : w3.cell? ⟨Bo, 0, none⟩ = some (.slice A cs.length cap) := by simp [World.cell?, HI3.out.out]
          have hml : (fs.map (turned o)).length = fs.length := List.length_map _
          have HML := Lib.hid hml
          have hv4 := HX3.out.size
          clear hl hown hml HNL HLN HX2 HI2
          go_wp2_with (at_builtin; refine wpList_app_lit rfl (.tmp 76) (.tmp 83) 22 rfl nodeInfo nodeCells rfl (by exact HI3.out.own) [⟨xk, A5, cap5, fs.map (turned o), yA, yc, ys⟩] 1 _ (by simp [nodeC]) (cs.length + 1) 1 (by simp) rfl _ rfl (by first | rfl | simp) (by omega) (by simp [maxLen]; omega) (by exact hv4) ?_; intro A6 cap6 w6 ho6 hg6 ht6; have HI6 := Lib.hid (RenI.app (x := ⟨xk, A5, cap5, fs.map (turned o), yA, yc, ys⟩) (HI3.out.grow ((Ext.refl _).alloc _)) ho6 hg6 (Own.ext HOW.out ((Ext.refl _).alloc _)) ⟨HNA.out.raws, HOK.out.rn, HOK.out.rc⟩); have HX6 : Hid (w6.heap[Bo]? = some (.cells #[.slice A cs.length cap, .slice none 0 0] 25 (0, 0))) := Lib.hid ((hg6.block _ (by have := lt_of_heap HI3.out.out; simp; omega) (HI3.out.own.ne_block HI3.out.out (by decide))).trans ((Below.heap_alloc _ _ _ (lt_of_heap HI3.out.out)).trans HI3.out.out)); clear ho6 hg6 ht6; have f1 : w6.cell? ⟨Bo, 0, none⟩ = some (.slice A cs.length cap) := (by simp [World.cell?, HX6.out]); have f2 : w6.frozen? ⟨Bo, 0, none⟩ = false := (by simp [World.frozen?, HX6.out]))
          go_roundw
          case rel => exact ⟨k + 1, cs ++ [⟨xk, A5, cap5, fs.map (turned o), yA, yc, ys⟩], A6, cap6, by omega, by go_num, Lib.hid (by rw [HMS.out, List.map_append, hcs.out, HTN.out]; rfl), HNL2, Lib.hid (by rw [List.length_append]; exact HI6.out)⟩
          case measure => simp [intOf]; omega
    obtain ⟨lb, off, rfl, hc⟩ := HO.out.get (by omega)
    have c1 := (HX1.out.trans hxr.out).cell (ints_cell hc hlt)
    have HBY := Lib.hid (fun h => badO_yes (n := ns.length) hlt h)
    have HU := Lib.hid (fun (h : 0 ≤ o.getD k 0 ∧ o.getD k 0 < ns.length ∧ placeZ o (o.getD k 0) = k) => (fun i (hi : i < k + 1) => by
      rcases Nat.lt_or_ge i k with h' | h'
      · exact hq.out i h'
      · obtain rfl : i = k := by omega
        exact h : ∀ i, i < k + 1 → 0 ≤ o.getD i 0 ∧ o.getD i 0 < ns.length ∧ placeZ o (o.getD i 0) = i))
    have ib1 : (k : Int) < (o.length : Int) := by omega
    have ib0 : (0 : Int) ≤ (k : Int) := by omega
    have hs0 : Ext wr wr := Ext.refl wr
    have HXR := Lib.hid (HX1.out.trans hxr.out)
    clear hc hq
    generalize o.getD k 0 = a at *
    have l0 : ∀ u : ExtOf wr, u.1.cell? ⟨V.heap.size, 0, none⟩ = some (.slice nA ns.length ncap) := fun u => u.2.cell b0
    have l1 : ∀ u : ExtOf wr, u.1.cell? ⟨lb, off + k, none⟩ = some (.int .i64 a) := fun u => u.2.cell c1
    by_cases h1 : a < 0
    · have hd1 : decide (a < 0) = true := by simpa using h1
      have HE := Lib.hid (renE_arg HB.out (HBY.out (by omega)))
      clear HBY HU h1
      go_wp2_with fail
      (refine wp_region_ext (W := wr) (by kernel_rfl) (by kernel_rfl) (by with_reducible assumption) ?_; (repeat (go_big_quiet_step (fail))); refine wpQuiet_nil ?_; intro w1 hx)
      have hbb := Lib.hid ((hx.block (lt_of_heap HRR.out)).trans HRR.out)
      have p0 : w1.cell? ⟨V.heap.size + 1, 0, none⟩ = some (.slice none 0 0) := by simp [World.cell?, hbb.out]
      have p1 : w1.cell? ⟨V.heap.size + 1, 1, none⟩ = some (.slice none 0 0) := by simp [World.cell?, hbb.out]
      have p2 : w1.frozen? ⟨V.heap.size + 1, 0, none⟩ = false := by simp [World.frozen?, hbb.out]
      have p3 : w1.frozen? ⟨V.heap.size + 1, 1, none⟩ = false := by simp [World.frozen?, hbb.out]
      go_wp2_with fail
      ((try simp only [Exit.inBlock, Exit.then]); refine bodyPost_ret (v := .tuple #[.agg #[.slice none 0 0, .slice none 0 0], .int .i64 1]) (by simp only [results, Try.results37]; go_simp) rfl ?_)
      exact ret_fail HE.out (by decide) (((HXR.out.trans hx).setCell (by simp) _).setCell (by simp) _)
    have hd1 : decide (a < 0) = false := by simpa using h1
    by_cases h2 : a < ns.length
    rotate_left
    · have hd2 : decide ((ns.length : Int) ≤ a) = true := by simpa using h2
      have HE := Lib.hid (renE_arg HB.out (HBY.out (by omega)))
      clear HBY HU h1 h2
      go_wp2_with fail
      (refine wp_region_ext (W := wr) (by kernel_rfl) (by kernel_rfl) (by with_reducible assumption) ?_; (repeat (go_big_quiet_step (fail))); refine wpQuiet_nil ?_; intro w1 hx)
      have hbb := Lib.hid ((hx.block (lt_of_heap HRR.out)).trans HRR.out)
      have p0 : w1.cell? ⟨V.heap.size + 1, 0, none⟩ = some (.slice none 0 0) := by simp [World.cell?, hbb.out]
      have p1 : w1.cell? ⟨V.heap.size + 1, 1, none⟩ = some (.slice none 0 0) := by simp [World.cell?, hbb.out]
      have p2 : w1.frozen? ⟨V.heap.size + 1, 0, none⟩ = false := by simp [World.frozen?, hbb.out]
      have p3 : w1.frozen? ⟨V.heap.size + 1, 1, none⟩ = false := by simp [World.frozen?, hbb.out]
      go_wp2_with fail
      ((try simp only [Exit.inBlock, Exit.then]); refine bodyPost_ret (v := .tuple #[.agg #[.slice none 0 0, .slice none 0 0], .int .i64 1]) (by simp only [results, Try.results37]; go_simp) rfl ?_)
      exact ret_fail HE.out (by decide) (((HXR.out.trans hx).setCell (by simp) _).setCell (by simp) _)
    have hd2 : decide ((ns.length : Int) ≤ a) = false := by simpa using h2
    obtain ⟨z, hz⟩ : ∃ z, placeZ o a = z := ⟨_, rfl⟩
    have HZ := Lib.hid hz
    have HOU := Lib.hid (fun u => HO.out.ext (HXR.out.trans u.2) : ∀ u : ExtOf wr, IntsAt u.1 (some ⟨lb, off, none⟩) o)
    by_cases h3 : z = k
    rotate_left
    · have hd3 : (z != (k : Int)) = true := by simpa using h3
      have HE := Lib.hid (renE_arg HB.out (HBY.out (by rw [hz]; omega)))
      clear HBY HU h1 h2 h3 hz
      go_wp2_with fail
      (refine wp_region_ext (W := wr) (by kernel_rfl) (by kernel_rfl) (by with_reducible assumption) ?_; (repeat (go_big_quiet_step (first | (go_at_call 59; with_reducible exact Calls.ext_of (place_is (some ⟨lb, off, none⟩) cap2 o a z HZ.out _ (by omega) (HOU.out _)))))); refine wpQuiet_nil ?_; intro w1 hx)
      have hbb := Lib.hid ((hx.block (lt_of_heap HRR.out)).trans HRR.out)
      have p0 : w1.cell? ⟨V.heap.size + 1, 0, none⟩ = some (.slice none 0 0) := by simp [World.cell?, hbb.out]
      have p1 : w1.cell? ⟨V.heap.size + 1, 1, none⟩ = some (.slice none 0 0) := by simp [World.cell?, hbb.out]
      have p2 : w1.frozen? ⟨V.heap.size + 1, 0, none⟩ = false := by simp [World.frozen?, hbb.out]
      have p3 : w1.frozen? ⟨V.heap.size + 1, 1, none⟩ = false := by simp [World.frozen?, hbb.out]
      go_wp2_with fail
      ((try simp only [Exit.inBlock, Exit.then]); refine bodyPost_ret (v := .tuple #[.agg #[.slice none 0 0, .slice none 0 0], .int .i64 1]) (by simp only [results, Try.results37]; go_simp) rfl ?_)
      exact ret_fail HE.out (by decide) (((HXR.out.trans hx).setCell (by simp) _).setCell (by simp) _)
    have hd3 : (z != (k : Int)) = false := by simpa using h3
    have HUU := Lib.hid (HU.out ⟨by omega, h2, by rw [hz]; exact h3⟩)
    clear HBY HU h1 h2 h3 hz
    go_wp2_with fail
    (refine wp_region_ext (W := wr) (by kernel_rfl) (by kernel_rfl) (by with_reducible assumption) ?_; (repeat (go_big_quiet_step (first | (go_at_call 59; with_reducible exact Calls.ext_of (place_is (some ⟨lb, off, none⟩) cap2 o a z HZ.out _ (by omega) (HOU.out _)))))); refine wpQuiet_nil ?_; intro w1 hx)
    go_wp2_with fail
    go_roundw
    case rel => exact ⟨k + 1, by omega, by go_num, Lib.hid (hxr.out.trans hx), HUU⟩
    case measure => simp [intOf]; omega
theorem refren_any (G : GraphD) (A2 : Option Addr) (cap2 : Nat) (o : List Int) (V : World) (hG : GraphAt V G) (oG : GraphOk G) (hO : IntsAt V A2 o) (hol : o.length ≤ 1000) :
    Calls Try.prog 37 #[.agg #[.slice G.nA G.ns.length G.ncap, .slice G.rA G.rs.length G.rcap], .slice A2 o.length cap2] V (RetN V (renE G o) (renN G o) (renR G o)) :=
  refren_x _ _ _ _ _ _ A2 cap2 o V hG.nodes hG.roots hO oG.nl oG.rl hol oG.each
end Go.Proofs.Ytphpppjfogpohaa

