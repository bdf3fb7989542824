/- The program's Copy. -/
import Derived.Test.YtidfibheehcdgaaGraO
set_option linter.unusedSimpArgs false
set_option linter.unusedVariables false
namespace Go.Proofs.Ytidfibheehcdgaa
open Go.RowKit Go.Shelf

theorem wp_norm {P : Program} {c : Code} {Q : Exit → Act → World → Prop} {a : Act} {w : World} (C : Act → World → Prop) (h : c.wp P (fun e a w => e = .normal ∧ C a w) a w) (h2 : ∀ a w, C a w → Q .normal a w) : c.wp P Q a w :=
  Code.wp_mono (by rintro e a w ⟨rfl, h⟩; exact h2 a w h) h
section
variable {w : World} {B g cap n : Nat} {cs rest : List NodeD} {x : NodeD}
/-- A node's fields are exchanged, and its raws. -/
theorem own_setF (h : Own 34 3 nodeC w B (.slice (some ⟨g, 0, none⟩) n cap) (cs ++ x :: rest)) (hn : (cs ++ x :: rest).length = n) (A : Option Addr) (c : Nat) :
    Own 34 3 nodeC (w.setCell ⟨g, cs.length * 3 + 1, none⟩ (.slice A x.fields.length c)) B (.slice (some ⟨g, 0, none⟩) n cap) (cs ++ { x with fA := A, fcap := c } :: rest) := by
  unfold Own at h ⊢
  have hl : (cs ++ { x with fA := A, fcap := c } :: rest).length = n := by rw [← hn]; simp
  rw [hn] at h
  rw [hl]
  have h1 := (World.ownsRow.stored h (cs.length * 3 + 1) (.slice A x.fields.length c)).1
  have h2 : (cs ++ { x with fA := A, fcap := c } :: rest).flatMap nodeC = ((cs ++ x :: rest).flatMap nodeC).set (cs.length * 3 + 1) (.slice A x.fields.length c) := by
    have hf := flat_len nodeCells cs
    simp only [List.flatMap_append, List.flatMap_cons, nodeC]
    rw [List.set_append_right _ _ (by omega), hf]
    simp
  rw [h2]
  exact h1
theorem own_setR (h : Own 34 3 nodeC w B (.slice (some ⟨g, 0, none⟩) n cap) (cs ++ x :: rest)) (hn : (cs ++ x :: rest).length = n) (A : Option Addr) (c : Nat) :
    Own 34 3 nodeC (w.setCell ⟨g, cs.length * 3 + 2, none⟩ (.slice A x.raws.length c)) B (.slice (some ⟨g, 0, none⟩) n cap) (cs ++ { x with rA := A, rcap := c } :: rest) := by
  unfold Own at h ⊢
  have hl : (cs ++ { x with rA := A, rcap := c } :: rest).length = n := by rw [← hn]; simp
  rw [hn] at h
  rw [hl]
  have h1 := (World.ownsRow.stored h (cs.length * 3 + 2) (.slice A x.raws.length c)).1
  have h2 : (cs ++ { x with rA := A, rcap := c } :: rest).flatMap nodeC = ((cs ++ x :: rest).flatMap nodeC).set (cs.length * 3 + 2) (.slice A x.raws.length c) := by
    have hf := flat_len nodeCells cs
    simp only [List.flatMap_append, List.flatMap_cons, nodeC]
    rw [List.set_append_right _ _ (by omega), hf]
    simp
  rw [h2]
  exact h1
theorem own_heap {α : Type} {e : TypeId} {n : Nat} {f : α → List Value} {B g len cap : Nat} {xs : List α} {w : World} (h : Own e n f w B (.slice (some ⟨g, 0, none⟩) len cap) xs) : ∃ cur, w.heap[g]? = some (.cells cur e (0, 0)) := by
  rcases h.2 with ⟨hv, _⟩ | ⟨b2, cap2, cur, hv, _, hg2, _⟩
  · cases hv
  · injection hv with h1 h2 h3
    injection h1 with h1
    injection h1 with h1
    subst h1
    exact ⟨cur, hg2⟩
end
/-- What the copying loop in place keeps. -/
structure CpyI (V : World) (Bo : Nat) (g0 g1 : Value) (res : Array Value) (rs : List (Int × Int)) (cs L : List NodeD) (v root : Value) (wr : World) : Prop where
  g : wr.heap[V.heap.size]? = some (.cells #[g0, g1] 25 (0, 0))
  r : wr.heap[V.heap.size + 1]? = some (.cells res 25 (0, 0))
  out : wr.heap[Bo]? = some (.cells #[v, root] 25 (0, 0))
  own : Own 34 3 nodeC wr V.heap.size v L
  each : ∀ c ∈ cs, OwnN wr V.heap.size c
  root : Own 46 2 spanC wr V.heap.size root rs
  ext : Ext V wr
  bo : V.heap.size + 1 < Bo
section
variable {V : World} {Bo : Nat} {g0 g1 : Value} {res : Array Value} {rs : List (Int × Int)} {cs L : List NodeD} {v root : Value} {wr w' : World}
theorem CpyI.grow (h : CpyI V Bo g0 g1 res rs cs L v root wr) (hx : Ext wr w') : CpyI V Bo g0 g1 res rs cs L v root w' :=
  ⟨(hx.block (lt_of_heap h.g)).trans h.g, (hx.block (lt_of_heap h.r)).trans h.r, (hx.block (lt_of_heap h.out)).trans h.out, h.own.ext hx, fun c hc => (h.each c hc).ext hx, h.root.ext hx, h.ext.trans hx, h.bo⟩
/-- A cell of the nodes' block is set. -/
theorem CpyI.set {g n cap : Nat} {cs' L' : List NodeD} (h : CpyI V Bo g0 g1 res rs cs L (.slice (some ⟨g, 0, none⟩) n cap) root wr) {i : Nat} {u : Value} (hown : Own 34 3 nodeC (wr.setCell ⟨g, i, none⟩ u) V.heap.size (.slice (some ⟨g, 0, none⟩) n cap) L')
    (hcs : ∀ c ∈ cs', OwnN wr V.heap.size c) : CpyI V Bo g0 g1 res rs cs' L' (.slice (some ⟨g, 0, none⟩) n cap) root (wr.setCell ⟨g, i, none⟩ u) := by
  obtain ⟨cur, hg⟩ := own_heap h.own
  have hty : ∀ (b : Nat) (ws : Array Value), wr.heap[b]? = some (.cells ws 25 (0, 0)) → (wr.setCell ⟨g, i, none⟩ u).heap[b]? = some (.cells ws 25 (0, 0)) := fun b ws hb =>
    (Below.heap_setCell wr ⟨g, i, none⟩ u b (fun e => by simp only at e; subst e; rw [hg] at hb; cases hb)).trans hb
  exact ⟨hty _ _ h.g, hty _ _ h.r, hty _ _ h.out, hown, fun c hc => ⟨(hcs c hc).f.setOther hg (by decide), (hcs c hc).r.setOther hg (by decide)⟩, h.root.setOther hg (by decide), h.ext.setCell (by have := (World.ownsRow.lt h.own g rfl).1; exact this) _, h.bo⟩
theorem CpyI.fin {A A1 : Option Addr} {n cap cap1 : Nat} (h : CpyI V Bo g0 g1 res rs cs cs (.slice A n cap) (.slice A1 rs.length cap1) wr) (hn : cs.length = n) (u0 u1 : Value) :
    OwnG ((wr.setCell ⟨V.heap.size + 1, 0, none⟩ u0).setCell ⟨V.heap.size + 1, 1, none⟩ u1) V.heap.size ⟨A, cap, cs, A1, cap1, rs⟩ ∧ Ext V ((wr.setCell ⟨V.heap.size + 1, 0, none⟩ u0).setCell ⟨V.heap.size + 1, 1, none⟩ u1) := by
  subst hn
  exact CopI.fin ⟨h.g, h.r, h.out, h.own, h.each, h.root, h.ext, h.bo⟩ u0 u1
theorem CpyI.start {w0 w5 : World} {ns : List NodeD} (hx0 : Ext V w0) (hs0 : w0.heap.size = V.heap.size + 2) (hg0 : w0.heap[V.heap.size]? = some (.cells #[g0, g1] 25 (0, 0))) (hr0 : w0.heap[V.heap.size + 1]? = some (.cells res 25 (0, 0)))
    (hx : Ext w0 w5) {o : Array Value} (hb : w5.heap[Bo]? = some (.cells o 25 (0, 0))) (hbo : w0.heap.size ≤ Bo) (h2 : o = #[.slice none 0 0, .slice none 0 0])
    (hn : Own 34 3 nodeC w5 V.heap.size v ns) (hr : Own 46 2 spanC w5 V.heap.size root rs) : CpyI V Bo g0 g1 res rs [] ns v root ((w5.setCell ⟨Bo, 0, none⟩ v).setCell ⟨Bo, 1, none⟩ root) := by
  subst h2
  have h1 := heap_setCell_same w5 Bo 0 _ _ v hb
  have hset : ∀ b ob, w5.heap[b]? = some ob → b ≠ Bo → ((w5.setCell ⟨Bo, 0, none⟩ v).setCell ⟨Bo, 1, none⟩ root).heap[b]? = some ob := fun b ob hb' hne =>
    (Below.heap_setCell _ ⟨Bo, 1, none⟩ _ b hne).trans ((Below.heap_setCell w5 ⟨Bo, 0, none⟩ _ b hne).trans hb')
  refine ⟨hset _ _ ((hx.block (lt_of_heap hg0)).trans hg0) (by omega), hset _ _ ((hx.block (lt_of_heap hr0)).trans hr0) (by omega), ?_, (hn.setOther hb (by decide)).setOther h1 (by decide), by simp, (hr.setOther hb (by decide)).setOther h1 (by decide),
    ((hx0.trans hx).setCell (by simp only; omega) _).setCell (by simp only; omega) _, by omega⟩
  rw [heap_setCell_same _ Bo 1 _ _ root h1]
  rfl
end
set_option maxRecDepth 100000
set_option maxHeartbeats 8000000
theorem copy_x (nA : Option Addr) (ncap : Nat) (ns : List NodeD) (rA : Option Addr) (rcap : Nat) (rs : List (Int × Int)) (V : World) (hN : NodesAt V nA ns) (hR : SpansAt V rA rs) (hn : ns.length ≤ 2513169434843) (hr : rs.length ≤ 8796093022208) (hf : ∀ x ∈ ns, NodeOk x) :
    Calls Try.prog 23 #[.agg #[.slice nA ns.length ncap, .slice rA rs.length rcap]] V (RetG V ns rs) := by
  have HN := Lib.hid hN
  have HR := Lib.hid hR
  have HF := Lib.hid hf
  have HXV := Lib.hid (show Ext V ((V.alloc (.cells #[.slice nA ns.length ncap, .slice rA rs.length rcap] 25)).alloc (.cells #[.slice none 0 0, .slice none 0 0] 25)) from ((Ext.refl V).alloc _).alloc _)
  have HSZ := Lib.hid (show ((V.alloc (.cells #[.slice nA ns.length ncap, .slice rA rs.length rcap] 25)).alloc (.cells #[.slice none 0 0, .slice none 0 0] 25)).heap.size = V.heap.size + 2 by simp)
  have HG0 := Lib.hid (show ((V.alloc (.cells #[.slice nA ns.length ncap, .slice rA rs.length rcap] 25)).alloc (.cells #[.slice none 0 0, .slice none 0 0] 25)).heap[V.heap.size]? = some (.cells #[.slice nA ns.length ncap, .slice rA rs.length rcap] 25 (0, 0)) from (Below.heap_alloc _ _ _ (by simp)).trans (World.alloc_heap_new _ _))
  have HR0 := Lib.hid (show ((V.alloc (.cells #[.slice nA ns.length ncap, .slice rA rs.length rcap] 25)).alloc (.cells #[.slice none 0 0, .slice none 0 0] 25)).heap[V.heap.size + 1]? = some (.cells #[.slice none 0 0, .slice none 0 0] 25 (0, 0)) from by
    have := World.alloc_heap_new (V.alloc (.cells #[.slice nA ns.length ncap, .slice rA rs.length rcap] 25)) (.cells #[.slice none 0 0, .slice none 0 0] 25)
    simpa using this)
  clear hN hR hf
  go_enter Try.func23, Try.ntmps23
  go_wp2_with fail
  generalize ((V.alloc (.cells #[.slice nA ns.length ncap, .slice rA rs.length rcap] 25)).alloc (.cells #[.slice none 0 0, .slice none 0 0] 25)) = w1 at *
  have l0 : ∀ u : ExtOf w1, u.1.cell? ⟨V.heap.size, 0, none⟩ = some (.slice nA ns.length ncap) := fun u => u.2.cell (by simp [World.cell?, HG0.out])
  have l1 : ∀ u : ExtOf w1, u.1.cell? ⟨V.heap.size, 1, none⟩ = some (.slice rA rs.length rcap) := fun u => u.2.cell (by simp [World.cell?, HG0.out])
  refine wp_norm (fun a w => ∃ A1 cap1 A2 cap2 Bo, a = { tmps := #[.agg #[.slice nA ns.length ncap, .slice rA rs.length rcap], .pointer (some ⟨V.heap.size, 0, none⟩), .pointer (some ⟨V.heap.size + 1, 0, none⟩), .pointer (some ⟨Bo, 0, none⟩), undef, undef, .pointer (some ⟨V.heap.size, 0, none⟩), .slice nA ns.length ncap, .slice A1 ns.length cap1, .pointer (some ⟨V.heap.size, 1, none⟩), .slice rA rs.length rcap, .slice A2 rs.length cap2, .agg #[.slice A1 ns.length cap1, .slice A2 rs.length cap2], undef, undef, undef, undef, undef, undef, undef, undef, undef, undef, undef, undef, undef, undef, undef, undef, undef, undef, undef, undef, undef, undef, undef, undef, undef, undef], defers := [] } ∧
    CpyI V Bo (.slice nA ns.length ncap) (.slice rA rs.length rcap) #[.slice none 0 0, .slice none 0 0] rs [] ns (.slice A1 ns.length cap1) (.slice A2 rs.length cap2) w) ?_ ?_
  · refine wp_region_tree (fun w' => ∃ u : ExtOf w1, w' = u.1) [0, 1, 3, 4] 4 [(2, [(5, [(6, [(7, ())]), (7, [(6, ())])]), (7, [(5, [(6, ())])])]), (7, [(2, [(5, [(6, ())])])])] [8] (by kernel_rfl) (by kernel_rfl) (by intro c a d v w h; cases h.1) ⟨⟨_, (Ext.refl w1).drew⟩, rfl⟩ ?_
    simp only [opsOf, List.map_cons, List.map_nil, List.getD_cons_zero, List.getD_cons_succ]
    (repeat (go_big_quiet_step (fail)))
    refine wpQuiet_nil ?_
    have HXD := Lib.hid ((Ext.refl w1).drew)
    have HXW := Lib.hid (HXV.out.drew)
    have HSD := Lib.hid (show w1.drew.heap.size = V.heap.size + 2 from HSZ.out)
    have HGD := Lib.hid (show w1.drew.heap[V.heap.size]? = some (.cells #[.slice nA ns.length ncap, .slice rA rs.length rcap] 25 (0, 0)) from HG0.out)
    have HRD := Lib.hid (show w1.drew.heap[V.heap.size + 1]? = some (.cells #[.slice none 0 0, .slice none 0 0] 25 (0, 0)) from HR0.out)
    generalize w1.drew = w2 at *
    refine tr_two ?_ ?_
    · (refine op_step (by rfl) ?_; intro K hK; go_simp)
      refine (cloneN_any nA ncap ns _ hn (HN.out.row.ext (HXW.out.trans (Ext.refl w2)))).mono ?_
      rintro e w3 ⟨A1, cap1, rfl, hon, hxn⟩
      refine hK _ _ (ext_u (HXD.out.trans ((Ext.refl w2).trans hxn))) ?_
      clear hK K
      refine tr_two ?_ ?_
      · (refine op_step (by rfl) ?_; intro K hK; go_simp)
        refine (cloneV_any rA rcap rs _ hr (HR.out.ext (HXW.out.trans (hxn)))).mono ?_
        rintro e w4 ⟨A2, cap2, rfl, hor, hxr⟩
        refine hK _ _ (ext_u (HXD.out.trans ((hxn).trans hxr))) ?_
        clear hK K
        refine tr_two ?_ ?_
        · (refine op_step (by rfl) ?_; intro K hK; go_simp; refine hK _ _ (ext_u (HXD.out.trans (hxn.trans hxr))) ?_; clear hK K)
          refine tr_one ?_
          (refine op_step (by rfl) ?_; intro K hK; go_simp; refine hK _ _ (ext_u (HXD.out.trans ((hxn.trans hxr).alloc _))) ?_; clear hK K)
          refine tr_nil ?_
          try simp only [opsOf, List.map_cons, List.map_nil, List.getD_cons_zero, List.getD_cons_succ]
          have HBB := Lib.hid (show (w4.alloc (.cells #[.slice none 0 0, .slice none 0 0] 25)).heap[w4.heap.size]? = some (.cells #[.slice none 0 0, .slice none 0 0] 25 (0, 0)) from World.alloc_heap_new _ _)
          have HST := Lib.hid (CpyI.start HXW.out HSD.out HGD.out HRD.out ((hxn.trans hxr).alloc _) HBB.out ((hxn.trans hxr).size) rfl (((hon.mono (by have := HSD.out; omega)).ext hxr).ext ((Ext.refl _).alloc _)) ((hor.mono (by have := HSD.out; have := hxn.size; omega)).ext ((Ext.refl _).alloc _)))
          have z0 : (w4.alloc (.cells #[.slice none 0 0, .slice none 0 0] 25)).frozen? ⟨w4.heap.size, 0, none⟩ = false := frozen_of_row _ _ 0 _ _ HBB.out
          have z1 : (w4.alloc (.cells #[.slice none 0 0, .slice none 0 0] 25)).frozen? ⟨w4.heap.size, 1, none⟩ = false := frozen_of_row _ _ 1 _ _ HBB.out
          have z2 : (w4.alloc (.cells #[.slice none 0 0, .slice none 0 0] 25)).cell? ⟨w4.heap.size, 0, none⟩ = some (.slice none 0 0) := (cell_of_row _ _ 0 _ _ (0, 0) HBB.out).trans rfl
          have z3 : (w4.alloc (.cells #[.slice none 0 0, .slice none 0 0] 25)).cell? ⟨w4.heap.size, 1, none⟩ = some (.slice none 0 0) := (cell_of_row _ _ 1 _ _ (0, 0) HBB.out).trans rfl
          clear l0 l1
          generalize (w4.alloc (.cells #[.slice none 0 0, .slice none 0 0] 25)) = w5 at *
          go_wp2_with fail
          exact ⟨_, _, _, _, _, ⟨rfl, ⟨rfl, rfl⟩, ⟨rfl, rfl⟩, ⟨rfl, rfl⟩, rfl, rfl⟩, HST.out⟩
        · (refine op_step (by rfl) ?_; intro K hK; go_simp; refine hK _ _ (ext_u (HXD.out.trans ((hxn.trans hxr).alloc _))) ?_; clear hK K)
          refine tr_one ?_
          (refine op_step (by rfl) ?_; intro K hK; go_simp; refine hK _ _ (ext_u (HXD.out.trans ((hxn.trans hxr).alloc _))) ?_; clear hK K)
          refine tr_nil ?_
          try simp only [opsOf, List.map_cons, List.map_nil, List.getD_cons_zero, List.getD_cons_succ]
          have HBB := Lib.hid (show (w4.alloc (.cells #[.slice none 0 0, .slice none 0 0] 25)).heap[w4.heap.size]? = some (.cells #[.slice none 0 0, .slice none 0 0] 25 (0, 0)) from World.alloc_heap_new _ _)
          have HST := Lib.hid (CpyI.start HXW.out HSD.out HGD.out HRD.out ((hxn.trans hxr).alloc _) HBB.out ((hxn.trans hxr).size) rfl (((hon.mono (by have := HSD.out; omega)).ext hxr).ext ((Ext.refl _).alloc _)) ((hor.mono (by have := HSD.out; have := hxn.size; omega)).ext ((Ext.refl _).alloc _)))
          have z0 : (w4.alloc (.cells #[.slice none 0 0, .slice none 0 0] 25)).frozen? ⟨w4.heap.size, 0, none⟩ = false := frozen_of_row _ _ 0 _ _ HBB.out
          have z1 : (w4.alloc (.cells #[.slice none 0 0, .slice none 0 0] 25)).frozen? ⟨w4.heap.size, 1, none⟩ = false := frozen_of_row _ _ 1 _ _ HBB.out
          have z2 : (w4.alloc (.cells #[.slice none 0 0, .slice none 0 0] 25)).cell? ⟨w4.heap.size, 0, none⟩ = some (.slice none 0 0) := (cell_of_row _ _ 0 _ _ (0, 0) HBB.out).trans rfl
          have z3 : (w4.alloc (.cells #[.slice none 0 0, .slice none 0 0] 25)).cell? ⟨w4.heap.size, 1, none⟩ = some (.slice none 0 0) := (cell_of_row _ _ 1 _ _ (0, 0) HBB.out).trans rfl
          clear l0 l1
          generalize (w4.alloc (.cells #[.slice none 0 0, .slice none 0 0] 25)) = w5 at *
          go_wp2_with fail
          exact ⟨_, _, _, _, _, ⟨rfl, ⟨rfl, rfl⟩, ⟨rfl, rfl⟩, ⟨rfl, rfl⟩, rfl, rfl⟩, HST.out⟩
      · (refine op_step (by rfl) ?_; intro K hK; go_simp; refine hK _ _ (ext_u (HXD.out.trans (hxn.alloc _))) ?_; clear hK K)
        refine tr_one ?_
        (refine op_step (by rfl) ?_; intro K hK; go_simp)
        refine (cloneV_any rA rcap rs _ hr (HR.out.ext (HXW.out.trans (hxn.alloc _)))).mono ?_
        rintro e w4 ⟨A2, cap2, rfl, hor, hxr⟩
        refine hK _ _ (ext_u (HXD.out.trans ((hxn.alloc _).trans hxr))) ?_
        clear hK K
        refine tr_one ?_
        (refine op_step (by rfl) ?_; intro K hK; go_simp; refine hK _ _ (ext_u (HXD.out.trans ((hxn.alloc _).trans hxr))) ?_; clear hK K)
        refine tr_nil ?_
        try simp only [opsOf, List.map_cons, List.map_nil, List.getD_cons_zero, List.getD_cons_succ]
        have HBB := Lib.hid (show w4.heap[w3.heap.size]? = some (.cells #[.slice none 0 0, .slice none 0 0] 25 (0, 0)) from (hxr.block (by simp)).trans (World.alloc_heap_new _ _))
        have HST := Lib.hid (CpyI.start HXW.out HSD.out HGD.out HRD.out ((hxn.alloc (.cells #[.slice none 0 0, .slice none 0 0] 25)).trans hxr) HBB.out (hxn.size) rfl (((hon.mono (by have := HSD.out; omega)).ext ((Ext.refl _).alloc (.cells #[.slice none 0 0, .slice none 0 0] 25))).ext hxr) (hor.mono (by have := HSD.out; have := hxn.size; simp; omega)))
        have z0 : w4.frozen? ⟨w3.heap.size, 0, none⟩ = false := frozen_of_row _ _ 0 _ _ HBB.out
        have z1 : w4.frozen? ⟨w3.heap.size, 1, none⟩ = false := frozen_of_row _ _ 1 _ _ HBB.out
        have z2 : w4.cell? ⟨w3.heap.size, 0, none⟩ = some (.slice none 0 0) := (cell_of_row _ _ 0 _ _ (0, 0) HBB.out).trans rfl
        have z3 : w4.cell? ⟨w3.heap.size, 1, none⟩ = some (.slice none 0 0) := (cell_of_row _ _ 1 _ _ (0, 0) HBB.out).trans rfl
        clear l0 l1
        generalize w4 = w5 at *
        go_wp2_with fail
        exact ⟨_, _, _, _, _, ⟨rfl, ⟨rfl, rfl⟩, ⟨rfl, rfl⟩, ⟨rfl, rfl⟩, rfl, rfl⟩, HST.out⟩
    · (refine op_step (by rfl) ?_; intro K hK; go_simp; refine hK _ _ (ext_u (HXD.out.trans ((Ext.refl w2).alloc _))) ?_; clear hK K)
      refine tr_one ?_
      (refine op_step (by rfl) ?_; intro K hK; go_simp)
      refine (cloneN_any nA ncap ns _ hn (HN.out.row.ext (HXW.out.trans ((Ext.refl w2).alloc _)))).mono ?_
      rintro e w3 ⟨A1, cap1, rfl, hon, hxn⟩
      refine hK _ _ (ext_u (HXD.out.trans (((Ext.refl w2).alloc _).trans hxn))) ?_
      clear hK K
      refine tr_one ?_
      (refine op_step (by rfl) ?_; intro K hK; go_simp)
      refine (cloneV_any rA rcap rs _ hr (HR.out.ext (HXW.out.trans (((Ext.refl w2).alloc _).trans hxn)))).mono ?_
      rintro e w4 ⟨A2, cap2, rfl, hor, hxr⟩
      refine hK _ _ (ext_u (HXD.out.trans ((((Ext.refl w2).alloc _).trans hxn).trans hxr))) ?_
      clear hK K
      refine tr_one ?_
      (refine op_step (by rfl) ?_; intro K hK; go_simp; refine hK _ _ (ext_u (HXD.out.trans ((((Ext.refl w2).alloc _).trans hxn).trans hxr))) ?_; clear hK K)
      refine tr_nil ?_
      try simp only [opsOf, List.map_cons, List.map_nil, List.getD_cons_zero, List.getD_cons_succ]
      have HBB := Lib.hid (show w4.heap[w2.heap.size]? = some (.cells #[.slice none 0 0, .slice none 0 0] 25 (0, 0)) from ((hxn.trans hxr).block (by simp)).trans (World.alloc_heap_new _ _))
      have HST := Lib.hid (CpyI.start HXW.out HSD.out HGD.out HRD.out ((((Ext.refl w2).alloc (.cells #[.slice none 0 0, .slice none 0 0] 25)).trans hxn).trans hxr) HBB.out (Nat.le_refl _) rfl ((hon.mono (by have := HSD.out; simp; omega)).ext hxr) (hor.mono (by have := HSD.out; have := hxn.size; simp at this; omega)))
      have z0 : w4.frozen? ⟨w2.heap.size, 0, none⟩ = false := frozen_of_row _ _ 0 _ _ HBB.out
      have z1 : w4.frozen? ⟨w2.heap.size, 1, none⟩ = false := frozen_of_row _ _ 1 _ _ HBB.out
      have z2 : w4.cell? ⟨w2.heap.size, 0, none⟩ = some (.slice none 0 0) := (cell_of_row _ _ 0 _ _ (0, 0) HBB.out).trans rfl
      have z3 : w4.cell? ⟨w2.heap.size, 1, none⟩ = some (.slice none 0 0) := (cell_of_row _ _ 1 _ _ (0, 0) HBB.out).trans rfl
      clear l0 l1
      generalize w4 = w5 at *
      go_wp2_with fail
      exact ⟨_, _, _, _, _, ⟨rfl, ⟨rfl, rfl⟩, ⟨rfl, rfl⟩, ⟨rfl, rfl⟩, rfl, rfl⟩, HST.out⟩
  rintro a w ⟨A1, cap1, A2, cap2, Bo, rfl, hC⟩
  have HC0 := Lib.hid hC
  have b0 : w.cell? ⟨Bo, 0, none⟩ = some (.slice A1 ns.length cap1) := by simp [World.cell?, hC.out]
  clear hC l0 l1 HXV HSZ HG0 HR0
  go_wp2_with fail
  go_loopw [16] (fun i wr => ∃ (k : Nat) (cs : List NodeD), k ≤ ns.length ∧ i = .int .i64 k ∧ Hid (cs.map nodeV = (ns.take k).map nodeV) ∧ Hid (CpyI V Bo (.slice nA ns.length ncap) (.slice rA rs.length rcap) #[.slice none 0 0, .slice none 0 0] rs cs (cs ++ ns.drop k) (.slice A1 ns.length cap1) (.slice A2 rs.length cap2) wr)) (fun i _ => ns.length - (intOf i).toNat)
  case atStart => exact ⟨0, [], by omega, rfl, Lib.hid rfl, HC0⟩
  case round =>
    obtain ⟨k, cs, hk, rfl, hcs, hC⟩ := hrel
    clear b0 HC0
    have q0 : wr.cell? ⟨Bo, 0, none⟩ = some (.slice A1 ns.length cap1) := by simp [World.cell?, hC.out.out]
    have q1 : wr.cell? ⟨Bo, 1, none⟩ = some (.slice A2 rs.length cap2) := by simp [World.cell?, hC.out.out]
    have hvs := hC.out.ext.size
    have HCL := Lib.hid (show cs.length = k by have := congrArg List.length hcs.out; simp at this; omega)
    by_cases hlt : k < ns.length
    rotate_left
    · obtain rfl : k = ns.length := by omega
      have p0 : wr.cell? ⟨V.heap.size + 1, 0, none⟩ = some (.slice none 0 0) := by simp [World.cell?, hC.out.r]
      have p1 : wr.cell? ⟨V.heap.size + 1, 1, none⟩ = some (.slice none 0 0) := by simp [World.cell?, hC.out.r]
      have p2 : wr.frozen? ⟨V.heap.size + 1, 0, none⟩ = false := by simp [World.frozen?, hC.out.r]
      have p3 : wr.frozen? ⟨V.heap.size + 1, 1, none⟩ = false := by simp [World.frozen?, hC.out.r]
      have hC' := hC.out
      rw [List.drop_length, List.append_nil] at hC'
      have HFIN := Lib.hid (hC'.fin HCL.out (.slice A1 ns.length cap1) (.slice A2 rs.length cap2))
      have HM := Lib.hid hcs.out
      clear hC' hcs hC
      go_wp2_with fail
      ((try simp only [Exit.inBlock, Exit.then]); refine bodyPost_ret (v := .agg #[.slice A1 ns.length cap1, .slice A2 rs.length cap2]) (by simp only [results, Try.results23]; go_simp) rfl ?_)
      exact ⟨⟨A1, cap1, cs, A2, cap2, rs⟩, by rw [HCL.out], HFIN.out.1, by have := HM.out; rwa [List.take_length] at this, rfl, HFIN.out.2⟩
    have hdr : ns.drop k = ns.getD k default :: ns.drop (k + 1) := by
      rw [List.drop_eq_getElem_cons hlt, List.getD_eq_getElem?_getD, List.getElem?_eq_getElem hlt]; rfl
    have hll : (cs ++ ns.drop k).length = ns.length := by simp; have := HCL.out; omega
    have HLL := Lib.hid hll
    obtain ⟨g, rfl⟩ : ∃ g, A1 = some ⟨g, 0, none⟩ := by
      rcases hC.out.own.2 with ⟨hv, h0⟩ | ⟨g, cap, cur, hv, _⟩
      · rw [hll] at h0; omega
      · injection hv with h1 h2 h3
        exact ⟨g, h1⟩
    have hrow := own_row (by have := hC.out.own; rw [← hll] at this; exact this) nodeCells (by decide)
    obtain ⟨nb, noff, hA, hcn⟩ := hrow.1.get (by omega)
    injection hA with hA
    injection hA with hA1 hA2
    subst hA1 hA2
    obtain ⟨d0, d1, d2⟩ := nodes_cell hcn (k := k) (by omega)
    have hget : (cs ++ ns.drop k).getD k default = ns.getD k default := by
      rw [hdr, List.getD_eq_getElem?_getD, List.getElem?_append_right (by have := HCL.out; omega), HCL.out]
      simp
    rw [hget] at d0 d1 d2
    have HNA := Lib.hid (HN.out.each _ (getD_mem (d := default) hlt))
    have HOK := Lib.hid (HF.out _ (getD_mem (d := default) hlt))
    have HMS := Lib.hid (fun x => map_nodeV_snoc (x := x) hlt hcs.out)
    rw [hdr] at hC
    rw [hdr] at HLL
    have ib1 : (k : Int) < (ns.length : Int) := by omega
    clear hrow hcn hget hdr hll hcs
    generalize ns.getD k default = x at *
    obtain ⟨xk, xA, xc, fs, yA, yc, ys⟩ := x
    simp only [Nat.zero_add] at d0 d1 d2
    have hgl : g < wr.heap.size := (World.ownsRow.lt hC.out.own g rfl).2
    have HC1 := Lib.hid (hC.out.grow ((Ext.refl wr).alloc (.cells #[.int .i64 xk, .slice xA fs.length xc, .slice yA ys.length yc] 34)))
    have HBX := Lib.hid (World.alloc_heap_new wr (.cells #[.int .i64 xk, .slice xA fs.length xc, .slice yA ys.length yc] 34))
    have HGX := Lib.hid (show g ≠ wr.heap.size by omega)
    have HGB := Lib.hid (show g ≠ Bo from fun e => by
      obtain ⟨cur, hh⟩ := own_heap hC.out.own
      subst e
      rw [hC.out.out] at hh
      cases hh)
    have HVS0 := Lib.hid hvs
    clear hC
    go_wp2_with fail
    clear hvs d0 d1 d2 q0 q1 hgl
    generalize wr.alloc (.cells #[.int .i64 xk, .slice xA fs.length xc, .slice yA ys.length yc] 34) = w1 at *
    generalize wr.heap.size = X at *
    have HS := Lib.hid (show CpS Bo X (.cells #[.slice (some ⟨g, 0, none⟩) ns.length cap1, .slice A2 rs.length cap2] 25 (0, 0)) (.cells #[.int .i64 xk, .slice xA fs.length xc, .slice yA ys.length yc] 34 (0, 0)) w1.drew from ⟨HC1.out.out, HBX.out⟩)
    have HS0 := Lib.hid (show CpS Bo X (.cells #[.slice (some ⟨g, 0, none⟩) ns.length cap1, .slice A2 rs.length cap2] 25 (0, 0)) (.cells #[.int .i64 xk, .slice xA fs.length xc, .slice yA ys.length yc] 34 (0, 0)) w1 from ⟨HC1.out.out, HBX.out⟩)
    have l0 : ∀ u : KeptOf w1 (CpS Bo X (.cells #[.slice (some ⟨g, 0, none⟩) ns.length cap1, .slice A2 rs.length cap2] 25 (0, 0)) (.cells #[.int .i64 xk, .slice xA fs.length xc, .slice yA ys.length yc] 34 (0, 0))), u.1.cell? ⟨Bo, 0, none⟩ = some (.slice (some ⟨g, 0, none⟩) ns.length cap1) := fun u => by have := (u.of HS0.out).1; simp [World.cell?, this]
    have l2 : ∀ u : KeptOf w1 (CpS Bo X (.cells #[.slice (some ⟨g, 0, none⟩) ns.length cap1, .slice A2 rs.length cap2] 25 (0, 0)) (.cells #[.int .i64 xk, .slice xA fs.length xc, .slice yA ys.length yc] 34 (0, 0))), u.1.cell? ⟨X, 1, none⟩ = some (.slice xA fs.length xc) := fun u => by have := (u.of HS0.out).2; simp [World.cell?, this]
    have l3 : ∀ u : KeptOf w1 (CpS Bo X (.cells #[.slice (some ⟨g, 0, none⟩) ns.length cap1, .slice A2 rs.length cap2] 25 (0, 0)) (.cells #[.int .i64 xk, .slice xA fs.length xc, .slice yA ys.length yc] 34 (0, 0))), u.1.cell? ⟨X, 2, none⟩ = some (.slice yA ys.length yc) := fun u => by have := (u.of HS0.out).2; simp [World.cell?, this]
    refine wp_region_tree (fun w' => ∃ u : KeptOf w1 (CpS Bo X (.cells #[.slice (some ⟨g, 0, none⟩) ns.length cap1, .slice A2 rs.length cap2] 25 (0, 0)) (.cells #[.int .i64 xk, .slice xA fs.length xc, .slice yA ys.length yc] 34 (0, 0))), w' = u.1) [0, 1, 2, 3, 4, 5, 6, 7, 9, 10] 5 [(8, [(11, [(12, [(13, [(14, ())])])])])] [15, 16, 17] (by kernel_rfl) (by kernel_rfl) (by intro c a d v w h; cases d <;> exact h) (kept_mk HS.out) ?_
    simp only [opsOf, List.map_cons, List.map_nil, List.getD_cons_zero, List.getD_cons_succ]
    (repeat (go_big_quiet_step (fail)))
    refine wpQuiet_nil ?_
    have HC2 := Lib.hid (HC1.out.grow ((Ext.refl w1).drew))
    have HFA := Lib.hid (HNA.out.fields.ext HC2.out.ext)
    have HRA := Lib.hid (HNA.out.raws.ext HC2.out.ext)
    have hfl := HOK.out.fl
    have hrl := HOK.out.rl
    simp only at hfl hrl
    clear l0 l2 l3 HC1 HS0 HBX HNA HOK
    generalize w1.drew = w2 at *
    refine tr_one ?_
    (refine op_step (by rfl) ?_; intro K hK; go_simp)
    refine (cloneV_any xA xc fs _ hfl HFA.out).mono ?_
    rintro e w3 ⟨A3, cap3, rfl, ho3, hx3⟩
    refine hK _ _ (kept_mk (HS.out.ext hx3)) ?_
    clear hK K
    refine tr_one ?_
    (refine op_step (by rfl) ?_; intro K hK; go_simp)
    refine (cloneU_any yA yc ys _ hrl (HRA.out.ext hx3)).mono ?_
    rintro e w4 ⟨A4, cap4, rfl, ho4, hx4⟩
    refine hK _ _ (kept_mk (HS.out.ext (hx3.trans hx4))) ?_
    clear hK K
    have HC4 := Lib.hid (HC2.out.grow (hx3.trans hx4))
    have HS4 := Lib.hid (HS.out.ext (hx3.trans hx4))
    have hv2 := HC2.out.ext.size
    have HNN := Lib.hid (show OwnN w4 V.heap.size ⟨xk, A3, cap3, fs, A4, cap4, ys⟩ from ⟨(ho3.mono hv2).ext hx4, ho4.mono (Nat.le_trans hv2 hx3.size)⟩)
    clear ho3 ho4 hx3 hx4 hv2 HC2 HS
    have hs1 := own_setF HC4.out.own HLL.out A3 cap3
    have hll1 : (cs ++ (⟨xk, A3, cap3, fs, yA, yc, ys⟩ : NodeD) :: ns.drop (k + 1)).length = ns.length := by have := HLL.out; simpa using this
    have hs2 := own_setR (x := ⟨xk, A3, cap3, fs, yA, yc, ys⟩) hs1 hll1 A4 cap4
    simp only [HCL.out] at hs1 hs2
    have C5 := CpyI.set HC4.out hs1 HC4.out.each
    obtain ⟨cur4, hh4⟩ := own_heap HC4.out.own
    have C6 := CpyI.set (cs' := cs ++ [⟨xk, A3, cap3, fs, A4, cap4, ys⟩]) C5 hs2 (fun c hc => by
      rcases List.mem_append.1 hc with hc | hc
      · exact C5.each c hc
      · rcases List.mem_singleton.1 hc with rfl
        exact ⟨HNN.out.f.setOther hh4 (by decide), HNN.out.r.setOther hh4 (by decide)⟩)
    have hh5 := heap_setCell_same w4 g (k * 3 + 1) _ _ (.slice A3 fs.length cap3) hh4
    have fr1 : w4.frozen? ⟨g, k * 3 + 1, none⟩ = false := frozen_of_row _ _ _ _ _ hh4
    have fr2 : (w4.setCell ⟨g, k * 3 + 1, none⟩ (.slice A3 fs.length cap3)).frozen? ⟨g, k * 3 + 2, none⟩ = false := frozen_of_row _ _ _ _ _ hh5
    have ce1 := World.ownsRow.cellAt (by have := HC4.out.own; unfold Own at this; rw [HLL.out] at this; exact this) (k * 3 + 1) (by omega)
    have ce2 := World.ownsRow.cellAt (by have := hs1; unfold Own at this; rw [hll1] at this; exact this) (k * 3 + 2) (by omega)
    have hflc := flat_len nodeCells cs
    have hcl := HCL.out
    rw [List.flatMap_append, List.flatMap_cons, List.getElem?_append_right (by omega), show k * 3 + 1 - (cs.flatMap nodeC).length = 1 by omega] at ce1
    rw [List.flatMap_append, List.flatMap_cons, List.getElem?_append_right (by omega), show k * 3 + 2 - (cs.flatMap nodeC).length = 2 by omega] at ce2
    simp only [nodeC, List.cons_append, List.nil_append, List.getElem?_cons_succ, List.getElem?_cons_zero] at ce1 ce2
    have HC6 := Lib.hid C6
    have S5 := Lib.hid (show CpS Bo X _ _ (w4.setCell ⟨g, k * 3 + 1, none⟩ (.slice A3 fs.length cap3)) from ⟨(Below.heap_setCell w4 ⟨g, k * 3 + 1, none⟩ _ Bo (fun e => HGB.out e.symm)).trans HS4.out.1, (Below.heap_setCell w4 ⟨g, k * 3 + 1, none⟩ _ X (fun e => HGX.out e.symm)).trans HS4.out.2⟩)
    clear C5 C6 hs1 hs2 hh4 hh5 hll1 hflc hcl HNN HFA HRA HLL HCL
    refine tr_one ?_
    (refine op_step (by rfl) ?_; intro K hK; go_simp; refine hK _ _ (kept_mk HS4.out) ?_; clear hK K)
    refine tr_one ?_
    (refine op_step (by rfl) ?_; intro K hK; go_simp; refine hK _ _ (kept_mk HS4.out) ?_; clear hK K)
    refine tr_one ?_
    (refine op_step (by rfl) ?_; intro K hK; go_simp; refine hK _ _ (kept_mk S5.out) ?_; clear hK K)
    refine tr_nil ?_
    (try simp only [opsOf, List.map_cons, List.map_nil, List.getD_cons_zero, List.getD_cons_succ])
    go_wp2_with fail
    go_roundw
    case rel => exact ⟨k + 1, cs ++ [⟨xk, A3, cap3, fs, A4, cap4, ys⟩], by omega, by go_num, Lib.hid (HMS.out _ rfl), Lib.hid (by rw [List.append_assoc]; exact HC6.out)⟩
    case measure => simp [intOf]; omega
end Go.Proofs.Ytidfibheehcdgaa
