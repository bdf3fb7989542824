/- Merged by program (merge.py) out of: RchJ, RchK. -/
import Derived.Test.YtphpppjfogpohaaGreatMl38
set_option linter.unusedSimpArgs false
set_option linter.unusedVariables false
namespace Go.Proofs.YtphpppjfogpohaaGreat
open Go.RowKit Go.Shelf
set_option maxRecDepth 100000
set_option maxHeartbeats 2000000
def KpT (w w' : World) : Prop := ∀ (g : Nat) (cs : Array Value) (t : TypeId) (r : Nat × Nat), w.heap[g]? = some (.cells cs t r) → t ≠ 3 → t ≠ 4 → t ≠ 202 → w'.heap[g]? = some (.cells cs t r)
section
variable {u w w' : World}
theorem KpT.of_ext (h : Ext w w') : KpT w w' := fun g cs t r hg _ _ _ => (h.block (lt_of_heap hg)).trans hg
theorem KpT.trans (h : KpT u w) (k : KpT w w') : KpT u w' := fun g cs t r hg h1 h2 h3 => k g cs t r (h g cs t r hg h1 h2 h3) h1 h2 h3
theorem KpT.own {α : Type} {e : TypeId} {n : Nat} {f : α → List Value} {B : Nat} {v : Value} {xs : List α} (h : Own e n f w B v xs) (he : e = 3 ∨ e = 4) (hg : w.grownBy w' v.ownBlock) : KpT w w' := fun g cs t r hc h1 h2 h3 => (hg.block g (lt_of_heap hc) (h.ne_block hc (by rcases he with rfl | rfl; exact h1; exact h2))).trans hc
theorem KpT.ownO {B : Nat} {v : Value} {xs : List Int} (h : OwnO w B v xs) (hg : w.grownBy w' v.ownBlock) : KpT w w' := fun g cs t r hc h1 h2 h3 => (hg.block g (lt_of_heap hc) (fun e => by
 obtain ⟨cur, hx⟩ := ownO_cells h e.symm
 rw [hc] at hx
 injection hx with hx
 injection hx with _ hx
 exact h1 hx)).trans hc
theorem KpT.map {b n : Nat} {f : Int → Value} (h : MapV w b n f) (hg : w.grownBy w' (some b)) : KpT w w' := fun g cs t r hc h1 h2 h3 => (hg.block g (lt_of_heap hc) (fun e => h.ne hc (by injection e with e; exact e.symm))).trans hc
theorem KpT.set {b i : Nat} {x : Value} {ds : Array Value} {t2 : TypeId} {r2 : Nat × Nat} (hb : w.heap[b]? = some (.cells ds t2 r2)) (ht : t2 = 3 ∨ t2 = 4 ∨ t2 = 202) : KpT w (w.setCell ⟨b, i, none⟩ x) := fun g cs t r hc h1 h2 h3 => blk_set_other hc _ (fun e => by
 subst e
 rw [hb] at hc
 injection hc with hc
 injection hc with _ hc
 subst hc
 rcases ht with h | h | h
 ·exact h1 h
 ·exact h2 h
 ·exact h3 h)
end
def PMeet (V0 : World) (G : GraphD) (lim blk b K : Nat) (p : PlD) (v : Int × Int) (V : World) (e : Ending) (w' : World) : Prop := e = .returned (.bool (newP (envG G lim blk) p v)) ∧ PP V0 G lim blk b K (meetP (envG G lim blk) false p v) w' ∧ KpT V w'
section
variable {V0 : World} {G : GraphD} {lim blk b K : Nat} {p : PlD} {V : World}
theorem pmeet_val (h : PP V0 G lim blk b K p V) (v : Int × Int) (hv : v.1 ≠ 2) :
  Calls Tryz.prog 232 #[.pointer (some ⟨b, 0, none⟩), .agg #[.int .i64 v.1, .int .i64 v.2]] V (PMeet V0 G lim blk b K p v V) := by
 obtain ⟨k, x⟩ := v
 have hf : p.fresh (k, x) = false := by simp [PlD.fresh]; exact fun e => absurd e hv
 have e1 : newP (envG G lim blk) p (k, x) = false := by simp [newP, hf]
 have e2 : meetP (envG G lim blk) false p (k, x) = p := by simp [meetP, hf]
 have d0 : (k != 2) = true := by simpa using hv
 have hx0 := (Ext.refl V).alloc (.cells #[.int .i64 k, .int .i64 x] 71)
 have hB := pers_new V #[.int .i64 k, .int .i64 x] 71 _ rfl
 have HP := zH (h.grow hx0)
 have HX := zH hx0
 unfold PMeet
 rw [e1, e2]
 clear h hv hf e1 e2 hx0
 go_enter Tryz.func232, Tryz.ntmps232
 go_wp2_with fail
 generalize V.alloc (.cells #[.int .i64 k, .int .i64 x] 71) = W at *
 have l0 := hB.cells
 have hs0 : Ext W W := Ext.refl _
 (refine wp_region_ext (W := W) (by kernel_rfl) (by kernel_rfl) (by with_reducible assumption) ?_; (repeat (go_big_quiet_step (fail))); refine wpQuiet_nil ?_; intro w1 hx)
 go_wp2_with fail
 go_ret
 exact ⟨rfl, HP.out.grow hx, KpT.of_ext (HX.out.trans hx)⟩
theorem pmeet_old (h : PP V0 G lim blk b K p V) (x : Nat) (hx : x < G.ns.length) (hm : x ∈ p.small ++ p.large) :
  Calls Tryz.prog 232 #[.pointer (some ⟨b, 0, none⟩), .agg #[.int .i64 2, .int .i64 x]] V (PMeet V0 G lim blk b K p (2, x) V) := by
 have hf : p.fresh (2, (x : Int)) = false := by
  cases hc : p.fresh (2, (x : Int)) with
  | false => rfl
  | true => exact absurd hm (by have := (PlD.fresh_iff.1 hc).2; simpa using this)
 have e1 : newP (envG G lim blk) p (2, (x : Int)) = false := by simp [newP, hf]
 have e2 : meetP (envG G lim blk) false p (2, (x : Int)) = p := by simp [meetP, hf]
 have hx0 := (Ext.refl V).alloc (.cells #[.int .i64 2, .int .i64 x] 71)
 have hB := pers_new V #[.int .i64 2, .int .i64 x] 71 _ rfl
 have HP := zH (h.grow hx0)
 have HX := zH hx0
 obtain ⟨sv, bv, kv, lv, pv, mv, mp, nm, f, Y, fi, hq⟩ := h.grow hx0
 obtain ⟨mA, mc, rfl, -, -, -, hmc, -⟩ := hq.pr.om.form boolCells (by decide)
 obtain ⟨mg, rfl, _, _⟩ := own_some hq.pr.om (fun e => by have := metL_len (n := G.ns.length) (p := p); rw [e] at this; simp at this; omega)
 have cm := own_boolAt hq.pr.om rfl (k := x) (by rw [metL_len]; exact hx)
 rw [metL_get hx, PlD.has_iff.2 hm] at cm
 have hl := hq.cel
 rw [metL_len] at hl
 unfold PMeet
 rw [e1, e2]
 have jx0 : (0 : Int) ≤ (x : Int) := by omega
 have jx1 : (x : Int) < (G.ns.length : Int) := by omega
 clear h hf e1 e2 hx0 hm hq hmc
 go_enter Tryz.func232, Tryz.ntmps232
 go_wp2_with fail
 generalize V.alloc (.cells #[.int .i64 2, .int .i64 x] 71) = W at *
 have l0 := hB.cells
 have l1 := (pers_blk hl).cells
 have l2 := pers_cell cm
 have hs0 : Ext W W := Ext.refl _
 (refine wp_region_ext (W := W) (by kernel_rfl) (by kernel_rfl) (by with_reducible assumption) ?_; (repeat (go_big_quiet_step (fail))); refine wpQuiet_nil ?_; intro w1 hx)
 go_wp2_with fail
 go_ret
 exact ⟨rfl, HP.out.grow hx, KpT.of_ext (HX.out.trans hx)⟩
end
end Go.Proofs.YtphpppjfogpohaaGreat
namespace Go.Proofs.YtphpppjfogpohaaGreat
open Go.RowKit Go.Shelf
set_option maxRecDepth 100000
set_option maxHeartbeats 4000000
theorem lit_kept {w w' : World} {H Z : Nat} {o : Obj} {row : Option Nat} (h : w.heap[H]? = some o) (hg : w.grownBy w' row) (hr : ∀ g, row = some g → g < Z) (hz : Z ≤ H) : w'.heap[H]? = some o :=
 (hg.block H (lt_of_heap h) (fun e => by have := hr H e.symm; omega)).trans h
section
variable {V0 : World} {G : GraphD} {lim blk b K : Nat} {p : PlD} {V : World}
theorem PP.addL {sv bv kv lv pv mv lv' pv' : Value} {mp nm fi x : Nat} {f : Int → Value} {Y : Int → List Nat} {w : World} (hc : BoxK b #[.slice G.nA G.ns.length G.ncap, .slice G.rA G.rs.length G.rcap, .int .i64 lim, .int .i64 blk, mv, sv, lv, bv, .int .i64 p.top, pv, .map (some mp), .int .i64 fi, kv] 202 w)
  (hpr : PR V0 sv bv kv lv' pv' mv mp nm f Y (metL G.ns.length (p.addL x)) (p.addL x) w) (hlo : V0.heap.size ≤ b) (hnx : NxtOk blk p Y) (hnm : nm ≤ K + p.met) (hf : Fst p fi) : PP V0 G lim blk b K (p.addL x) ((w.setCell ⟨b, 6, none⟩ lv').setCell ⟨b, 9, none⟩ pv') ∧ KpT w ((w.setCell ⟨b, 6, none⟩ lv').setCell ⟨b, 9, none⟩ pv') :=
 ⟨⟨sv, bv, kv, lv', pv', mv, mp, nm, f, Y, fi, blk_set (blk_set hc _) _, (hpr.far hc (by decide) (by decide) hlo).far (blk_set hc _) (by decide) (by decide) hlo, hlo, hnx, by rw [show (p.addL x).met = p.met + 1 from by simp only [PlD.met, PlD.addL, List.length_append, List.length_singleton]; omega]; omega, hf⟩,
  (KpT.set hc (.inr (.inr rfl))).trans (KpT.set (blk_set hc _) (.inr (.inr rfl)))⟩
theorem pmeet_large (h : PP V0 G lim blk b K p V) (hV : GraphAt V0 G) (x : Nat) (ho : PlOk (envG G lim blk) p) (ht : TopOk p) (hG : RchG G lim blk) (hxn : x < G.ns.length) (hm : x ∉ p.small ++ p.large) (hz : lim < (envG G lim blk).sz x) :
  Calls Tryz.prog 232 #[.pointer (some ⟨b, 0, none⟩), .agg #[.int .i64 2, .int .i64 x]] V (PMeet V0 G lim blk b K p (2, x) V) := by
 have hf : p.fresh (2, (x : Int)) = true := PlD.fresh_iff.2 ⟨rfl, by simpa using hm⟩
 have hmet := ho.met_le
 have hn := hG.n
 rw [envG_n] at hmet
 unfold PlD.met at hmet
 obtain ⟨z1, z2⟩ := hG.sz x hxn
 have e1 : newP (envG G lim blk) p (2, (x : Int)) = decide ((envG G lim blk).sz x ≤ lim) := by simp [newP, hf]; rfl
 have e2 : meetP (envG G lim blk) false p (2, (x : Int)) = if lim < (envG G lim blk).sz x then p.addL x else p.addS false x ((envG G lim blk).sz x) := by simp only [meetP, hf, if_true]; rfl
 have hx0 := (Ext.refl V).alloc (.cells #[.int .i64 2, .int .i64 x] 71)
 have hB := pers_new V #[.int .i64 2, .int .i64 x] 71 _ rfl
 obtain ⟨sv, bv, kv, lv, pv, mv, mp, nm, f, Y, fi, hq⟩ := h.grow hx0
 obtain ⟨mA, mc, rfl, -, -, -, hmc, -⟩ := hq.pr.om.form boolCells (by decide)
 rw [metL_len] at hq
 obtain ⟨mg, rfl, _, _⟩ := own_some hq.pr.om (fun e => by have := metL_len (n := G.ns.length) (p := p); rw [e] at this; simp at this; omega)
 obtain ⟨sA, sc, rfl, -⟩ := hq.pr.os.form intCells (by decide)
 rw [ordZ_len] at hq
 have cm := own_boolAt hq.pr.om metL_len (k := x) hxn
 rw [metL_get hxn, show p.has x = false by cases hc : p.has x with | false => rfl | true => exact absurd (PlD.has_iff.1 hc) hm] at cm
 obtain ⟨mcur, hmcur⟩ := own_heap hq.pr.om
 have fm := (cells_of hmcur).2
 obtain ⟨nb, noff, hA, hcn⟩ := hV.nodes.row.get (by omega)
 obtain ⟨d0, d1, d2⟩ := nodes_cell hcn hxn
 have hbm : b ≠ mg := fun e => by have := hq.cel; rw [e, hmcur] at this; injection this with this; injection this with _ this; exact absurd this (by decide)
 have hnm : nb ≠ mg := fun e => by have h1 := cell_lt d0; have h2 := (own_below hq.pr.om rfl).1; omega
 have hcel := hq.cel
 rw [hA] at hcel
 have HPR0 := zH hq.pr
 have D0 := zH d0
 have D1 := zH d1
 have D2 := zH d2
 have HX0 := zH (KpT.of_ext hx0)
 have HML := zH (metL_len (n := G.ns.length) (p := p))
 have HLO := zH hq.lo
 have HNX := zH hq.nx
 have HNM := zH hq.nmk
 have HFS := zH hq.fst
 have HBLL := zH (And.intro ho.bl ho.ll)
 generalize (envG G lim blk).sz x = z at *
 have HS := zH (fun W => size_any (G.ns.getD x default) W)
 rw [z2] at HS
 have jx0 : (0 : Int) ≤ (x : Int) := by omega
 have jx1 : (x : Int) < (G.ns.length : Int) := by omega
 have hpl : p.pile.length ≤ 1000 := by have := ht.2.1; omega
 have htp : p.top ≤ 9000000 := by have := ht.1; omega
 have hbl : p.begins.length ≤ 1000 := by have := ho.bl; omega
 have hll : p.lk.length ≤ 1000 := by have := ho.ll; omega
 have HBK : Hid (1 ≤ blk) := zH hG.bk.1
 have HMS := zH (metL_addL (n := G.ns.length) (p := p) hxn)
 have HMS2 := zH (metL_addS (n := G.ns.length) (p := p) (mk := false) (s := z) hxn)
 have HA := zH hA
 have HMC := zH hmcur
 clear hm hf hq hmc hV hG ho ht hcn d0 d1 d2 hmcur hxn hA fm
 generalize G.ns.getD x default = y at *
 unfold PMeet
 rw [e1, e2, if_pos hz, show decide (z ≤ lim) = false by simpa using hz]
 have dz : decide (lim < z) = true := by simpa using hz
 clear e1 e2 hx0 hz
 have k1 := (cells_of hcel).1
 go_enter Tryz.func232, Tryz.ntmps232
 go_wp2_with fail
 have l0 := hB.cells
 have l1 := (pers_blk hcel).cells
 have l2 := pers_cell cm
 have hs0 := Ext.refl (V.alloc (.cells #[.int .i64 2, .int .i64 x] 71))
 generalize hW : V.alloc (.cells #[.int .i64 2, .int .i64 x] 71) = W at *
 (refine wp_region_ext (W := W) (by kernel_rfl) (by kernel_rfl) (by with_reducible assumption) ?_; (repeat (go_big_quiet_step (fail))); refine wpQuiet_nil ?_; intro w1 hx)
 have k0 := (cells_of (hB.at hx)).1
 have hcel1 := (hx.block (lt_of_heap hcel)).trans hcel
 have k2 := (cells_of hcel1).1
 have k3 := hx.cell cm
 have hmc1 := (hx.block (lt_of_heap HMC.out)).trans HMC.out
 have fm := (cells_of hmc1).2
 have hpr1 := HPR0.out.grow hx
 have g0 := hpr1.ext.cell D0.out
 have g1 := hpr1.ext.cell D1.out
 have g2 := hpr1.ext.cell D2.out
 have HPR := zH (hpr1.setM rfl HML.out x)
 have HCEL := zH (blk_set_other hcel1 (.bool true) hbm (i := x))
 have HKP := zH ((HX0.out.trans (KpT.of_ext hx)).trans (KpT.set hmc1 (.inr (.inl rfl)) (i := x) (x := .bool true)))
 clear hx hs0 l0 l1 l2 hcel cm hcel1 hmc1 hpr1 HMC HX0 hB HPR0 k1 hW
 go_wp2_with fail
 refine (HS.out _).mono ?_
 rintro e w2 ⟨rfl, hx⟩
 replace HPR := zH (HPR.out.grow hx)
 replace HCEL := zH (BoxK.ext HCEL.out hx)
 replace HKP := zH (HKP.out.trans (KpT.of_ext hx))
 clear hx k0 k2 k3 fm g0 g1 g2 D0 D1 D2 HS
 have k1 := (cells_of HCEL.out).1
 go_wp2_with fail
 have hyd := (Ext.refl w2).drew
 have hGP : BoxK b #[.slice (some ⟨nb, noff, none⟩) G.ns.length G.ncap, .slice G.rA G.rs.length G.rcap, .int .i64 lim, .int .i64 blk, .slice (some ⟨mg, 0, none⟩) G.ns.length mc, .slice sA p.small.length sc, lv, bv, .int .i64 p.top, pv, .map (some mp), .int .i64 fi, kv] 202 w2.drew := BoxK.ext HCEL.out hyd
 have gB := hGP.cells
 (refine wp_region_gp (w := w2) (fun _ => True) (.rd [1] (.wk [16, 17, 18, 19, 20, 21] (.rd [0, 2, 3, 4, 5, 6, 9, 10, 11, 12, 13] (.fk 7 (.fk 8 (.one 14 (.one 15 .tl)) 14 (.one 8 (.one 15 .tl))) 14 (.one 7 (.one 8 (.one 15 .tl))))))) [] (by kernel_rfl) (by kernel_rfl) (by intro c a d v w h; first | exact h | (cases d <;> first | exact h | (cases h; done) | cases h.1.1 | cases h.1)) trivial ?_; (refine gp_rd ?_; (try simp only [opsOf, List.map_cons, List.map_nil, List.getD_cons_zero, List.getD_cons_succ]); (repeat (go_big_quiet_step (fail))); refine wpQuiet_nil ?_); refine gp_wk (fun _ => trivial) (fun w' => ∃ u : KeptOf (w2).drew (BoxK b #[.slice (some ⟨nb, noff, none⟩) G.ns.length G.ncap, .slice G.rA G.rs.length G.rcap, .int .i64 lim, .int .i64 blk, .slice (some ⟨mg, 0, none⟩) G.ns.length mc, .slice sA p.small.length sc, lv, bv, .int .i64 p.top, pv, .map (some mp), .int .i64 fi, kv] 202), w' = u.1) (kept_mk hGP) ?_)
 (refine gp_rd ?_; (try simp only [opsOf, List.map_cons, List.map_nil, List.getD_cons_zero, List.getD_cons_succ]); (repeat (go_big_quiet_step (fail))); refine wpQuiet_nil ?_)
 replace HPR := zH (HPR.out.grow hyd)
 replace HCEL := zH hGP
 replace HKP := zH (HKP.out.trans (KpT.of_ext hyd))
 clear hyd hGP gB k1
 generalize w2.drew = wN at *
 have HLT0 := zH HPR.out.lt
 have HZ := zH (Nat.le_refl wN.heap.size)
 obtain ⟨Z, hZ⟩ : ∃ Z, wN.heap.size = Z := ⟨_, rfl⟩
 have HLT : Hid (∀ v ∈ [.slice sA p.small.length sc, bv, kv, lv, pv, .slice (some ⟨mg, 0, none⟩) G.ns.length mc], ∀ g, v.ownBlock = some g → g < Z) := zH (fun v hv g hg => by rw [← hZ]; exact HLT0.out v hv g hg)
 replace HZ : Hid (Z ≤ wN.heap.size) := zH (by omega)
 clear HLT0 hZ
 refine gp_fk ?_ ?_
 ·(refine gp_one (by (try simp only [List.getD_cons_succ, List.getD_cons_zero]); rfl) (by rfl) ?_; intro K hK; go_simp; refine hK _ _ _ (fun _ h => h) (kept_mk (BoxK.ext HCEL.out ((Ext.refl wN).alloc (.cells #[.int .i64 x] 3)))) ?_; clear hK K; have hy := (Ext.refl wN).alloc (.cells #[.int .i64 x] 3); (try replace L14 := zH (BoxK.ext L14.out hy)); have L7 := zH (blk_new wN #[.int .i64 x] 3 _ rfl); have Z7 : Hid (Z ≤ wN.heap.size) := HZ; replace HPR := zH (HPR.out.grow hy); replace HCEL := zH (BoxK.ext HCEL.out hy); replace HKP := zH (HKP.out.trans (KpT.of_ext hy)); replace HZ := zH (Nat.le_trans HZ.out hy.size); clear hy; generalize wN.alloc (.cells #[.int .i64 x] 3) = wM at *; generalize wN.heap.size = H7 at *; (try clear wN); rename World => wN)
  refine gp_fk ?_ ?_
  ·(refine gp_one (by (try simp only [List.getD_cons_succ, List.getD_cons_zero]); rfl) (by rfl) ?_; intro K hK; refine wp_app (.tmp 49) (.tmp 51) 38 rfl intInfo intCells (by rfl) HPR.out.ol ⟨H7, 0, none⟩ 1 [(x : Int)] (p.large.length + 1) 1 (by simp [ordZ]) rfl (by rfl) (row_block L7.out rfl intCells (by decide)) (by omega) (by simp [maxLen]; omega) HPR.out.ext.size ?_; intro A8 c8 wM ho hg ht; rw [ordZ_snoc] at ho; have hcel2 := blk_grown HPR.out.ol HCEL.out hg (by decide); refine hK _ _ _ (fun _ h => h) (kept_mk hcel2) ?_; clear hK K; (try replace L14 := zH (lit_kept L14.out hg (fun g e => HLT.out lv (by simp) g e) Z14.out)); replace HKP := zH (HKP.out.trans (KpT.own HPR.out.ol (.inl rfl) hg)); replace HCEL := zH hcel2; replace HZ := zH (Nat.le_trans HZ.out hg.size); replace HPR := zH (HPR.out.turn_l ho hg (ht.imp id fun h => .inr ⟨_, Nat.le_refl _, h⟩)); clear hcel2 ho hg ht; (try clear wN); rename World => wN)
   (refine gp_one (by (try simp only [List.getD_cons_succ, List.getD_cons_zero]); rfl) (by rfl) ?_; intro K hK; go_simp; refine hK _ _ _ (fun _ h => h) (kept_mk (BoxK.ext HCEL.out ((Ext.refl wN).alloc (.cells #[.int .i64 x] 3)))) ?_; clear hK K; have hy := (Ext.refl wN).alloc (.cells #[.int .i64 x] 3); (try replace L7 := zH (BoxK.ext L7.out hy)); have L14 := zH (blk_new wN #[.int .i64 x] 3 _ rfl); have Z14 : Hid (Z ≤ wN.heap.size) := HZ; replace HPR := zH (HPR.out.grow hy); replace HCEL := zH (BoxK.ext HCEL.out hy); replace HKP := zH (HKP.out.trans (KpT.of_ext hy)); replace HZ := zH (Nat.le_trans HZ.out hy.size); clear hy; generalize wN.alloc (.cells #[.int .i64 x] 3) = wM at *; generalize wN.heap.size = H14 at *; (try clear wN); rename World => wN)
   (refine gp_one (by (try simp only [List.getD_cons_succ, List.getD_cons_zero]); rfl) (by rfl) ?_; intro K hK; refine wp_app (.tmp 56) (.tmp 58) 38 rfl intInfo intCells (by rfl) HPR.out.op ⟨H14, 0, none⟩ 1 [(x : Int)] (p.pile.length + 1) 1 (by simp [ordZ]) rfl (by rfl) (row_block L14.out rfl intCells (by decide)) (by omega) (by simp [maxLen]; omega) HPR.out.ext.size ?_; intro A15 c15 wM ho hg ht; rw [ordZ_snoc] at ho; have hcel2 := blk_grown HPR.out.op HCEL.out hg (by decide); refine hK _ _ _ (fun _ h => h) (kept_mk hcel2) ?_; clear hK K; replace HKP := zH (HKP.out.trans (KpT.own HPR.out.op (.inl rfl) hg)); replace HCEL := zH hcel2; replace HZ := zH (Nat.le_trans HZ.out hg.size); replace HPR := zH (HPR.out.turn_p ho hg (ht.imp id fun h => .inr ⟨_, Nat.le_refl _, h⟩)); clear hcel2 ho hg ht; (try clear wN); rename World => wN)
   ((refine gp_tl ?_; (try simp only [opsOf, List.map_cons, List.map_nil, List.getD_cons_zero, List.getD_cons_succ])); have hcel := HCEL.out; have k1 := (cells_of hcel).1; have f1 := (cells_of hcel).2; clear hcel; go_wp2_with fail; go_ret; have hfin := PP.addL (K := K) (x := x) (by rw [HA.out]; exact HCEL.out) (by rw [HMS.out]; exact HPR.out) HLO.out HNX.out HNM.out HFS.out; exact ⟨rfl, hfin.1, HKP.out.trans hfin.2⟩)
  ·(refine gp_one (by (try simp only [List.getD_cons_succ, List.getD_cons_zero]); rfl) (by rfl) ?_; intro K hK; go_simp; refine hK _ _ _ (fun _ h => h) (kept_mk (BoxK.ext HCEL.out ((Ext.refl wN).alloc (.cells #[.int .i64 x] 3)))) ?_; clear hK K; have hy := (Ext.refl wN).alloc (.cells #[.int .i64 x] 3); (try replace L7 := zH (BoxK.ext L7.out hy)); have L14 := zH (blk_new wN #[.int .i64 x] 3 _ rfl); have Z14 : Hid (Z ≤ wN.heap.size) := HZ; replace HPR := zH (HPR.out.grow hy); replace HCEL := zH (BoxK.ext HCEL.out hy); replace HKP := zH (HKP.out.trans (KpT.of_ext hy)); replace HZ := zH (Nat.le_trans HZ.out hy.size); clear hy; generalize wN.alloc (.cells #[.int .i64 x] 3) = wM at *; generalize wN.heap.size = H14 at *; (try clear wN); rename World => wN)
   (refine gp_one (by (try simp only [List.getD_cons_succ, List.getD_cons_zero]); rfl) (by rfl) ?_; intro K hK; refine wp_app (.tmp 49) (.tmp 51) 38 rfl intInfo intCells (by rfl) HPR.out.ol ⟨H7, 0, none⟩ 1 [(x : Int)] (p.large.length + 1) 1 (by simp [ordZ]) rfl (by rfl) (row_block L7.out rfl intCells (by decide)) (by omega) (by simp [maxLen]; omega) HPR.out.ext.size ?_; intro A8 c8 wM ho hg ht; rw [ordZ_snoc] at ho; have hcel2 := blk_grown HPR.out.ol HCEL.out hg (by decide); refine hK _ _ _ (fun _ h => h) (kept_mk hcel2) ?_; clear hK K; (try replace L14 := zH (lit_kept L14.out hg (fun g e => HLT.out lv (by simp) g e) Z14.out)); replace HKP := zH (HKP.out.trans (KpT.own HPR.out.ol (.inl rfl) hg)); replace HCEL := zH hcel2; replace HZ := zH (Nat.le_trans HZ.out hg.size); replace HPR := zH (HPR.out.turn_l ho hg (ht.imp id fun h => .inr ⟨_, Nat.le_refl _, h⟩)); clear hcel2 ho hg ht; (try clear wN); rename World => wN)
   (refine gp_one (by (try simp only [List.getD_cons_succ, List.getD_cons_zero]); rfl) (by rfl) ?_; intro K hK; refine wp_app (.tmp 56) (.tmp 58) 38 rfl intInfo intCells (by rfl) HPR.out.op ⟨H14, 0, none⟩ 1 [(x : Int)] (p.pile.length + 1) 1 (by simp [ordZ]) rfl (by rfl) (row_block L14.out rfl intCells (by decide)) (by omega) (by simp [maxLen]; omega) HPR.out.ext.size ?_; intro A15 c15 wM ho hg ht; rw [ordZ_snoc] at ho; have hcel2 := blk_grown HPR.out.op HCEL.out hg (by decide); refine hK _ _ _ (fun _ h => h) (kept_mk hcel2) ?_; clear hK K; replace HKP := zH (HKP.out.trans (KpT.own HPR.out.op (.inl rfl) hg)); replace HCEL := zH hcel2; replace HZ := zH (Nat.le_trans HZ.out hg.size); replace HPR := zH (HPR.out.turn_p ho hg (ht.imp id fun h => .inr ⟨_, Nat.le_refl _, h⟩)); clear hcel2 ho hg ht; (try clear wN); rename World => wN)
   ((refine gp_tl ?_; (try simp only [opsOf, List.map_cons, List.map_nil, List.getD_cons_zero, List.getD_cons_succ])); have hcel := HCEL.out; have k1 := (cells_of hcel).1; have f1 := (cells_of hcel).2; clear hcel; go_wp2_with fail; go_ret; have hfin := PP.addL (K := K) (x := x) (by rw [HA.out]; exact HCEL.out) (by rw [HMS.out]; exact HPR.out) HLO.out HNX.out HNM.out HFS.out; exact ⟨rfl, hfin.1, HKP.out.trans hfin.2⟩)
 ·(refine gp_one (by (try simp only [List.getD_cons_succ, List.getD_cons_zero]); rfl) (by rfl) ?_; intro K hK; go_simp; refine hK _ _ _ (fun _ h => h) (kept_mk (BoxK.ext HCEL.out ((Ext.refl wN).alloc (.cells #[.int .i64 x] 3)))) ?_; clear hK K; have hy := (Ext.refl wN).alloc (.cells #[.int .i64 x] 3); (try replace L7 := zH (BoxK.ext L7.out hy)); have L14 := zH (blk_new wN #[.int .i64 x] 3 _ rfl); have Z14 : Hid (Z ≤ wN.heap.size) := HZ; replace HPR := zH (HPR.out.grow hy); replace HCEL := zH (BoxK.ext HCEL.out hy); replace HKP := zH (HKP.out.trans (KpT.of_ext hy)); replace HZ := zH (Nat.le_trans HZ.out hy.size); clear hy; generalize wN.alloc (.cells #[.int .i64 x] 3) = wM at *; generalize wN.heap.size = H14 at *; (try clear wN); rename World => wN)
  (refine gp_one (by (try simp only [List.getD_cons_succ, List.getD_cons_zero]); rfl) (by rfl) ?_; intro K hK; go_simp; refine hK _ _ _ (fun _ h => h) (kept_mk (BoxK.ext HCEL.out ((Ext.refl wN).alloc (.cells #[.int .i64 x] 3)))) ?_; clear hK K; have hy := (Ext.refl wN).alloc (.cells #[.int .i64 x] 3); (try replace L14 := zH (BoxK.ext L14.out hy)); have L7 := zH (blk_new wN #[.int .i64 x] 3 _ rfl); have Z7 : Hid (Z ≤ wN.heap.size) := HZ; replace HPR := zH (HPR.out.grow hy); replace HCEL := zH (BoxK.ext HCEL.out hy); replace HKP := zH (HKP.out.trans (KpT.of_ext hy)); replace HZ := zH (Nat.le_trans HZ.out hy.size); clear hy; generalize wN.alloc (.cells #[.int .i64 x] 3) = wM at *; generalize wN.heap.size = H7 at *; (try clear wN); rename World => wN)
  (refine gp_one (by (try simp only [List.getD_cons_succ, List.getD_cons_zero]); rfl) (by rfl) ?_; intro K hK; refine wp_app (.tmp 49) (.tmp 51) 38 rfl intInfo intCells (by rfl) HPR.out.ol ⟨H7, 0, none⟩ 1 [(x : Int)] (p.large.length + 1) 1 (by simp [ordZ]) rfl (by rfl) (row_block L7.out rfl intCells (by decide)) (by omega) (by simp [maxLen]; omega) HPR.out.ext.size ?_; intro A8 c8 wM ho hg ht; rw [ordZ_snoc] at ho; have hcel2 := blk_grown HPR.out.ol HCEL.out hg (by decide); refine hK _ _ _ (fun _ h => h) (kept_mk hcel2) ?_; clear hK K; (try replace L14 := zH (lit_kept L14.out hg (fun g e => HLT.out lv (by simp) g e) Z14.out)); replace HKP := zH (HKP.out.trans (KpT.own HPR.out.ol (.inl rfl) hg)); replace HCEL := zH hcel2; replace HZ := zH (Nat.le_trans HZ.out hg.size); replace HPR := zH (HPR.out.turn_l ho hg (ht.imp id fun h => .inr ⟨_, Nat.le_refl _, h⟩)); clear hcel2 ho hg ht; (try clear wN); rename World => wN)
  (refine gp_one (by (try simp only [List.getD_cons_succ, List.getD_cons_zero]); rfl) (by rfl) ?_; intro K hK; refine wp_app (.tmp 56) (.tmp 58) 38 rfl intInfo intCells (by rfl) HPR.out.op ⟨H14, 0, none⟩ 1 [(x : Int)] (p.pile.length + 1) 1 (by simp [ordZ]) rfl (by rfl) (row_block L14.out rfl intCells (by decide)) (by omega) (by simp [maxLen]; omega) HPR.out.ext.size ?_; intro A15 c15 wM ho hg ht; rw [ordZ_snoc] at ho; have hcel2 := blk_grown HPR.out.op HCEL.out hg (by decide); refine hK _ _ _ (fun _ h => h) (kept_mk hcel2) ?_; clear hK K; replace HKP := zH (HKP.out.trans (KpT.own HPR.out.op (.inl rfl) hg)); replace HCEL := zH hcel2; replace HZ := zH (Nat.le_trans HZ.out hg.size); replace HPR := zH (HPR.out.turn_p ho hg (ht.imp id fun h => .inr ⟨_, Nat.le_refl _, h⟩)); clear hcel2 ho hg ht; (try clear wN); rename World => wN)
  ((refine gp_tl ?_; (try simp only [opsOf, List.map_cons, List.map_nil, List.getD_cons_zero, List.getD_cons_succ])); have hcel := HCEL.out; have k1 := (cells_of hcel).1; have f1 := (cells_of hcel).2; clear hcel; go_wp2_with fail; go_ret; have hfin := PP.addL (K := K) (x := x) (by rw [HA.out]; exact HCEL.out) (by rw [HMS.out]; exact HPR.out) HLO.out HNX.out HNM.out HFS.out; exact ⟨rfl, hfin.1, HKP.out.trans hfin.2⟩)
end
end Go.Proofs.YtphpppjfogpohaaGreat
