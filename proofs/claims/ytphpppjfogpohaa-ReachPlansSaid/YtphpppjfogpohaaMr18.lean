/- Merged by program (merge.py) out of: RchJ, RchK, RchU. -/
import Derived.Test.YtphpppjfogpohaaMr17
import Derived.Test.YtphpppjfogpohaaMr15
/- The program's plan: meet. -/
set_option linter.unusedSimpArgs false
set_option linter.unusedVariables false
namespace Go.Proofs.Ytphpppjfogpohaa
open Go.RowKit Go.Shelf
set_option maxRecDepth 100000
set_option maxHeartbeats 2000000
/-- What a plan does leaves blocks of other kinds as they are. -/
def KpT (w w' : World) : Prop := ∀ (g : Nat) (cs : Array Value) (t : TypeId) (r : Nat × Nat), w.heap[g]? = some (.cells cs t r) → t ≠ 3 → t ≠ 4 → t ≠ 79 → w'.heap[g]? = some (.cells cs t r)
section
variable {u w w' : World}
theorem KpT.of_ext (h : Ext w w') : KpT w w' := fun g cs t r hg _ _ _ => (h.block (lt_of_heap hg)).trans hg
theorem KpT.trans (h : KpT u w) (k : KpT w w') : KpT u w' := fun g cs t r hg h1 h2 h3 => k g cs t r (h g cs t r hg h1 h2 h3) h1 h2 h3
theorem KpT.own {α : Type} {e : TypeId} {n : Nat} {f : α → List Value} {B : Nat} {v : Value} {xs : List α} (h : Own e n f w B v xs) (he : e = 3 ∨ e = 4) (hg : w.grownBy w' v.ownBlock) : KpT w w' := fun g cs t r hc h1 h2 h3 => (hg.block g (lt_of_heap hc) (h.ne_block hc (by rcases he with rfl | rfl; exact h1; exact h2))).trans hc
theorem KpT.ownO {B : Nat} {v : Value} {xs : List Int} (h : OwnO w B v xs) (hg : w.grownBy w' v.ownBlock) : KpT w w' := fun g cs t r hc h1 h2 h3 => (hg.block g (lt_of_heap hc) (fun e => by
  obtain ⟨cur, hx⟩ := ownO_cells h e.symm
  rw [hc] at hx
  injection hx with hx
  injection hx with _ hx
  exact h1 hx)).trans hc
theorem KpT.map {b n : Nat} {f : Int → Value} (h : MapV w b n f) (hg : w.grownBy w' (some b)) : KpT w w' := fun g cs t r hc h1 h2 h3 => (hg.block g (lt_of_heap hc) (fun e => h.ne hc (by injection e with e; exact e.symm))).trans hc
theorem KpT.set {b i : Nat} {x : Value} {ds : Array Value} {t2 : TypeId} {r2 : Nat × Nat} (hb : w.heap[b]? = some (.cells ds t2 r2)) (ht : t2 = 3 ∨ t2 = 4 ∨ t2 = 79) : KpT w (w.setCell ⟨b, i, none⟩ x) := fun g cs t r hc h1 h2 h3 => blk_set_other hc _ (fun e => by
  subst e
  rw [hb] at hc
  injection hc with hc
  injection hc with _ hc
  subst hc
  rcases ht with h | h | h
  · exact h1 h
  · exact h2 h
  · exact h3 h)
end
def PMeet (V0 : World) (G : GraphD) (lim blk b K : Nat) (p : PlD) (v : Int × Int) (V : World) (e : Ending) (w' : World) : Prop := e = .returned (.bool (newP (envG G lim blk) p v)) ∧ PP V0 G lim blk b K (meetP (envG G lim blk) false p v) w' ∧ KpT V w'
section
variable {V0 : World} {G : GraphD} {lim blk b K : Nat} {p : PlD} {V : World}
theorem pmeet_val (h : PP V0 G lim blk b K p V) (v : Int × Int) (hv : v.1 ≠ 2) :
    Calls Try.prog 98 #[.pointer (some ⟨b, 0, none⟩), .agg #[.int .i64 v.1, .int .i64 v.2]] V (PMeet V0 G lim blk b K p v V) := by
  obtain ⟨k, x⟩ := v
  have hf : p.fresh (k, x) = false := by simp [PlD.fresh]; exact fun e => absurd e hv
  have e1 : newP (envG G lim blk) p (k, x) = false := by simp [newP, hf]
  have e2 : meetP (envG G lim blk) false p (k, x) = p := by simp [meetP, hf]
  have d0 : (k != 2) = true := by simpa using hv
  have hx0 := (Ext.refl V).alloc (.cells #[.int .i64 k, .int .i64 x] 53)
  have hB := pers_new V #[.int .i64 k, .int .i64 x] 53 _ rfl
  have HP := Lib.hid (h.grow hx0)
  have HX := Lib.hid hx0
  unfold PMeet
  rw [e1, e2]
  clear h hv hf e1 e2 hx0
  go_enter Try.func98, Try.ntmps98
  go_wp2_with fail
  generalize V.alloc (.cells #[.int .i64 k, .int .i64 x] 53) = W at *
  have l0 := hB.cells
  have hs0 : Ext W W := Ext.refl _
  (refine wp_region_ext (W := W) (by kernel_rfl) (by kernel_rfl) (by with_reducible assumption) ?_; (repeat (go_big_quiet_step (fail))); refine wpQuiet_nil ?_; intro w1 hx)
  go_wp2_with fail
  go_ret
  exact ⟨rfl, HP.out.grow hx, KpT.of_ext (HX.out.trans hx)⟩
theorem pmeet_old (h : PP V0 G lim blk b K p V) (x : Nat) (hx : x < G.ns.length) (hm : x ∈ p.small ++ p.large) :
    Calls Try.prog 98 #[.pointer (some ⟨b, 0, none⟩), .agg #[.int .i64 2, .int .i64 x]] V (PMeet V0 G lim blk b K p (2, x) V) := by
  have hf : p.fresh (2, (x : Int)) = false := by
    cases hc : p.fresh (2, (x : Int)) with
    | false => rfl
    | true => exact absurd hm (by have := (PlD.fresh_iff.1 hc).2; simpa using this)
  have e1 : newP (envG G lim blk) p (2, (x : Int)) = false := by simp [newP, hf]
  have e2 : meetP (envG G lim blk) false p (2, (x : Int)) = p := by simp [meetP, hf]
  have hx0 := (Ext.refl V).alloc (.cells #[.int .i64 2, .int .i64 x] 53)
  have hB := pers_new V #[.int .i64 2, .int .i64 x] 53 _ rfl
  have HP := Lib.hid (h.grow hx0)
  have HX := Lib.hid hx0
  obtain ⟨sv, bv, kv, lv, pv, mv, mp, nm, f, Y, fi, hq⟩ := h.grow hx0
  obtain ⟨mA, mc, rfl, -, -, -, hmc, -⟩ := hq.pr.om.form boolCells (by decide)
  obtain ⟨mg, rfl, _, _⟩ := own_some hq.pr.om (fun e => by have := metL_len (n := G.ns.length) (p := p); rw [e] at this; simp at this; omega)
  have cm := own_boolAt hq.pr.om rfl (k := x) (by rw [metL_len]; exact hx)
  rw [metL_get hx, PlD.has_iff.2 hm] at cm
  have hl := hq.cel
  rw [metL_len] at hl
  unfold PMeet
  rw [e1, e2]
  have jx0 : (0 : Int) ≤ (x : Int) := by omega
  have jx1 : (x : Int) < (G.ns.length : Int) := by omega
  clear h hf e1 e2 hx0 hm hq hmc
  go_enter Try.func98, Try.ntmps98
  go_wp2_with fail
  generalize V.alloc (.cells #[.int .i64 2, .int .i64 x] 53) = W at *
  have l0 := hB.cells
  have l1 := (pers_blk hl).cells
  have l2 := pers_cell cm
  have hs0 : Ext W W := Ext.refl _
  (refine wp_region_ext (W := W) (by kernel_rfl) (by kernel_rfl) (by with_reducible assumption) ?_; (repeat (go_big_quiet_step (fail))); refine wpQuiet_nil ?_; intro w1 hx)
  go_wp2_with fail
  go_ret
  exact ⟨rfl, HP.out.grow hx, KpT.of_ext (HX.out.trans hx)⟩
end
end Go.Proofs.Ytphpppjfogpohaa

/- The program's plan: meet, where a node is met. -/
set_option linter.unusedSimpArgs false
set_option linter.unusedVariables false
namespace Go.Proofs.Ytphpppjfogpohaa
open Go.RowKit Go.Shelf
set_option maxRecDepth 100000
set_option maxHeartbeats 4000000
theorem lit_kept {w w' : World} {H Z : Nat} {o : Obj} {row : Option Nat} (h : w.heap[H]? = some o) (hg : w.grownBy w' row) (hr : ∀ g, row = some g → g < Z) (hz : Z ≤ H) : w'.heap[H]? = some o :=
  (hg.block H (lt_of_heap h) (fun e => by have := hr H e.symm; omega)).trans h
section
variable {V0 : World} {G : GraphD} {lim blk b K : Nat} {p : PlD} {V : World}
theorem PP.addL {sv bv kv lv pv mv lv' pv' : Value} {mp nm fi x : Nat} {f : Int → Value} {Y : Int → List Nat} {w : World} (hc : BoxK b #[.slice G.nA G.ns.length G.ncap, .slice G.rA G.rs.length G.rcap, .int .i64 lim, .int .i64 blk, mv, sv, lv, bv, .int .i64 p.top, pv, .map (some mp), .int .i64 fi, kv] 79 w)
    (hpr : PR V0 sv bv kv lv' pv' mv mp nm f Y (metL G.ns.length (p.addL x)) (p.addL x) w) (hlo : V0.heap.size ≤ b) (hnx : NxtOk blk p Y) (hnm : nm ≤ K + p.met) (hf : Fst p fi) : PP V0 G lim blk b K (p.addL x) ((w.setCell ⟨b, 6, none⟩ lv').setCell ⟨b, 9, none⟩ pv') ∧ KpT w ((w.setCell ⟨b, 6, none⟩ lv').setCell ⟨b, 9, none⟩ pv') :=
  ⟨⟨sv, bv, kv, lv', pv', mv, mp, nm, f, Y, fi, blk_set (blk_set hc _) _, (hpr.far hc (by decide) (by decide) hlo).far (blk_set hc _) (by decide) (by decide) hlo, hlo, hnx, by rw [show (p.addL x).met = p.met + 1 from by simp only [PlD.met, PlD.addL, List.length_append, List.length_singleton]; omega]; omega, hf⟩,
    (KpT.set hc (.inr (.inr rfl))).trans (KpT.set (blk_set hc _) (.inr (.inr rfl)))⟩
theorem pmeet_large (h : PP V0 G lim blk b K p V) (hV : GraphAt V0 G) (x : Nat) (ho : PlOk (envG G lim blk) p) (ht : TopOk p) (hG : RchG G lim blk) (hxn : x < G.ns.length) (hm : x ∉ p.small ++ p.large) (hz : lim < (envG G lim blk).sz x) :
    Calls Try.prog 98 #[.pointer (some ⟨b, 0, none⟩), .agg #[.int .i64 2, .int .i64 x]] V (PMeet V0 G lim blk b K p (2, x) V) := by
  have hf : p.fresh (2, (x : Int)) = true := PlD.fresh_iff.2 ⟨rfl, by simpa using hm⟩
  have hmet := ho.met_le
  have hn := hG.n
  rw [envG_n] at hmet
  unfold PlD.met at hmet
  obtain ⟨z1, z2⟩ := hG.sz x hxn
  have e1 : newP (envG G lim blk) p (2, (x : Int)) = decide ((envG G lim blk).sz x ≤ lim) := by simp [newP, hf]; rfl
  have e2 : meetP (envG G lim blk) false p (2, (x : Int)) = if lim < (envG G lim blk).sz x then p.addL x else p.addS false x ((envG G lim blk).sz x) := by simp only [meetP, hf, if_true]; rfl
  have hx0 := (Ext.refl V).alloc (.cells #[.int .i64 2, .int .i64 x] 53)
  have hB := pers_new V #[.int .i64 2, .int .i64 x] 53 _ rfl
  obtain ⟨sv, bv, kv, lv, pv, mv, mp, nm, f, Y, fi, hq⟩ := h.grow hx0
  obtain ⟨mA, mc, rfl, -, -, -, hmc, -⟩ := hq.pr.om.form boolCells (by decide)
  rw [metL_len] at hq
  obtain ⟨mg, rfl, _, _⟩ := own_some hq.pr.om (fun e => by have := metL_len (n := G.ns.length) (p := p); rw [e] at this; simp at this; omega)
  obtain ⟨sA, sc, rfl, -⟩ := hq.pr.os.form intCells (by decide)
  rw [ordZ_len] at hq
  have cm := own_boolAt hq.pr.om metL_len (k := x) hxn
  rw [metL_get hxn, show p.has x = false by cases hc : p.has x with | false => rfl | true => exact absurd (PlD.has_iff.1 hc) hm] at cm
  obtain ⟨mcur, hmcur⟩ := own_heap hq.pr.om
  have fm := (cells_of hmcur).2
  obtain ⟨nb, noff, hA, hcn⟩ := hV.nodes.row.get (by omega)
  obtain ⟨d0, d1, d2⟩ := nodes_cell hcn hxn
  have hbm : b ≠ mg := fun e => by have := hq.cel; rw [e, hmcur] at this; injection this with this; injection this with _ this; exact absurd this (by decide)
  have hnm : nb ≠ mg := fun e => by have h1 := cell_lt d0; have h2 := (own_below hq.pr.om rfl).1; omega
  have hcel := hq.cel
  rw [hA] at hcel
  have HPR0 := Lib.hid hq.pr
  have D0 := Lib.hid d0
  have D1 := Lib.hid d1
  have D2 := Lib.hid d2
  have HX0 := Lib.hid (KpT.of_ext hx0)
  have HML := Lib.hid (metL_len (n := G.ns.length) (p := p))
  have HLO := Lib.hid hq.lo
  have HNX := Lib.hid hq.nx
  have HNM := Lib.hid hq.nmk
  have HFS := Lib.hid hq.fst
  have HBLL := Lib.hid (And.intro ho.bl ho.ll)
  generalize (envG G lim blk).sz x = z at *
  have HS := Lib.hid (fun W => size_any (G.ns.getD x default) W)
  rw [z2] at HS
  have jx0 : (0 : Int) ≤ (x : Int) := by omega
  have jx1 : (x : Int) < (G.ns.length : Int) := by omega
  have hpl : p.pile.length ≤ 60 := by have := ht.2.1; omega
  have htp : p.top ≤ 600000 := by have := ht.1; omega
  have hbl : p.begins.length ≤ 60 := by have := ho.bl; omega
  have hll : p.lk.length ≤ 60 := by have := ho.ll; omega
  have HBK : Hid (1 ≤ blk) := Lib.hid hG.bk.1
  have HMS := Lib.hid (metL_addL (n := G.ns.length) (p := p) hxn)
  have HMS2 := Lib.hid (metL_addS (n := G.ns.length) (p := p) (mk := false) (s := z) hxn)
  have HA := Lib.hid hA
  have HMC := Lib.hid hmcur
  clear hm hf hq hmc hV hG ho ht hcn d0 d1 d2 hmcur hxn hA fm
  generalize G.ns.getD x default = y at *
  unfold PMeet
  rw [e1, e2, if_pos hz, show decide (z ≤ lim) = false by simpa using hz]
  have dz : decide (lim < z) = true := by simpa using hz
  clear e1 e2 hx0 hz
  have k1 := (cells_of hcel).1
  go_enter Try.func98, Try.ntmps98
  go_wp2_with fail
  have l0 := hB.cells
  have l1 := (pers_blk hcel).cells
  have l2 := pers_cell cm
  have hs0 := Ext.refl (V.alloc (.cells #[.int .i64 2, .int .i64 x] 53))
  generalize hW : V.alloc (.cells #[.int .i64 2, .int .i64 x] 53) = W at *
  (refine wp_region_ext (W := W) (by kernel_rfl) (by kernel_rfl) (by with_reducible assumption) ?_; (repeat (go_big_quiet_step (fail))); refine wpQuiet_nil ?_; intro w1 hx)
  have k0 := (cells_of (hB.at hx)).1
  have hcel1 := (hx.block (lt_of_heap hcel)).trans hcel
  have k2 := (cells_of hcel1).1
  have k3 := hx.cell cm
  have hmc1 := (hx.block (lt_of_heap HMC.out)).trans HMC.out
  have fm := (cells_of hmc1).2
  have hpr1 := HPR0.out.grow hx
  have g0 := hpr1.ext.cell D0.out
  have g1 := hpr1.ext.cell D1.out
  have g2 := hpr1.ext.cell D2.out
  have HPR := Lib.hid (hpr1.setM rfl HML.out x)
  have HCEL := Lib.hid (blk_set_other hcel1 (.bool true) hbm (i := x))
  have HKP := Lib.hid ((HX0.out.trans (KpT.of_ext hx)).trans (KpT.set hmc1 (.inr (.inl rfl)) (i := x) (x := .bool true)))
  clear hx hs0 l0 l1 l2 hcel cm hcel1 hmc1 hpr1 HMC HX0 hB HPR0 k1 hW
  go_wp2_with fail
  refine (HS.out _).mono ?_
  rintro e w2 ⟨rfl, hx⟩
  replace HPR := Lib.hid (HPR.out.grow hx)
  replace HCEL := Lib.hid (BoxK.ext HCEL.out hx)
  replace HKP := Lib.hid (HKP.out.trans (KpT.of_ext hx))
  clear hx k0 k2 k3 fm g0 g1 g2 D0 D1 D2 HS
  have k1 := (cells_of HCEL.out).1
  go_wp2_with fail
  have hyd := (Ext.refl w2).drew
  have hGP : BoxK b #[.slice (some ⟨nb, noff, none⟩) G.ns.length G.ncap, .slice G.rA G.rs.length G.rcap, .int .i64 lim, .int .i64 blk, .slice (some ⟨mg, 0, none⟩) G.ns.length mc, .slice sA p.small.length sc, lv, bv, .int .i64 p.top, pv, .map (some mp), .int .i64 fi, kv] 79 w2.drew := BoxK.ext HCEL.out hyd
  have gB := hGP.cells
  (refine wp_region_gp (w := w2) (fun _ => True) (.rd [1] (.wk [16, 17, 18, 19, 20, 21] (.rd [0, 2, 3, 4, 5, 6, 9, 10, 11, 12, 13] (.fk 7 (.fk 8 (.one 14 (.one 15 .tl)) 14 (.one 8 (.one 15 .tl))) 14 (.one 7 (.one 8 (.one 15 .tl))))))) [] (by kernel_rfl) (by kernel_rfl) (by intro c a d v w h; first | exact h | (cases d <;> first | exact h | (cases h; done) | cases h.1.1 | cases h.1)) trivial ?_; (refine gp_rd ?_; (try simp only [opsOf, List.map_cons, List.map_nil, List.getD_cons_zero, List.getD_cons_succ]); (repeat (go_big_quiet_step (fail))); refine wpQuiet_nil ?_); refine gp_wk (fun _ => trivial) (fun w' => ∃ u : KeptOf (w2).drew (BoxK b #[.slice (some ⟨nb, noff, none⟩) G.ns.length G.ncap, .slice G.rA G.rs.length G.rcap, .int .i64 lim, .int .i64 blk, .slice (some ⟨mg, 0, none⟩) G.ns.length mc, .slice sA p.small.length sc, lv, bv, .int .i64 p.top, pv, .map (some mp), .int .i64 fi, kv] 79), w' = u.1) (kept_mk hGP) ?_)
  (refine gp_rd ?_; (try simp only [opsOf, List.map_cons, List.map_nil, List.getD_cons_zero, List.getD_cons_succ]); (repeat (go_big_quiet_step (fail))); refine wpQuiet_nil ?_)
  replace HPR := Lib.hid (HPR.out.grow hyd)
  replace HCEL := Lib.hid hGP
  replace HKP := Lib.hid (HKP.out.trans (KpT.of_ext hyd))
  clear hyd hGP gB k1
  generalize w2.drew = wN at *
  have HLT0 := Lib.hid HPR.out.lt
  have HZ := Lib.hid (Nat.le_refl wN.heap.size)
  obtain ⟨Z, hZ⟩ : ∃ Z, wN.heap.size = Z := ⟨_, rfl⟩
  have HLT : Hid (∀ v ∈ [.slice sA p.small.length sc, bv, kv, lv, pv, .slice (some ⟨mg, 0, none⟩) G.ns.length mc], ∀ g, v.ownBlock = some g → g < Z) := Lib.hid (fun v hv g hg => by rw [← hZ]; exact HLT0.out v hv g hg)
  replace HZ : Hid (Z ≤ wN.heap.size) := Lib.hid (by omega)
  clear HLT0 hZ
  refine gp_fk ?_ ?_
  · (refine gp_one (by (try simp only [List.getD_cons_succ, List.getD_cons_zero]); rfl) (by rfl) ?_; intro K hK; go_simp; refine hK _ _ _ (fun _ h => h) (kept_mk (BoxK.ext HCEL.out ((Ext.refl wN).alloc (.cells #[.int .i64 x] 3)))) ?_; clear hK K; have hy := (Ext.refl wN).alloc (.cells #[.int .i64 x] 3); (try replace L14 := Lib.hid (BoxK.ext L14.out hy)); have L7 := Lib.hid (blk_new wN #[.int .i64 x] 3 _ rfl); have Z7 : Hid (Z ≤ wN.heap.size) := HZ; replace HPR := Lib.hid (HPR.out.grow hy); replace HCEL := Lib.hid (BoxK.ext HCEL.out hy); replace HKP := Lib.hid (HKP.out.trans (KpT.of_ext hy)); replace HZ := Lib.hid (Nat.le_trans HZ.out hy.size); clear hy; generalize wN.alloc (.cells #[.int .i64 x] 3) = wM at *; generalize wN.heap.size = H7 at *; (try clear wN); rename World => wN)
    refine gp_fk ?_ ?_
    · (refine gp_one (by (try simp only [List.getD_cons_succ, List.getD_cons_zero]); rfl) (by rfl) ?_; intro K hK; refine wp_app (.tmp 49) (.tmp 51) 28 rfl intInfo intCells (by rfl) HPR.out.ol ⟨H7, 0, none⟩ 1 [(x : Int)] (p.large.length + 1) 1 (by simp [ordZ]) rfl (by rfl) (row_block L7.out rfl intCells (by decide)) (by omega) (by simp [maxLen]; omega) HPR.out.ext.size ?_; intro A8 c8 wM ho hg ht; rw [ordZ_snoc] at ho; have hcel2 := blk_grown HPR.out.ol HCEL.out hg (by decide); refine hK _ _ _ (fun _ h => h) (kept_mk hcel2) ?_; clear hK K; (try replace L14 := Lib.hid (lit_kept L14.out hg (fun g e => HLT.out lv (by simp) g e) Z14.out)); replace HKP := Lib.hid (HKP.out.trans (KpT.own HPR.out.ol (.inl rfl) hg)); replace HCEL := Lib.hid hcel2; replace HZ := Lib.hid (Nat.le_trans HZ.out hg.size); replace HPR := Lib.hid (HPR.out.turn_l ho hg (ht.imp id fun h => .inr ⟨_, Nat.le_refl _, h⟩)); clear hcel2 ho hg ht; (try clear wN); rename World => wN)
      (refine gp_one (by (try simp only [List.getD_cons_succ, List.getD_cons_zero]); rfl) (by rfl) ?_; intro K hK; go_simp; refine hK _ _ _ (fun _ h => h) (kept_mk (BoxK.ext HCEL.out ((Ext.refl wN).alloc (.cells #[.int .i64 x] 3)))) ?_; clear hK K; have hy := (Ext.refl wN).alloc (.cells #[.int .i64 x] 3); (try replace L7 := Lib.hid (BoxK.ext L7.out hy)); have L14 := Lib.hid (blk_new wN #[.int .i64 x] 3 _ rfl); have Z14 : Hid (Z ≤ wN.heap.size) := HZ; replace HPR := Lib.hid (HPR.out.grow hy); replace HCEL := Lib.hid (BoxK.ext HCEL.out hy); replace HKP := Lib.hid (HKP.out.trans (KpT.of_ext hy)); replace HZ := Lib.hid (Nat.le_trans HZ.out hy.size); clear hy; generalize wN.alloc (.cells #[.int .i64 x] 3) = wM at *; generalize wN.heap.size = H14 at *; (try clear wN); rename World => wN)
      (refine gp_one (by (try simp only [List.getD_cons_succ, List.getD_cons_zero]); rfl) (by rfl) ?_; intro K hK; refine wp_app (.tmp 56) (.tmp 58) 28 rfl intInfo intCells (by rfl) HPR.out.op ⟨H14, 0, none⟩ 1 [(x : Int)] (p.pile.length + 1) 1 (by simp [ordZ]) rfl (by rfl) (row_block L14.out rfl intCells (by decide)) (by omega) (by simp [maxLen]; omega) HPR.out.ext.size ?_; intro A15 c15 wM ho hg ht; rw [ordZ_snoc] at ho; have hcel2 := blk_grown HPR.out.op HCEL.out hg (by decide); refine hK _ _ _ (fun _ h => h) (kept_mk hcel2) ?_; clear hK K; replace HKP := Lib.hid (HKP.out.trans (KpT.own HPR.out.op (.inl rfl) hg)); replace HCEL := Lib.hid hcel2; replace HZ := Lib.hid (Nat.le_trans HZ.out hg.size); replace HPR := Lib.hid (HPR.out.turn_p ho hg (ht.imp id fun h => .inr ⟨_, Nat.le_refl _, h⟩)); clear hcel2 ho hg ht; (try clear wN); rename World => wN)
      ((refine gp_tl ?_; (try simp only [opsOf, List.map_cons, List.map_nil, List.getD_cons_zero, List.getD_cons_succ])); have hcel := HCEL.out; have k1 := (cells_of hcel).1; have f1 := (cells_of hcel).2; clear hcel; go_wp2_with fail; go_ret; have hfin := PP.addL (K := K) (x := x) (by rw [HA.out]; exact HCEL.out) (by rw [HMS.out]; exact HPR.out) HLO.out HNX.out HNM.out HFS.out; exact ⟨rfl, hfin.1, HKP.out.trans hfin.2⟩)
    · (refine gp_one (by (try simp only [List.getD_cons_succ, List.getD_cons_zero]); rfl) (by rfl) ?_; intro K hK; go_simp; refine hK _ _ _ (fun _ h => h) (kept_mk (BoxK.ext HCEL.out ((Ext.refl wN).alloc (.cells #[.int .i64 x] 3)))) ?_; clear hK K; have hy := (Ext.refl wN).alloc (.cells #[.int .i64 x] 3); (try replace L7 := Lib.hid (BoxK.ext L7.out hy)); have L14 := Lib.hid (blk_new wN #[.int .i64 x] 3 _ rfl); have Z14 : Hid (Z ≤ wN.heap.size) := HZ; replace HPR := Lib.hid (HPR.out.grow hy); replace HCEL := Lib.hid (BoxK.ext HCEL.out hy); replace HKP := Lib.hid (HKP.out.trans (KpT.of_ext hy)); replace HZ := Lib.hid (Nat.le_trans HZ.out hy.size); clear hy; generalize wN.alloc (.cells #[.int .i64 x] 3) = wM at *; generalize wN.heap.size = H14 at *; (try clear wN); rename World => wN)
      (refine gp_one (by (try simp only [List.getD_cons_succ, List.getD_cons_zero]); rfl) (by rfl) ?_; intro K hK; refine wp_app (.tmp 49) (.tmp 51) 28 rfl intInfo intCells (by rfl) HPR.out.ol ⟨H7, 0, none⟩ 1 [(x : Int)] (p.large.length + 1) 1 (by simp [ordZ]) rfl (by rfl) (row_block L7.out rfl intCells (by decide)) (by omega) (by simp [maxLen]; omega) HPR.out.ext.size ?_; intro A8 c8 wM ho hg ht; rw [ordZ_snoc] at ho; have hcel2 := blk_grown HPR.out.ol HCEL.out hg (by decide); refine hK _ _ _ (fun _ h => h) (kept_mk hcel2) ?_; clear hK K; (try replace L14 := Lib.hid (lit_kept L14.out hg (fun g e => HLT.out lv (by simp) g e) Z14.out)); replace HKP := Lib.hid (HKP.out.trans (KpT.own HPR.out.ol (.inl rfl) hg)); replace HCEL := Lib.hid hcel2; replace HZ := Lib.hid (Nat.le_trans HZ.out hg.size); replace HPR := Lib.hid (HPR.out.turn_l ho hg (ht.imp id fun h => .inr ⟨_, Nat.le_refl _, h⟩)); clear hcel2 ho hg ht; (try clear wN); rename World => wN)
      (refine gp_one (by (try simp only [List.getD_cons_succ, List.getD_cons_zero]); rfl) (by rfl) ?_; intro K hK; refine wp_app (.tmp 56) (.tmp 58) 28 rfl intInfo intCells (by rfl) HPR.out.op ⟨H14, 0, none⟩ 1 [(x : Int)] (p.pile.length + 1) 1 (by simp [ordZ]) rfl (by rfl) (row_block L14.out rfl intCells (by decide)) (by omega) (by simp [maxLen]; omega) HPR.out.ext.size ?_; intro A15 c15 wM ho hg ht; rw [ordZ_snoc] at ho; have hcel2 := blk_grown HPR.out.op HCEL.out hg (by decide); refine hK _ _ _ (fun _ h => h) (kept_mk hcel2) ?_; clear hK K; replace HKP := Lib.hid (HKP.out.trans (KpT.own HPR.out.op (.inl rfl) hg)); replace HCEL := Lib.hid hcel2; replace HZ := Lib.hid (Nat.le_trans HZ.out hg.size); replace HPR := Lib.hid (HPR.out.turn_p ho hg (ht.imp id fun h => .inr ⟨_, Nat.le_refl _, h⟩)); clear hcel2 ho hg ht; (try clear wN); rename World => wN)
      ((refine gp_tl ?_; (try simp only [opsOf, List.map_cons, List.map_nil, List.getD_cons_zero, List.getD_cons_succ])); have hcel := HCEL.out; have k1 := (cells_of hcel).1; have f1 := (cells_of hcel).2; clear hcel; go_wp2_with fail; go_ret; have hfin := PP.addL (K := K) (x := x) (by rw [HA.out]; exact HCEL.out) (by rw [HMS.out]; exact HPR.out) HLO.out HNX.out HNM.out HFS.out; exact ⟨rfl, hfin.1, HKP.out.trans hfin.2⟩)
  · (refine gp_one (by (try simp only [List.getD_cons_succ, List.getD_cons_zero]); rfl) (by rfl) ?_; intro K hK; go_simp; refine hK _ _ _ (fun _ h => h) (kept_mk (BoxK.ext HCEL.out ((Ext.refl wN).alloc (.cells #[.int .i64 x] 3)))) ?_; clear hK K; have hy := (Ext.refl wN).alloc (.cells #[.int .i64 x] 3); (try replace L7 := Lib.hid (BoxK.ext L7.out hy)); have L14 := Lib.hid (blk_new wN #[.int .i64 x] 3 _ rfl); have Z14 : Hid (Z ≤ wN.heap.size) := HZ; replace HPR := Lib.hid (HPR.out.grow hy); replace HCEL := Lib.hid (BoxK.ext HCEL.out hy); replace HKP := Lib.hid (HKP.out.trans (KpT.of_ext hy)); replace HZ := Lib.hid (Nat.le_trans HZ.out hy.size); clear hy; generalize wN.alloc (.cells #[.int .i64 x] 3) = wM at *; generalize wN.heap.size = H14 at *; (try clear wN); rename World => wN)
    (refine gp_one (by (try simp only [List.getD_cons_succ, List.getD_cons_zero]); rfl) (by rfl) ?_; intro K hK; go_simp; refine hK _ _ _ (fun _ h => h) (kept_mk (BoxK.ext HCEL.out ((Ext.refl wN).alloc (.cells #[.int .i64 x] 3)))) ?_; clear hK K; have hy := (Ext.refl wN).alloc (.cells #[.int .i64 x] 3); (try replace L14 := Lib.hid (BoxK.ext L14.out hy)); have L7 := Lib.hid (blk_new wN #[.int .i64 x] 3 _ rfl); have Z7 : Hid (Z ≤ wN.heap.size) := HZ; replace HPR := Lib.hid (HPR.out.grow hy); replace HCEL := Lib.hid (BoxK.ext HCEL.out hy); replace HKP := Lib.hid (HKP.out.trans (KpT.of_ext hy)); replace HZ := Lib.hid (Nat.le_trans HZ.out hy.size); clear hy; generalize wN.alloc (.cells #[.int .i64 x] 3) = wM at *; generalize wN.heap.size = H7 at *; (try clear wN); rename World => wN)
    (refine gp_one (by (try simp only [List.getD_cons_succ, List.getD_cons_zero]); rfl) (by rfl) ?_; intro K hK; refine wp_app (.tmp 49) (.tmp 51) 28 rfl intInfo intCells (by rfl) HPR.out.ol ⟨H7, 0, none⟩ 1 [(x : Int)] (p.large.length + 1) 1 (by simp [ordZ]) rfl (by rfl) (row_block L7.out rfl intCells (by decide)) (by omega) (by simp [maxLen]; omega) HPR.out.ext.size ?_; intro A8 c8 wM ho hg ht; rw [ordZ_snoc] at ho; have hcel2 := blk_grown HPR.out.ol HCEL.out hg (by decide); refine hK _ _ _ (fun _ h => h) (kept_mk hcel2) ?_; clear hK K; (try replace L14 := Lib.hid (lit_kept L14.out hg (fun g e => HLT.out lv (by simp) g e) Z14.out)); replace HKP := Lib.hid (HKP.out.trans (KpT.own HPR.out.ol (.inl rfl) hg)); replace HCEL := Lib.hid hcel2; replace HZ := Lib.hid (Nat.le_trans HZ.out hg.size); replace HPR := Lib.hid (HPR.out.turn_l ho hg (ht.imp id fun h => .inr ⟨_, Nat.le_refl _, h⟩)); clear hcel2 ho hg ht; (try clear wN); rename World => wN)
    (refine gp_one (by (try simp only [List.getD_cons_succ, List.getD_cons_zero]); rfl) (by rfl) ?_; intro K hK; refine wp_app (.tmp 56) (.tmp 58) 28 rfl intInfo intCells (by rfl) HPR.out.op ⟨H14, 0, none⟩ 1 [(x : Int)] (p.pile.length + 1) 1 (by simp [ordZ]) rfl (by rfl) (row_block L14.out rfl intCells (by decide)) (by omega) (by simp [maxLen]; omega) HPR.out.ext.size ?_; intro A15 c15 wM ho hg ht; rw [ordZ_snoc] at ho; have hcel2 := blk_grown HPR.out.op HCEL.out hg (by decide); refine hK _ _ _ (fun _ h => h) (kept_mk hcel2) ?_; clear hK K; replace HKP := Lib.hid (HKP.out.trans (KpT.own HPR.out.op (.inl rfl) hg)); replace HCEL := Lib.hid hcel2; replace HZ := Lib.hid (Nat.le_trans HZ.out hg.size); replace HPR := Lib.hid (HPR.out.turn_p ho hg (ht.imp id fun h => .inr ⟨_, Nat.le_refl _, h⟩)); clear hcel2 ho hg ht; (try clear wN); rename World => wN)
    ((refine gp_tl ?_; (try simp only [opsOf, List.map_cons, List.map_nil, List.getD_cons_zero, List.getD_cons_succ])); have hcel := HCEL.out; have k1 := (cells_of hcel).1; have f1 := (cells_of hcel).2; clear hcel; go_wp2_with fail; go_ret; have hfin := PP.addL (K := K) (x := x) (by rw [HA.out]; exact HCEL.out) (by rw [HMS.out]; exact HPR.out) HLO.out HNX.out HNM.out HFS.out; exact ⟨rfl, hfin.1, HKP.out.trans hfin.2⟩)
end
end Go.Proofs.Ytphpppjfogpohaa

/- Reach, plain: a limit above all sizes is as good as any other; a rising list is determined by its members. -/
set_option linter.unusedSimpArgs false
set_option linter.unusedVariables false
namespace Go.Proofs.Ytphpppjfogpohaa
open Go.RowKit Go.Shelf
/-- Limits that no size lies between. -/
def LimEq (E F : PlE) : Prop := F.n = E.n ∧ F.sz = E.sz ∧ F.fs = E.fs ∧ F.blk = E.blk ∧ ∀ i, (E.lim < E.sz i) ↔ (F.lim < E.sz i)
section
variable {E F : PlE}
theorem LimEq.meet (h : LimEq E F) (mk : Bool) (p : PlD) (v : Int × Int) : meetP F mk p v = meetP E mk p v := by
  obtain ⟨h1, h2, h3, h4, h5⟩ := h
  unfold meetP
  rw [h2]
  split
  · by_cases hl : E.lim < E.sz v.2.toNat
    · rw [if_pos hl, if_pos ((h5 _).1 hl)]
    · rw [if_neg hl, if_neg fun c => hl ((h5 _).2 c)]
  · rfl
theorem LimEq.new (h : LimEq E F) (p : PlD) (v : Int × Int) : newP F p v = newP E p v := by
  obtain ⟨h1, h2, h3, h4, h5⟩ := h
  unfold newP
  rw [h2]
  congr 1
  have := h5 v.2.toNat
  exact decide_eq_decide.2 (by omega)
theorem LimEq.all (h : LimEq E F) (mk : Bool) (p : PlD) (l : List (Int × Int)) : allP F mk p l = allP E mk p l := by
  unfold allP
  rw [show meetP F mk = meetP E mk from funext fun q => funext fun v => h.meet mk q v]
theorem LimEq.deep (h : LimEq E F) (mk : Bool) : ∀ (f : Nat) (p : PlD) (l : List (Int × Int)), deepP F mk f p l = deepP E mk f p l := by
  intro f
  induction f with
  | zero => intro p l; rfl
  | succ f ih =>
    intro p l
    rw [deepP_succ, deepP_succ]
    rw [show oneP F mk f = oneP E mk f from funext fun q => funext fun v => by
      unfold oneP
      rw [h.new, h.meet, h.2.2.1, ih]]
theorem LimEq.look (h : LimEq E F) (o : Nat) (p : PlD) (l : List (Int × Int)) : lookP F o p l = lookP E o p l := by
  unfold lookP
  rw [h.1, h.deep, h.all]
theorem LimEq.step (h : LimEq E F) (o : Nat) (p : PlD) : stepP F o p = stepP E o p := by
  unfold stepP
  rw [show nextP F o p = nextP E o p from by unfold nextP; rw [h.2.2.2.1]]
  simp only [h.look, h.2.2.1]
theorem LimEq.run (h : LimEq E F) (o : Nat) : ∀ (f : Nat) (p : PlD), runP F o f p = runP E o f p := by
  intro f
  induction f with
  | zero => intro p; rfl
  | succ f ih =>
    intro p
    unfold runP
    rw [h.step]
    cases stepP E o p with
    | none => rfl
    | some q => exact ih q
theorem LimEq.plan (h : LimEq E F) (o : Nat) (rs : List (Int × Int)) : planP F o rs = planP E o rs := by
  unfold planP
  rw [h.look, h.1, h.run]
/-- Nothing is large where all sizes lie below the limit. -/
theorem meet_noL {mk : Bool} {p : PlD} {v : Int × Int} (hs : ∀ i, E.sz i ≤ E.lim) (h : p.large = []) : (meetP E mk p v).large = [] := by
  unfold meetP
  split
  · rw [if_neg (by have := hs v.2.toNat; omega)]
    exact h
  · exact h
theorem all_noL {mk : Bool} (hs : ∀ i, E.sz i ≤ E.lim) (p : PlD) (l : List (Int × Int)) (h : p.large = []) : (allP E mk p l).large = [] :=
  fold_keep (I := fun q : PlD => q.large = []) l p (fun v _ q hq => meet_noL hs hq) h
theorem deep_noL {mk : Bool} (hs : ∀ i, E.sz i ≤ E.lim) : ∀ (f : Nat) (p : PlD) (l : List (Int × Int)), p.large = [] → (deepP E mk f p l).large = [] := by
  intro f
  induction f with
  | zero => exact fun p l h => h
  | succ f ih =>
    intro p l h
    rw [deepP_succ]
    refine fold_keep (I := fun q : PlD => q.large = []) l p (fun v _ q hq => ?_) h
    unfold oneP
    split
    · exact ih _ _ (meet_noL hs hq)
    · exact meet_noL hs hq
theorem look_noL (hs : ∀ i, E.sz i ≤ E.lim) (o : Nat) (p : PlD) (l : List (Int × Int)) (h : p.large = []) : (lookP E o p l).large = [] := by
  unfold lookP
  split
  · exact deep_noL hs _ _ _ h
  · exact all_noL hs _ _ h
theorem step_noL (hs : ∀ i, E.sz i ≤ E.lim) (o : Nat) (p q : PlD) (h : p.large = []) (hq : stepP E o p = some q) : q.large = [] := by
  unfold stepP at hq
  split at hq
  · injection hq with hq
    rw [← hq]
    exact look_noL hs _ _ _ h
  · split at hq
    · cases hq
    · injection hq with hq
      rw [← hq]
      exact look_noL hs _ _ _ h
theorem run_noL (hs : ∀ i, E.sz i ≤ E.lim) (o : Nat) : ∀ (f : Nat) (p : PlD), p.large = [] → (runP E o f p).large = [] := by
  intro f
  induction f with
  | zero => exact fun p h => h
  | succ f ih =>
    intro p h
    unfold runP
    cases hst : stepP E o p with
    | none => exact h
    | some q => exact ih q (step_noL hs o p q h hst)
theorem plan_noL (hs : ∀ i, E.sz i ≤ E.lim) (o : Nat) (rs : List (Int × Int)) : (planP E o rs).large = [] :=
  run_noL hs o _ _ (look_noL hs o _ _ rfl)
end
/-- A rising list is determined by its members. -/
theorem rise_ext : ∀ (a b : List Int), a.Pairwise (· < ·) → b.Pairwise (· < ·) → (∀ x, x ∈ a ↔ x ∈ b) → a = b
  | [], [], _, _, _ => rfl
  | [], y :: b, _, _, h => absurd ((h y).2 (List.mem_cons_self ..)) (by simp)
  | x :: a, [], _, _, h => absurd ((h x).1 (List.mem_cons_self ..)) (by simp)
  | x :: a, y :: b, ha, hb, h => by
    obtain ⟨ha1, ha2⟩ := List.pairwise_cons.1 ha
    obtain ⟨hb1, hb2⟩ := List.pairwise_cons.1 hb
    have hxy : x = y := by
      rcases List.mem_cons.1 ((h x).1 (List.mem_cons_self ..)) with e | h1
      · exact e
      · rcases List.mem_cons.1 ((h y).2 (List.mem_cons_self ..)) with e | h2
        · exact e.symm
        · have := ha1 _ h2
          have := hb1 _ h1
          omega
    subst hxy
    rw [rise_ext a b ha2 hb2 fun z => ?_]
    have hz := h z
    simp only [List.mem_cons] at hz
    constructor
    · intro hza
      have := ha1 _ hza
      rcases hz.1 (.inr hza) with e | h1
      · omega
      · exact h1
    · intro hzb
      have := hb1 _ hzb
      rcases hz.2 (.inr hzb) with e | h1
      · omega
      · exact h1
theorem sortZ_mem {l : List Int} {x : Int} : x ∈ sortZ l ↔ x ∈ l := List.mem_mergeSort
theorem sortZ_rise {l : List Int} (h : l.Nodup) : (sortZ l).Pairwise (· < ·) := by
  have h1 : (sortZ l).Pairwise fun x y => decide (x ≤ y) = true := List.pairwise_mergeSort (fun a b c h1 h2 => by simp at *; omega) (fun a b => by simp; omega) l
  have h2 : (sortZ l).Nodup := (List.mergeSort_perm l _).nodup_iff.2 h
  refine (h1.and h2).imp fun ⟨h3, h4⟩ => ?_
  simp at h3
  omega
theorem ordZ_nodup {l : List Nat} (h : l.Nodup) : (ordZ l).Nodup := by
  unfold ordZ
  exact List.Pairwise.map _ (fun a b hab => by omega) h
theorem ordZ_mem {l : List Nat} {x : Int} : x ∈ ordZ l ↔ ∃ i, i ∈ l ∧ (i : Int) = x := by simp [ordZ]
theorem rise_rise (n : Nat) (S : List Int) : (ordZ (riseL n S)).Pairwise (· < ·) := by
  unfold ordZ riseL
  refine List.Pairwise.map _ (fun a b hab => ?_) (List.Pairwise.filter _ List.pairwise_lt_range)
  omega
theorem rise_mem {n : Nat} {S : List Int} {x : Int} : x ∈ ordZ (riseL n S) ↔ 0 ≤ x ∧ x < n ∧ x ∈ S := by
  rw [ordZ_mem]
  unfold riseL
  constructor
  · rintro ⟨i, hi, rfl⟩
    obtain ⟨h1, h2⟩ := List.mem_filter.1 hi
    exact ⟨by omega, by have := List.mem_range.1 h1; omega, of_decide_eq_true h2⟩
  · rintro ⟨h1, h2, h3⟩
    refine ⟨x.toNat, ?_, by omega⟩
    simp
    rw [show max x 0 = x by omega]
    exact ⟨by omega, h3⟩
/-- Lists without doubles, of the same members, rising. -/
theorem sort_rise {n : Nat} {S T : List Int} (h1 : S.Nodup) (h2 : ∀ x ∈ S, 0 ≤ x ∧ x < n) (h3 : ∀ x, x ∈ S ↔ x ∈ T) : sortZ S = ordZ (riseL n T) := by
  refine rise_ext _ _ (sortZ_rise h1) (rise_rise n T) fun x => ?_
  rw [sortZ_mem, rise_mem]
  exact ⟨fun h => ⟨(h2 x h).1, (h2 x h).2, (h3 x).1 h⟩, fun h => (h3 x).2 h.2.2⟩
/-- What is met by the plan of a graph that may be. -/
structure MetG (G : GraphD) (S L : List Int) : Prop where
  nd : (S ++ L).Nodup
  mem : ∀ x, x ∈ S ++ L ↔ ∃ i : Nat, Rch (envG G 1 1) G.rs i ∧ (i : Int) = x
  lt : ∀ x ∈ S ++ L, 0 ≤ x ∧ x < G.ns.length
theorem Rch.env {E F : PlE} {rs : List (Int × Int)} {i : Nat} (hi : Rch E rs i) (h : F.fs = E.fs) : Rch F rs i := by
  induction hi with
  | root h1 => exact .root h1
  | step _ h2 ih => exact .step ih (by rw [h]; exact h2)
theorem metG {G : GraphD} (oG : GOk G) {lim ord blk : Int} (hl : lim ≤ 9223372036854775807) (hb : blk ≤ 9223372036854775807) (he : planE G lim ord blk = 0) : MetG G (planS G lim ord blk) (planL G lim ord blk) := by
  unfold planS planL
  rw [if_pos he, if_pos he]
  unfold planE at he
  cases hR : rightG G with
  | false => rw [hR] at he; exact absurd he (by simp)
  | true =>
    rw [hR, if_pos rfl] at he
    cases hA : argB lim ord blk with
    | true => rw [hA] at he; exact absurd he (by decide)
    | false =>
      obtain ⟨a1, a2, a3, a4⟩ := argB_no hA
      have hRG := RchG.of oG.1 oG.2 hR ⟨a1, hl⟩ ⟨a2, hb⟩
      obtain ⟨h1, h2⟩ := plan_all hRG.env ord.toNat (roots := G.rs) (by rw [envG_n]; have := hRG.pg.roots; simpa using this)
      have e : ordZ (planD G lim ord blk).small ++ ordZ (planD G lim ord blk).large = ordZ ((planD G lim ord blk).small ++ (planD G lim ord blk).large) := by simp [ordZ]
      refine ⟨?_, ?_, ?_⟩
      · rw [e]; exact ordZ_nodup h1.nd
      · intro x
        rw [e, ordZ_mem]
        constructor
        · rintro ⟨i, hi, rfl⟩
          exact ⟨i, ((h2 i).1 hi).env (F := envG G 1 1) rfl, rfl⟩
        · rintro ⟨i, hi, rfl⟩
          exact ⟨i, (h2 i).2 (hi.env (F := envG G lim.toNat blk.toNat) rfl), rfl⟩
      · intro x hx
        rw [e, ordZ_mem] at hx
        obtain ⟨i, hi, rfl⟩ := hx
        have := h1.lt i hi
        rw [envG_n] at this
        omega
theorem envG_szall {G : GraphD} {lim blk : Nat} (h : RchG G lim blk) (i : Nat) : (envG G lim blk).sz i ≤ 9000 := by
  by_cases hi : i < G.ns.length
  · exact (h.sz i hi).1
  · have : (G.ns.map nodeV).getD i (0, [], []) = (0, [], []) := by
      rw [List.getD_eq_getElem?_getD, List.getElem?_eq_none (by simp; omega)]; rfl
    simp only [envG, envP, this]
    simp
/-- Both great limits plan alike; nothing is large. -/
theorem plan_great {G : GraphD} (oG : GOk G) (ord : Int) : planE G 1048576 ord 1 = planE G 1000000 ord 1 ∧ planS G 1048576 ord 1 = planS G 1000000 ord 1 ∧ planL G 1048576 ord 1 = [] := by
  have e1 : planE G 1048576 ord 1 = planE G 1000000 ord 1 := by unfold planE argB; rfl
  refine ⟨e1, ?_⟩
  by_cases he : planE G 1000000 ord 1 = 0
  · have he2 := e1.trans he
    unfold planS planL
    rw [if_pos he, if_pos he2, if_pos he2]
    unfold planE at he
    cases hR : rightG G with
    | false => rw [hR] at he; exact absurd he (by simp)
    | true =>
      rw [hR, if_pos rfl] at he
      have hRG := RchG.of oG.1 oG.2 hR (lim := 1048576) (blk := 1) ⟨by decide, by decide⟩ ⟨by decide, by decide⟩
      have hs := envG_szall hRG
      have hL : LimEq (envG G (1000000 : Int).toNat (1 : Int).toNat) (envG G (1048576 : Int).toNat (1 : Int).toNat) := ⟨rfl, rfl, rfl, rfl, fun i => by
        have := hs i
        have e : (envG G (1000000 : Int).toNat (1 : Int).toNat).sz i = (envG G (1048576 : Int).toNat (1 : Int).toNat).sz i := rfl
        rw [e]
        have e2 : (envG G (1000000 : Int).toNat (1 : Int).toNat).lim = 1000000 := rfl
        have e3 : (envG G (1048576 : Int).toNat (1 : Int).toNat).lim = 1048576 := rfl
        rw [e2, e3]
        omega⟩
      have e : planD G 1048576 ord 1 = planD G 1000000 ord 1 := hL.plan ord.toNat G.rs
      have e4 : (planD G 1048576 ord 1).large = [] := plan_noL (fun i => by
        have := hs i
        have e3 : (envG G (1048576 : Int).toNat (1 : Int).toNat).lim = 1048576 := rfl
        rw [e3]
        omega) ord.toNat G.rs
      exact ⟨by rw [e], by rw [e4]; rfl⟩
  · have he2 := fun c => he (e1.symm.trans c)
    unfold planS planL
    rw [if_neg he, if_neg he2, if_neg he2]
    exact ⟨rfl, rfl⟩
theorem planE_ord {G : GraphD} {lim o blk lim2 o2 blk2 : Int} (h : planE G lim o blk = 0) (h2 : argB lim2 o2 blk2 = false) : planE G lim2 o2 blk2 = 0 := by
  unfold planE at *
  split at h
  · rename_i hr
    rw [if_pos hr, h2]; rfl
  · exact absurd h (by decide)
/-- What Reach answers is what the document's answers. -/
theorem reach_rise {G : GraphD} (oG : GOk G) : sortZ (planS G 1048576 1 1) = ordZ (riseL G.ns.length (planS G 1000000 0 1)) := by
  by_cases he : planE G 1048576 1 1 = 0
  · have he2 : planE G 1048576 0 1 = 0 := planE_ord he (by decide)
    have h1 := metG oG (lim := 1048576) (ord := 1) (blk := 1) (by decide) (by decide) he
    have h2 := metG oG (lim := 1048576) (ord := 0) (blk := 1) (by decide) (by decide) he2
    obtain ⟨-, -, l1⟩ := plan_great oG 1
    obtain ⟨-, e2, l2⟩ := plan_great oG 0
    rw [l1] at h1
    rw [l2, e2] at h2
    obtain ⟨a1, a2, a3⟩ := h1
    obtain ⟨b1, b2, b3⟩ := h2
    rw [List.append_nil] at *
    exact sort_rise a1 a3 fun x => (a2 x).trans (b2 x).symm
  · have he2 : ¬ planE G 1000000 0 1 = 0 := fun c => he (planE_ord c (by decide))
    unfold planS
    rw [if_neg he, if_neg he2]
    simp [sortZ, riseL, ordZ]
/-- What any plan meets is what Reach answers. -/
theorem reach_of {G : GraphD} (oG : GOk G) {lim ord blk : Int} (hl : lim ≤ 9223372036854775807) (hb : blk ≤ 9223372036854775807) (he : planE G lim ord blk = 0) : sortZ (planS G 1048576 1 1) = ordZ (riseL G.ns.length (planS G lim ord blk ++ planL G lim ord blk)) := by
  have he2 : planE G 1048576 1 1 = 0 := planE_ord he (by decide)
  have h1 := metG oG (lim := 1048576) (ord := 1) (blk := 1) (by decide) (by decide) he2
  have h2 := metG oG hl hb he
  obtain ⟨-, -, l1⟩ := plan_great oG 1
  rw [l1] at h1
  obtain ⟨a1, a2, a3⟩ := h1
  rw [List.append_nil] at *
  exact sort_rise a1 a3 fun x => (a2 x).trans (h2.mem x).symm
/-- How often each node was met. -/
def cntZ (n : Nat) (M : List Int) : List Int := (List.range n).map fun (i : Nat) => if (i : Int) ∈ M then 1 else 0
theorem cntZ_len {n : Nat} {M : List Int} : (cntZ n M).length = n := by simp [cntZ]
theorem cntZ_nil {n : Nat} : cntZ n [] = List.replicate n 0 := by
  refine List.ext_getElem (by simp [cntZ]) fun i h1 h2 => ?_
  simp [cntZ]
theorem cntZ_get {n : Nat} {M : List Int} {i : Nat} (hi : i < n) : (cntZ n M).getD i 0 = if (i : Int) ∈ M then 1 else 0 := by
  simp [cntZ, hi]
theorem cntZ_step {n : Nat} {M : List Int} {i : Nat} (hi : i < n) : (cntZ n M).set i 1 = cntZ n (M ++ [(i : Int)]) := by
  refine List.ext_getElem (by simp [cntZ]) fun j h1 h2 => ?_
  rw [List.getElem_set]
  simp only [cntZ, List.getElem_map, List.getElem_range, List.mem_append, List.mem_singleton]
  by_cases he : i = j
  · subst he
    simp
  · rw [if_neg he]
    have : ¬ (j : Int) = i := by omega
    simp [this]
theorem take_snoc {l : List Int} {k : Nat} (h : k < l.length) : l.take (k + 1) = l.take k ++ [l.getD k 0] := by
  rw [List.take_add_one]
  simp [h]
/-- One more of what was met: it was not met ahead. -/
theorem cnt_next {n : Nat} {M : List Int} (hd : M.Nodup) (hlt : ∀ x ∈ M, 0 ≤ x ∧ x < n) {k : Nat} (hk : k < M.length) :
    ∃ m : Nat, M.getD k 0 = (m : Int) ∧ m < n ∧ (cntZ n (M.take k)).getD m 0 = 0 ∧ (cntZ n (M.take k)).set m 1 = cntZ n (M.take (k + 1)) := by
  obtain ⟨h1, h2⟩ := hlt _ (getD_mem (d := 0) hk)
  obtain ⟨m, hm⟩ := Int.eq_ofNat_of_zero_le h1
  refine ⟨m, hm, by omega, ?_, ?_⟩
  · rw [cntZ_get (by omega), if_neg]
    intro hin
    have h3 : (M.take k ++ [M.getD k 0]).Nodup := by rw [← take_snoc hk]; exact hd.sublist (List.take_sublist _ _)
    rw [List.nodup_append] at h3
    exact h3.2.2 _ hin _ (by rw [hm]; simp) rfl
  · rw [cntZ_step (by omega), take_snoc hk, hm]
/-- What is met is closed. -/
theorem MetG.closed {G : GraphD} {S L : List Int} (h : MetG G S L) (hR : rightG G = true) {i : Nat} (hi : i < G.ns.length) (hm : (i : Int) ∈ S ++ L) {v : Int × Int} (hv : v ∈ (G.ns.getD i default).fields) (hk : v.1 = 2) : v.2 ∈ S ++ L := by
  obtain ⟨j, hj, e⟩ := (h.mem _).1 hm
  have e2 : j = i := by omega
  subst e2
  have h1 : Rch (envG G 1 1) G.rs v.2.toNat := .step hj ⟨v, by rw [envG_fs _ hi]; exact hv, hk, rfl⟩
  have h2 : ((v.2.toNat : Nat) : Int) ∈ S ++ L := (h.mem _).2 ⟨_, h1, rfl⟩
  have h3 := okV_ref2 (((right_parts hR).1 _ (getD_mem (d := default) hi)).2 v hv) hk
  rwa [show ((v.2.toNat : Nat) : Int) = v.2 by omega] at h2
theorem MetG.root {G : GraphD} {S L : List Int} (h : MetG G S L) (hR : rightG G = true) {v : Int × Int} (hv : v ∈ G.rs) (hk : v.1 = 2) : v.2 ∈ S ++ L := by
  have h1 : Rch (envG G 1 1) G.rs v.2.toNat := .root ⟨v, hv, hk, rfl⟩
  have h2 : ((v.2.toNat : Nat) : Int) ∈ S ++ L := (h.mem _).2 ⟨_, h1, rfl⟩
  have h3 := okV_ref2 ((right_parts hR).2 v hv) hk
  rwa [show ((v.2.toNat : Nat) : Int) = v.2 by omega] at h2
end Go.Proofs.Ytphpppjfogpohaa

