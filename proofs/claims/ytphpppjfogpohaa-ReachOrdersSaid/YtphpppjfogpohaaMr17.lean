/- Merged by program (merge.py) out of: RchD, RchE, RchF, RchG, RchH, RchI. -/
import Derived.Handy
import Derived.Test.YtphpppjfogpohaaMr16
import Derived.Test.YtphpppjfogpohaaMr13
import Derived.Test.YtphpppjfogpohaaMr2
/- The reference's plan: look. -/
set_option linter.unusedSimpArgs false
set_option linter.unusedVariables false
namespace Go.Proofs.Ytphpppjfogpohaa
open Go.RowKit Go.Shelf
set_option maxRecDepth 100000
set_option maxHeartbeats 2000000
theorem fold_take {α β : Type} {f : α → β → α} {a : α} {l : List β} {k : Nat} {d : β} (hk : k < l.length) : (l.take (k + 1)).foldl f a = f ((l.take k).foldl f a) (l.getD k d) := by
  rw [List.take_add_one, List.getElem?_eq_getElem hk, Option.toList_some, List.foldl_append, getD_get hk]
  rfl
theorem meet_old {E : PlE} {p : PlD} {v : Int × Int} (h : newP E p v = false) : meetP E true p v = meetP E false p v := by
  unfold newP at h
  unfold meetP
  by_cases hf : p.fresh v = true
  · rw [if_pos hf, if_pos hf]
    rw [hf] at h
    simp at h
    rw [if_pos h, if_pos h]
  · rw [if_neg hf, if_neg hf]
theorem meet_look {E : PlE} {p : PlD} {v : Int × Int} (hl : p.lk.length = p.small.length) (h : newP E p v = true) : (meetP E false p v).looked p.small.length = meetP E true p v := by
  obtain ⟨h1, h2⟩ := newP_iff.1 h
  unfold meetP
  rw [if_pos h1, if_pos h1, if_neg (by omega), if_neg (by omega)]
  simp [PlD.addS, PlD.looked, ← hl]
theorem meet_small {E : PlE} {p : PlD} {v : Int × Int} {mk : Bool} (h : newP E p v = true) : p.small.length < (meetP E mk p v).small.length := by
  obtain ⟨h1, h2⟩ := newP_iff.1 h
  unfold meetP
  rw [if_pos h1, if_neg (by omega)]
  simp [PlD.addS]
section
variable {V0 : World} {G : GraphD} {lim blk b : Nat} {V : World}
theorem rlook_wide (p : PlD) (l : List (Int × Int)) (A : Option Addr) (cap : Nat) (h : RP V0 G lim blk b p V) (hV : GraphAt V0 G) (hl : SpansAt V0 A l) (hll : l.length ≤ 8796093022208) (hv : valsOk G.ns.length l) (ho : PlOk (envG G lim blk) p) (ht : TopOk p) (hG : RchG G lim blk) :
    Calls Try.prog 71 #[.pointer (some ⟨b, 0, none⟩), .slice A l.length cap, .bool false] V fun e w' => e = .returned (.tuple #[]) ∧ RP V0 G lim blk b (allP (envG G lim blk) false p l) w' := by
  have H := Lib.hid h
  have HVG := Lib.hid hV
  have HL := Lib.hid hl
  have HV := Lib.hid hv
  have HO := Lib.hid ho
  have HT := Lib.hid ht
  have HG := Lib.hid hG
  clear h hV hl hv ho ht hG
  go_enter Try.func71, Try.ntmps71
  go_wp2_with fail
  go_loopw [6] (fun i wr => ∃ k : Nat, k ≤ l.length ∧ i = .int .i64 k ∧ Hid (RP V0 G lim blk b (allP (envG G lim blk) false p (l.take k)) wr)) (fun i _ => l.length - (intOf i).toNat)
  case atStart => exact ⟨0, by omega, rfl, H⟩
  case round =>
    obtain ⟨k, hk, rfl, HR⟩ := hrel
    by_cases hlt : k < l.length
    rotate_left
    · rw [List.take_of_length_le (by omega)] at HR
      go_wp2_with fail
      go_returns
      exact ⟨rfl, HR.out⟩
    have hvk : valsOk G.ns.length (l.take k) := fun v hv => HV.out v (List.mem_of_mem_take hv)
    have HO2 := Lib.hid (PlOk.all (mk := false) (E := envG G lim blk) HO.out (by rw [envG_n]; exact hvk))
    have HT2 := Lib.hid (TopOk.all (mk := false) HG.out HT.out hvk)
    have HE : Hid (allP (envG G lim blk) false p (l.take (k + 1)) = meetP (envG G lim blk) false (allP (envG G lim blk) false p (l.take k)) (l.getD k (0, 0))) := Lib.hid (fold_take hlt)
    have HVK := Lib.hid (HV.out _ (getD_mem (d := (0, 0)) hlt))
    obtain ⟨lb, off, rfl, hc⟩ := HL.out.get (by omega)
    obtain ⟨e1, e2⟩ := spans_cell hc hlt
    have hxr := HR.out.ext
    have c1 := hxr.cell e1
    have c2 := hxr.cell e2
    obtain ⟨sA, sc, bA, bc, kA, kc, lA, lc, pA, pc, hq⟩ := HR.out
    have k1 := (cells_of hq.blk).1
    have ib0 : (0 : Int) ≤ (k : Int) := by omega
    have ib1 : (k : Int) < (l.length : Int) := by omega
    clear hc e1 e2 hxr hvk hq
    generalize l.getD k (0, 0) = v at *
    generalize allP (envG G lim blk) false p (l.take k) = q at *
    go_wp2_with fail
    refine (rmeet_any HR.out HVG.out v HVK.out HO2.out HT2.out HG.out).mono ?_
    rintro e w1 ⟨rfl, hr⟩
    rw [← HE.out] at hr
    have HR2 := Lib.hid hr
    clear hr HE HR HO2 HT2 k1 c1 c2
    generalize newP (envG G lim blk) q v = nb at *
    cases nb
    all_goals
      go_wp2_with fail
      go_roundw
      case rel => exact ⟨k + 1, by omega, by go_num, HR2⟩
      case measure => simp [intOf]; omega
theorem rlook_deep (hV : GraphAt V0 G) (hG : RchG G lim blk) : ∀ (f : Nat) (p : PlD) (l : List (Int × Int)) (A : Option Addr) (cap : Nat) (V : World), RP V0 G lim blk b p V → SpansAt V0 A l → l.length ≤ 8796093022208 → valsOk G.ns.length l → PlOk (envG G lim blk) p → TopOk p → G.ns.length < f + p.met →
    Calls Try.prog 71 #[.pointer (some ⟨b, 0, none⟩), .slice A l.length cap, .bool true] V fun e w' => e = .returned (.tuple #[]) ∧ RP V0 G lim blk b (deepP (envG G lim blk) true f p l) w' := by
  have HVG := Lib.hid hV
  have HG := Lib.hid hG
  clear hV hG
  intro f
  induction f with
  | zero =>
    intro p l A cap V h hl hll hv ho ht hf
    have := ho.met_le
    rw [envG_n] at this
    omega
  | succ f ih =>
  intro p l A cap V h hl hll hv ho ht hf
  have IH := Lib.hid ih
  have H := Lib.hid h
  have HL := Lib.hid hl
  have HV := Lib.hid hv
  have HO := Lib.hid ho
  have HT := Lib.hid ht
  have HF := Lib.hid hf
  clear h hl hv ho ht ih hf
  go_enter Try.func71, Try.ntmps71
  go_wp2_with fail
  go_loopw [6] (fun i wr => ∃ k : Nat, k ≤ l.length ∧ i = .int .i64 k ∧ Hid (RP V0 G lim blk b (deepP (envG G lim blk) true (f + 1) p (l.take k)) wr)) (fun i _ => l.length - (intOf i).toNat)
  case atStart => exact ⟨0, by omega, rfl, H⟩
  case round =>
    obtain ⟨k, hk, rfl, HR⟩ := hrel
    by_cases hlt : k < l.length
    rotate_left
    · rw [List.take_of_length_le (by omega)] at HR
      go_wp2_with fail
      go_returns
      exact ⟨rfl, HR.out⟩
    have hvk : valsOk G.ns.length (l.take k) := fun v hv => HV.out v (List.mem_of_mem_take hv)
    obtain ⟨ho2, hm2⟩ := PlOk.deep (mk := true) (E := envG G lim blk) HG.out.env (f + 1) p (l.take k) HO.out (by rw [envG_n]; exact hvk)
    have HO2 := Lib.hid ho2
    have HF2 : Hid (G.ns.length < f + 1 + (deepP (envG G lim blk) true (f + 1) p (l.take k)).met) := Lib.hid (by have := HF.out; omega)
    have HT2 := Lib.hid (TopOk.deep (mk := true) HG.out (f + 1) p _ HT.out hvk)
    have HE : Hid (deepP (envG G lim blk) true (f + 1) p (l.take (k + 1)) = oneP (envG G lim blk) true f (deepP (envG G lim blk) true (f + 1) p (l.take k)) (l.getD k (0, 0))) := Lib.hid (fold_take hlt)
    have HVK := Lib.hid (HV.out _ (getD_mem (d := (0, 0)) hlt))
    obtain ⟨lb, off, rfl, hc⟩ := HL.out.get (by omega)
    obtain ⟨e1, e2⟩ := spans_cell hc hlt
    have E1 := Lib.hid e1
    have E2 := Lib.hid e2
    have hxr := HR.out.ext
    have c1 := hxr.cell e1
    have c2 := hxr.cell e2
    obtain ⟨sA, sc, bA, bc, kA, kc, lA, lc, pA, pc, hq⟩ := HR.out
    have k1 := (cells_of hq.blk).1
    have ib0 : (0 : Int) ≤ (k : Int) := by omega
    have ib1 : (k : Int) < (l.length : Int) := by omega
    clear hc e1 e2 hxr hvk hq ho2 hm2
    generalize l.getD k (0, 0) = v at *
    generalize deepP (envG G lim blk) true (f + 1) p (l.take k) = q at *
    go_wp2_with fail
    refine (rmeet_any HR.out HVG.out v HVK.out HO2.out HT2.out HG.out).mono ?_
    rintro e w1 ⟨rfl, hr⟩
    cases hn : newP (envG G lim blk) q v with
    | false =>
      rw [← meet_old hn, show meetP (envG G lim blk) true q v = oneP (envG G lim blk) true f q v by rw [oneP, if_neg (by rw [hn]; decide)], ← HE.out] at hr
      have HR2 := Lib.hid hr
      clear hr HE HR HO2 HT2 k1 c1 c2 hn
      go_wp2_with fail
      go_roundw
      case rel => exact ⟨k + 1, by omega, by go_num, HR2⟩
      case measure => simp [intOf]; omega
    | true =>
      have HN := Lib.hid hn
      have hvn := new_lt (E := envG G lim blk) (by rw [envG_n]; exact HVK.out) hn
      have hx2 : v.1 = 2 := (PlD.fresh_iff.1 (newP_iff.1 hn).1).1
      obtain ⟨hx0, hx1⟩ := HVK.out hx2
      obtain ⟨x, hvx⟩ := Int.eq_ofNat_of_zero_le hx0
      rw [hvx] at c2
      have hxl : x < G.ns.length := by omega
      obtain ⟨nb, noff, hA, hcn⟩ := HVG.out.nodes.row.get (by omega)
      obtain ⟨d0, d1, d2⟩ := nodes_cell hcn hxl
      have hlen := meet_small (mk := false) hn
      obtain ⟨sA2, sc2, bA2, bc2, kA2, kc2, lA2, lc2, pA2, pc2, hq2⟩ := hr
      have hlk2 : (meetP (envG G lim blk) false q v).lk.length = (meetP (envG G lim blk) false q v).small.length := (HO2.out.meet fun e => by rw [envG_n]; have := HVK.out e; omega).ll
      have hne : (meetP (envG G lim blk) false q v).lk ≠ [] := fun e => by rw [e] at hlk2; simp at hlk2; omega
      obtain ⟨kg, rfl, hkg, hkl⟩ := own_some hq2.ok hne
      have HQ2 := Lib.hid hq2
      have HML := Lib.hid (meet_look HO2.out.ll hn)
      have HOM := Lib.hid (HO2.out.meet (mk := true) fun e => by rw [envG_n]; have := HVK.out e; omega)
      have HTM := Lib.hid (HT2.out.meet (mk := true) HG.out HVK.out)
      have HFM : Hid (G.ns.length < f + (meetP (envG G lim blk) true q v).met) := Lib.hid (by rw [new_met hn]; have := HF2.out; omega)
      have HFS : Hid ((envG G lim blk).fs x = (G.ns.getD x default).fields) := Lib.hid (envG_fs x hxl)
      have HNA := Lib.hid (HVG.out.nodes.each _ (getD_mem (d := default) hxl))
      have HNV : Hid (valsOk G.ns.length (G.ns.getD x default).fields) := Lib.hid (by
        have := HG.out.env x (by rw [envG_n]; exact hxl)
        rw [envG_n, HFS.out] at this
        exact this)
      have HNF := Lib.hid (HG.out.f _ (getD_mem (d := default) hxl))
      have HEQ : Hid (oneP (envG G lim blk) true f q v = deepP (envG G lim blk) true f (meetP (envG G lim blk) true q v) (G.ns.getD x default).fields) := Lib.hid (by
        rw [oneP, if_pos hn, show v.2.toNat = x by omega, HFS.out])
      have k2 := (cells_of hq2.blk).1
      obtain ⟨kcur, hkc⟩ := own_heap hq2.ok
      have fk := (cells_of hkc).2
      have ck := own_boolAt hq2.ok rfl (k := q.small.length) (by omega)
      have jb0 : (q.small.length : Int) < ((meetP (envG G lim blk) false q v).lk.length : Int) := by omega
      have jb1 : (0 : Int) ≤ (q.small.length : Int) := by omega
      have jx0 : (0 : Int) ≤ (x : Int) := by omega
      have jx1 : (x : Int) < (G.ns.length : Int) := by omega
      rw [hA] at k2
      have D0 := Lib.hid d0
      have D1 := Lib.hid d1
      have D2 := Lib.hid d2
      clear hq2 HR HO2 HT2 k1 c1 c2 hvn hx2 hx0 hx1 hxl hcn d0 d1 d2 hlen hlk2 hne hkg hkl hkc hn HVK HF2
      generalize G.ns.getD x default = y at *
      generalize meetP (envG G lim blk) false q v = q2 at *
      generalize hqs : q.small.length = qs at *
      clear hqs
      go_wp2_with fail
      have hq3 := HQ2.out.look rfl qs
      rw [HML.out] at hq3
      generalize w1.setCell ⟨kg, qs, none⟩ (.bool true) = W2 at *
      have HR3 : Hid (RP V0 G lim blk b (meetP (envG G lim blk) true q v) W2) := Lib.hid ⟨_, _, _, _, _, _, _, _, _, _, hq3⟩
      have hx3 := hq3.ext
      have l1 := (pers_blk hq3.blk).cells
      simp only [hA] at l1
      have l2 := pers_cell (hx3.cell E2.out)
      rw [hvx] at l2
      have l3 := pers_cell (hx3.cell D0.out)
      have l4 := pers_cell (hx3.cell D1.out)
      have l5 := pers_cell (hx3.cell D2.out)
      have hs0 : Ext W2 W2 := Ext.refl _
      clear k2 fk ck jb0 jb1 HQ2 hq3
      (refine wp_region_ext_tail (W := W2) 14 (by kernel_rfl) (by kernel_rfl) (by with_reducible assumption) ?_; simp only [List.take_succ_cons, List.take_zero, List.drop_succ_cons, List.drop_zero]; (repeat (go_big_quiet_step (fail))); refine wpQuiet_nil ?_; intro w1 hx)
      have HR4 := Lib.hid (HR3.out.grow hx)
      clear hx hs0 l1 l2 l3 l4 l5 HR3
      go_wp2_with fail
      refine (IH.out _ _ y.fA y.fcap _ HR4.out HNA.out.fields (by have := HNF.out; omega) HNV.out HOM.out HTM.out HFM.out).mono ?_
      rintro e w5 ⟨rfl, hr⟩
      rw [← HEQ.out, ← HE.out] at hr
      have HR5 := Lib.hid hr
      clear hr HR4
      go_wp2_with fail
      go_roundw
      case rel => exact ⟨k + 1, by omega, by go_num, HR5⟩
      case measure => simp [intOf]; omega
end
end Go.Proofs.Ytphpppjfogpohaa

/- The reference's plan: first; next. -/
set_option linter.unusedSimpArgs false
set_option linter.unusedVariables false
namespace Go.Proofs.Ytphpppjfogpohaa
open Go.RowKit Go.Shelf
set_option maxRecDepth 100000
set_option maxHeartbeats 2000000
def condP (p : PlD) (P : Nat → Bool) (i : Nat) : Bool := !p.lk.getD i true && P (p.begins.getD i 0)
theorem firstP_hit {p : PlD} {P : Nat → Bool} {k : Nat} (hk : k < p.small.length) (h : condP p P k = true) (hq : ∀ i, i < k → condP p P i = false) : firstP p P = some k := by
  unfold firstP
  rw [List.find?_eq_some_iff_getElem]
  refine ⟨h, k, by simpa using hk, by simp, fun j hj => ?_⟩
  have := hq j hj
  unfold condP at this
  rw [List.getElem_range, this]
  rfl
theorem firstP_miss {p : PlD} {P : Nat → Bool} (hq : ∀ i, i < p.small.length → condP p P i = false) : firstP p P = none := by
  unfold firstP
  rw [List.find?_eq_none]
  intro x hx
  have := hq x (List.mem_range.1 hx)
  unfold condP at this
  rw [this]
  decide
def optZ : Option Nat → Int
  | none => -1
  | some i => i
/-- Of a block, or of all. -/
def ofBlk (blk : Nat) : Option Nat → Nat → Bool
  | none, _ => true
  | some c, x => decide (x / blk = c)
section
variable {V0 : World} {G : GraphD} {lim blk b : Nat} {V : World} {p : PlD}
theorem rfirst_any (h : RP V0 G lim blk b p V) (ho : PlOk (envG G lim blk) p) (ht : TopOk p) (hG : RchG G lim blk) (c : Option Nat) :
    Calls Try.prog 86 #[.pointer (some ⟨b, 0, none⟩), .int .i64 (optZ c)] V fun e w' => e = .returned (.int .i64 (optZ (firstP p (ofBlk blk c)))) ∧ Ext V w' := by
  obtain ⟨sA, sc, bA, bc, kA, kc, lA, lc, pA, pc, hq⟩ := h
  have HQ : Pers V (fun w => RQ V0 G lim blk b sA sc bA bc kA kc lA lc pA pc p w) := fun w k => hq.grow k
  have hmet := ho.met_le
  have hn := hG.n
  rw [envG_n] at hmet
  unfold PlD.met at hmet
  have hsl : p.small.length ≤ 60 := by omega
  have HLL := Lib.hid ho.ll
  have HBL := Lib.hid ho.bl
  have hb1 : (1 : Int) ≤ (blk : Int) := by have := hG.bk.1; omega
  have HTP : Hid (∀ x ∈ p.begins, x ≤ 600000) := Lib.hid fun x hx => by have h1 := ht.2.2 x hx; have h2 := ht.1; omega
  clear hq hmet hn ho ht
  go_enter Try.func86, Try.ntmps86
  go_wp2_with fail
  go_loopw [5] (fun i wr => ∃ k : Nat, k ≤ p.small.length ∧ i = .int .i64 k ∧ Ext V wr ∧ Hid (∀ i, i < k → condP p (ofBlk blk c) i = false)) (fun i _ => p.small.length - (intOf i).toNat)
  case atStart => exact ⟨0, by omega, rfl, Ext.refl _, Lib.hid (by omega)⟩
  case round =>
    obtain ⟨k, hk, rfl, hxr, HC⟩ := hrel
    have hqr := HQ.at hxr
    have k1 := (cells_of hqr.blk).1
    by_cases hlt : k < p.small.length
    rotate_left
    · have HM := Lib.hid (firstP_miss (p := p) (P := ofBlk blk c) fun i hi => HC.out i (by omega))
      have dk : decide (k < p.small.length) = false := by simpa using hlt
      go_wp2_with fail
      go_ret
      exact ⟨ret_int (by rw [HM.out]; rfl), hxr⟩
    have dk : decide (k < p.small.length) = true := by simpa using hlt
    have HIT := Lib.hid (fun h => firstP_hit (p := p) (P := ofBlk blk c) hlt h HC.out)
    have HNX : Hid (condP p (ofBlk blk c) k = false → ∀ i, i < k + 1 → condP p (ofBlk blk c) i = false) := Lib.hid (fun h i hi => by
      rcases Nat.lt_or_ge i k with h' | h'
      · exact HC.out i h'
      · obtain rfl : i = k := by omega
        exact h)
    obtain ⟨kg, rfl, _, _⟩ := own_some hqr.ok (fun e => by have := HLL.out; rw [e] at this; simp at this; omega)
    obtain ⟨bg, rfl, _, _⟩ := own_some hqr.ob (fun e => by have := HBL.out; have e2 : p.begins.length = 0 := by rw [← ordZ_len, e]; rfl
                                                           omega)
    have ck := own_boolAt hqr.ok rfl (k := k) (by have := HLL.out; omega)
    have cb := own_intAt hqr.ob ordZ_len (k := k) (by have := HBL.out; omega)
    rw [ordZ_get (o := p.begins) (i := k) (by have := HBL.out; omega)] at cb
    have hcond : condP p (ofBlk blk c) k = (!p.lk.getD k false && ofBlk blk c (p.begins.getD k 0)) := by
      unfold condP
      rw [getD_get (l := p.lk) (i := k) (d := true) (by have := HLL.out; omega), getD_get (l := p.lk) (i := k) (d := false) (by have := HLL.out; omega)]
    have HCD := Lib.hid hcond
    have jb0 : (k : Int) < (p.lk.length : Int) := by have := HLL.out; omega
    have jb1 : (k : Int) < (p.begins.length : Int) := by have := HBL.out; omega
    have jb2 : (0 : Int) ≤ (k : Int) := by omega
    have hz1 : ((p.begins.getD k 0 : Nat) : Int) ≤ 9223372036854775807 := by have := HTP.out _ (getD_mem (l := p.begins) (d := 0) (k := k) (by have := HBL.out; omega)); omega
    have hz0 : (0 : Int) ≤ ((p.begins.getD k 0 : Nat) : Int) := by omega
    have l1 := (pers_blk hqr.blk).cells
    have l2 := pers_cell ck
    have l3 := pers_cell cb
    have hs0 : Ext wr wr := Ext.refl _
    have HLT := Lib.hid hlt
    clear hcond ck cb hqr HC hlt
    generalize p.begins.getD k 0 = z at *
    generalize p.lk.getD k false = kb at *
    cases kb with
    | true =>
      have HN := Lib.hid (HNX.out (by rw [HCD.out]; rfl))
      clear HNX HIT HCD
      go_wp2_with fail
      (refine wp_region_ext (W := wr) (by kernel_rfl) (by kernel_rfl) (by with_reducible assumption) ?_; (repeat (go_big_quiet_step (fail))); refine wpQuiet_nil ?_; intro w1 hx)
      go_wp2_with fail
      go_roundw
      case rel => exact ⟨k + 1, by have := HLT.out; omega, by go_num, hxr.trans hx, HN⟩
      case measure => have := HLT.out; simp [intOf]; omega
    | false =>
      cases c with
      | none =>
        have HI := Lib.hid (HIT.out (by rw [HCD.out]; rfl))
        clear HNX HIT HCD
        simp only [optZ]
        go_wp2_with fail
        (refine wp_region_ext (W := wr) (by kernel_rfl) (by kernel_rfl) (by with_reducible assumption) ?_; (repeat (go_big_quiet_step (fail))); refine wpQuiet_nil ?_; intro w1 hx)
        go_wp2_with fail
        go_ret
        exact ⟨ret_int (by rw [HI.out]; rfl), hxr.trans hx⟩
      | some c =>
        have dc : decide (((c : Nat) : Int) < 0) = false := by simp
        simp only [optZ]
        have hw : wrap64 ((z : Int) / (blk : Int)) = ((z / blk : Nat) : Int) := by
          have h2 := Nat.div_le_self z blk
          rw [show (z : Int) / (blk : Int) = ((z / blk : Nat) : Int) from rfl]
          generalize z / blk = q at *
          exact IntWalk.wrap64_in _ ⟨by omega, by omega⟩
        by_cases hz : z / blk = c
        · have HI := Lib.hid (HIT.out (by rw [HCD.out]; simp [ofBlk, hz]))
          have dz : (wrap64 ((z : Int) / (blk : Int)) == (c : Int)) = true := by rw [hw, beq_iff_eq, hz]
          clear HNX HIT HCD hz hw
          go_wp2_with fail
          (refine wp_region_ext (W := wr) (by kernel_rfl) (by kernel_rfl) (by with_reducible assumption) ?_; (repeat (go_big_quiet_step (fail))); refine wpQuiet_nil ?_; intro w1 hx)
          go_wp2_with fail
          go_ret
          exact ⟨ret_int (by rw [HI.out]; rfl), hxr.trans hx⟩
        · have HN := Lib.hid (HNX.out (by rw [HCD.out]; simp [ofBlk, hz]))
          have dz : (wrap64 ((z : Int) / (blk : Int)) == (c : Int)) = false := by rw [hw, beq_eq_false_iff_ne]; omega
          clear HNX HIT HCD hz hw
          go_wp2_with fail
          (refine wp_region_ext (W := wr) (by kernel_rfl) (by kernel_rfl) (by with_reducible assumption) ?_; (repeat (go_big_quiet_step (fail))); refine wpQuiet_nil ?_; intro w1 hx)
          go_wp2_with fail
          go_roundw
          case rel => exact ⟨k + 1, by have := HLT.out; omega, by go_num, hxr.trans hx, HN⟩
          case measure => have := HLT.out; simp [intOf]; omega
/-- The reference's next. -/
theorem rnext_any (h : RP V0 G lim blk b p V) (ho : PlOk (envG G lim blk) p) (ht : TopOk p) (hG : RchG G lim blk) (o : Nat) (hoo : o ≤ 2) :
    Calls Try.prog 72 #[.pointer (some ⟨b, 0, none⟩), .int .i64 o] V fun e w' => e = .returned (.int .i64 (optZ (nextP (envG G lim blk) o p))) ∧ Ext V w' := by
  obtain ⟨sA, sc, bA, bc, kA, kc, lA, lc, pA, pc, hq⟩ := h
  have HQ : Pers V (fun w => RQ V0 G lim blk b sA sc bA bc kA kc lA lc pA pc p w) := fun w k => hq.grow k
  have HF := Lib.hid (fun (c : Option Nat) w (hw : RQ V0 G lim blk b sA sc bA bc kA kc lA lc pA pc p w) => rfirst_any ⟨_, _, _, _, _, _, _, _, _, _, hw⟩ ho ht hG c)
  have k1 := (cells_of hq.blk).1
  by_cases h2 : o = 2
  rotate_left
  · have HN : Hid (nextP (envG G lim blk) o p = firstP p (ofBlk blk none)) := Lib.hid (by unfold nextP; rw [if_neg h2]; rfl)
    have d2 : ((o : Int) == 2) = false := by rw [beq_eq_false_iff_ne]; omega
    have Z : ∀ w, RQ V0 G lim blk b sA sc bA bc kA kc lA lc pA pc p w → Calls Try.prog 86 #[.pointer (some ⟨b, 0, none⟩), .int .i64 (-1)] w fun e w' => e = .returned (.int .i64 (optZ (firstP p (ofBlk blk none)))) ∧ Ext w w' := HF.out none
    have HZ := Lib.hid Z
    clear HF Z hq ho ht hG h2
    go_enter Try.func72, Try.ntmps72
    go_wp2_with fail
    refine (HZ.out _ HQ.here).mono ?_
    rintro e w1 ⟨rfl, hx⟩
    go_wp2_with fail
    go_ret
    exact ⟨ret_int (by rw [HN.out]), hx⟩
  subst h2
  by_cases hs : p.small = []
  · have hb : p.begins = [] := List.eq_nil_of_length_eq_zero (by rw [ho.bl, hs]; rfl)
    have HN : Hid (nextP (envG G lim blk) 2 p = firstP p (ofBlk blk none)) := Lib.hid (by
      unfold nextP
      rw [if_pos rfl]
      have : ∀ P, firstP p P = none := fun P => by unfold firstP; rw [hs]; rfl
      simp only [this])
    have Z : ∀ w, RQ V0 G lim blk b sA sc bA bc kA kc lA lc pA pc p w → Calls Try.prog 86 #[.pointer (some ⟨b, 0, none⟩), .int .i64 (-1)] w fun e w' => e = .returned (.int .i64 (optZ (firstP p (ofBlk blk none)))) ∧ Ext w w' := HF.out none
    have HZ := Lib.hid Z
    have d0 : p.small.length = 0 := by rw [hs]; rfl
    rw [d0] at k1
    clear HF Z hq ho ht hG hs hb d0
    go_enter Try.func72, Try.ntmps72
    go_wp2_with fail
    refine (HZ.out _ HQ.here).mono ?_
    rintro e w1 ⟨rfl, hx⟩
    go_wp2_with fail
    go_ret
    exact ⟨ret_int (by rw [HN.out]), hx⟩
  · have hbn : p.begins.length ≠ 0 := fun e => hs (List.eq_nil_of_length_eq_zero (by rw [← ho.bl, e]))
    obtain ⟨m, hm⟩ : ∃ m, p.begins.length = m + 1 := ⟨p.begins.length - 1, by omega⟩
    have hzb := ht.2.2 _ (getD_mem (l := p.begins) (d := 0) (k := m) (by omega))
    have hmet := ho.met_le
    have hn := hG.n
    rw [envG_n] at hmet
    unfold PlD.met at hmet
    have htop := ht.1
    have hbl := ho.bl
    have hz1 : ((p.begins.getD m 0 : Nat) : Int) ≤ 9223372036854775807 := by omega
    have hz0 : (0 : Int) ≤ ((p.begins.getD m 0 : Nat) : Int) := by omega
    have hb1 : (1 : Int) ≤ (blk : Int) := by have := hG.bk.1; omega
    obtain ⟨bg, rfl, _, _⟩ := own_some hq.ob (fun e => by have e2 : p.begins.length = 0 := by rw [← ordZ_len, e]; rfl
                                                          omega)
    have cb := own_intAt hq.ob ordZ_len (k := m) (by omega)
    rw [ordZ_get (o := p.begins) (i := m) (by omega)] at cb
    have hns : ∃ n, p.small.length = n + 1 := ⟨m, by omega⟩
    obtain ⟨n, hns⟩ := hns
    have hm60 : m ≤ 100 := by omega
    have HN : Hid (nextP (envG G lim blk) 2 p = match firstP p (ofBlk blk (some (p.begins.getD m 0 / blk))) with
      | some i => some i
      | none => firstP p (ofBlk blk none)) := Lib.hid (by
      unfold nextP
      rw [if_pos rfl, hm, Nat.add_sub_cancel]
      rfl)
    have hw : wrap64 ((p.begins.getD m 0 : Nat) / (blk : Int)) = ((p.begins.getD m 0 / blk : Nat) : Int) := by
      have h2 := Nat.div_le_self (p.begins.getD m 0) blk
      rw [show ((p.begins.getD m 0 : Nat) : Int) / (blk : Int) = ((p.begins.getD m 0 / blk : Nat) : Int) from rfl]
      generalize p.begins.getD m 0 / blk = q at *
      exact IntWalk.wrap64_in _ ⟨by omega, by omega⟩
    generalize p.begins.getD m 0 = z at *
    have HZ := Lib.hid (fun u : ExtOf V => HF.out (some (z / blk)) u.1 (HQ u.1 u.2))
    have HZ2 : Hid (∀ w, RQ V0 G lim blk b sA sc (some ⟨bg, 0, none⟩) bc kA kc lA lc pA pc p w → Calls Try.prog 86 #[.pointer (some ⟨b, 0, none⟩), .int .i64 (-1)] w fun e w' => e = .returned (.int .i64 (optZ (firstP p (ofBlk blk none)))) ∧ Ext w w') := Lib.hid (HF.out none)
    simp only [show optZ (some (z / blk)) = ((z / blk : Nat) : Int) from rfl, ← hw] at HZ
    generalize firstP p (ofBlk blk (some (z / blk))) = r1 at *
    have HW := Lib.hid hw
    have l1 := (pers_blk hq.blk).cells
    rw [hm, hns] at l1
    rw [hns, hm] at k1
    have l3 := pers_cell cb
    have hs0 : Ext V V := Ext.refl _
    have jm : wrap64 (((m + 1 : Nat) : Int) - 1) = (m : Int) := by unfold wrap64; omega
    have j0 : (0 : Int) ≤ (m : Int) := by omega
    have j1 : (m : Int) < ((m + 1 : Nat) : Int) := by omega
    clear HF hq ho ht hG hs hbn hzb hmet hn htop hbl cb hw hm hns
    cases r1 with
    | some i =>
      go_enter Try.func72, Try.ntmps72
      go_wp2_with fail
      (refine wp_region_ext (W := V) (by kernel_rfl) (by kernel_rfl) (by with_reducible assumption) ?_; (repeat (go_big_quiet_step (first | (go_at_call 86; with_reducible exact Calls.ext_of (HZ.out _))))); refine wpQuiet_nil ?_; intro w1 hx)
      go_wp2_with fail
      go_ret
      exact ⟨ret_int (by rw [HN.out]), hx⟩
    | none =>
      go_enter Try.func72, Try.ntmps72
      go_wp2_with fail
      (refine wp_region_ext (W := V) (by kernel_rfl) (by kernel_rfl) (by with_reducible assumption) ?_; (repeat (go_big_quiet_step (first | (go_at_call 86; with_reducible exact Calls.ext_of (HZ.out _))))); refine wpQuiet_nil ?_; intro w1 hx)
      go_wp2_with fail
      refine (HZ2.out _ (HQ.at hx)).mono ?_
      rintro e w2 ⟨rfl, hx2⟩
      go_wp2_with fail
      go_ret
      exact ⟨ret_int (by rw [HN.out]), hx.trans hx2⟩
end
end Go.Proofs.Ytphpppjfogpohaa

/- The reference's plan: Run. -/
set_option linter.unusedSimpArgs false
set_option linter.unusedVariables false
namespace Go.Proofs.Ytphpppjfogpohaa
open Go.RowKit Go.Shelf
set_option maxRecDepth 100000
set_option maxHeartbeats 2000000
theorem exists_least {P : Nat → Prop} (h : ∃ n, P n) : ∃ n, P n ∧ ∀ m, P m → n ≤ m := by
  obtain ⟨n, hn⟩ := h
  induction n using Nat.strongRecOn with
  | _ n ih =>
    by_cases hl : ∃ m, m < n ∧ P m
    · obtain ⟨m, hm, hp⟩ := hl
      exact ih m hm hp
    · exact ⟨n, hn, fun m hm => Nat.le_of_not_lt fun hlt => hl ⟨m, hlt, hm⟩⟩
/-- The least number of a kind; 0. -/
noncomputable def leastN (P : Nat → Prop) : Nat := open Classical in if h : ∃ n, P n then Classical.choose (exists_least h) else 0
theorem leastN_spec {P : Nat → Prop} (h : ∃ n, P n) : P (leastN P) ∧ ∀ m, P m → leastN P ≤ m := by
  unfold leastN
  rw [dif_pos h]
  exact Classical.choose_spec (exists_least h)
section
variable {V0 : World} {G : GraphD} {lim blk b : Nat} {V : World} {p : PlD} {o : Nat}
theorem TopOk.look (hG : RchG G lim blk) (h : TopOk p) {l : List (Int × Int)} (hl : valsOk G.ns.length l) : TopOk (lookP (envG G lim blk) o p l) := by
  unfold lookP
  split
  · exact TopOk.deep hG _ _ _ h hl
  · exact h.all hG hl
theorem rlook_any (h : RP V0 G lim blk b p V) (hV : GraphAt V0 G) (hG : RchG G lim blk) (o : Nat) (l : List (Int × Int)) (A : Option Addr) (cap : Nat) (hl : SpansAt V0 A l) (hll : l.length ≤ 8796093022208) (hv : valsOk G.ns.length l) (ho : PlOk (envG G lim blk) p) (ht : TopOk p) :
    Calls Try.prog 71 #[.pointer (some ⟨b, 0, none⟩), .slice A l.length cap, .bool (decide (o = 1))] V fun e w' => e = .returned (.tuple #[]) ∧ RP V0 G lim blk b (lookP (envG G lim blk) o p l) w' := by
  unfold lookP
  by_cases h1 : o = 1
  · rw [decide_eq_true h1, if_pos h1]
    exact rlook_deep hV hG _ p l A cap V h hl hll hv ho ht (by rw [envG_n]; omega)
  · rw [decide_eq_false h1, if_neg h1]
    exact rlook_wide p l A cap h hV hl hll hv ho ht hG
/-- What a run's loop keeps, with so many rounds left. -/
def RunI (V0 : World) (G : GraphD) (lim blk b o : Nat) (R : PlD) (f : Nat) (w : World) : Prop :=
  ∃ p, RP V0 G lim blk b p w ∧ PlInv (envG G lim blk) G.rs p ∧ TopOk p ∧ leftP (envG G lim blk) p < f ∧ runP (envG G lim blk) o f p = R
theorem RP.new (hlo : V0.heap.size ≤ b) (hx : Ext V0 V) (hb : V.heap[b]? = some (.cells #[.slice G.nA G.ns.length G.ncap, .slice G.rA G.rs.length G.rcap, .int .i64 lim, .int .i64 blk, .slice none 0 0, .slice none 0 0, .slice none 0 0, .slice none 0 0, .slice none 0 0, .int .i64 0] 83 (0, 0))) : RP V0 G lim blk b PlD.new V :=
  ⟨none, 0, none, 0, none, 0, none, 0, none, 0, hb, Own.nil _ _ _ _ _, Own.nil _ _ _ _ _, Own.nil _ _ _ _ _, Own.nil _ _ _ _ _, Own.nil _ _ _ _ _, (by
    intro i j x y g hi hj hij hx hy
    have : ∀ z ∈ [Value.slice none 0 0, Value.slice none 0 0, Value.slice none 0 0, Value.slice none 0 0, Value.slice none 0 0], z.ownBlock = none := by simp [Value.ownBlock]
    have := this x (List.mem_of_getElem? hi)
    rw [this] at hx
    cases hx), hx, hlo⟩
theorem rrun_any (hV : GraphAt V G) (hG : RchG G lim blk) (hoo : o ≤ 2) :
    Calls Try.prog 48 #[.agg #[.slice G.nA G.ns.length G.ncap, .slice G.rA G.rs.length G.rcap], .int .i64 lim, .int .i64 o, .int .i64 blk] V fun e w' => ∃ V0 b, e = .returned (.pointer (some ⟨b, 0, none⟩)) ∧ Ext V V0 ∧ RP V0 G lim blk b (planP (envG G lim blk) o G.rs) w' := by
  have hx0 := (Ext.refl V).alloc (.cells #[.slice G.nA G.ns.length G.ncap, .slice G.rA G.rs.length G.rcap] 25)
  have hBx := pers_new V #[.slice G.nA G.ns.length G.ncap, .slice G.rA G.rs.length G.rcap] 25 _ rfl
  have HX := Lib.hid hx0
  have HVG := Lib.hid (hV.ext hx0)
  have HG := Lib.hid hG
  have HNV := Lib.hid (new_inv (o := o) (roots := G.rs) hG.env (by rw [envG_n]; have := hG.pg.roots; simpa using this))
  have HT := Lib.hid (TopOk.look (o := o) (p := PlD.new) hG ⟨by simp [PlD.new], by simp [PlD.new], by simp [PlD.new]⟩ (l := G.rs) (by have := hG.pg.roots; simpa using this))
  have HRL : Hid (G.rs.length ≤ 8796093022208) := Lib.hid (by have := hG.r; omega)
  have HVR : Hid (valsOk G.ns.length G.rs) := Lib.hid (by have := hG.pg.roots; simpa using this)
  have d1 : ((o : Int) == 1) = decide (o = 1) := by
    by_cases h : o = 1
    · subst h; rfl
    · rw [decide_eq_false h, beq_eq_false_iff_ne]; omega
  clear hx0 hV hG
  have kB := (cells_of hBx.here).1
  go_enter Try.func48, Try.ntmps48
  go_wp2_with fail
  generalize hW0 : V.alloc (.cells #[.slice G.nA G.ns.length G.ncap, .slice G.rA G.rs.length G.rcap] 25) = W0 at *
  have hsz : W0.heap.size = V.heap.size + 1 := by rw [← hW0]; simp
  have hN := RP.new (G := G) (lim := lim) (blk := blk) (b := V.heap.size + 1) (V0 := W0) (by omega) ((Ext.refl W0).alloc (.cells #[.slice G.nA G.ns.length G.ncap, .slice G.rA G.rs.length G.rcap, .int .i64 lim, .int .i64 blk, .slice none 0 0, .slice none 0 0, .slice none 0 0, .slice none 0 0, .slice none 0 0, .int .i64 0] 83)) (blk_new W0 _ _ _ hsz)
  have HBN : Hid (∀ g, g < W0.heap.size → g ≠ V.heap.size + 1) := Lib.hid (fun g hg => by omega)
  have HVB : Hid (V.heap.size < W0.heap.size) := Lib.hid (by omega)
  clear hW0 hsz
  generalize V.heap.size + 1 = b at *
  refine (rlook_any hN HVG.out HG.out o G.rs G.rA G.rcap HVG.out.roots HRL.out HVR.out PlOk.new ⟨by simp [PlD.new], by simp [PlD.new], by simp [PlD.new]⟩).mono ?_
  rintro e w1 ⟨rfl, hr⟩
  have HR := Lib.hid hr
  clear hr hN kB
  go_wp2_with fail
  have HI : Hid (∃ f, RunI W0 G lim blk b o (planP (envG G lim blk) o G.rs) f w1) := Lib.hid ⟨_, _, HR.out, HNV.out.1, HT.out, HNV.out.2, rfl⟩
  clear HR HNV HT
  generalize hPR : planP (envG G lim blk) o G.rs = R at *
  have HPR := Lib.hid hPR
  clear hPR
  go_loopw [] (fun wr => ∃ f, Hid (RunI W0 G lim blk b o R f wr)) (fun wr => leastN (fun f => RunI W0 G lim blk b o R f wr))
  case atStart => obtain ⟨f, hf⟩ := HI.out; exact ⟨f, Lib.hid hf⟩
  case round =>
    obtain ⟨f0, hf0⟩ := hrel
    obtain ⟨hI, hmin⟩ := leastN_spec (P := fun f => RunI W0 G lim blk b o R f wr) ⟨f0, hf0.out⟩
    have HLS : Hid (∀ (w' : World) (g : Nat), RunI W0 G lim blk b o R g w' → g < leastN (fun f => RunI W0 G lim blk b o R f wr) → leastN (fun f => RunI W0 G lim blk b o R f w') < leastN (fun f => RunI W0 G lim blk b o R f wr)) := Lib.hid (fun w' g hg hlt => Nat.lt_of_le_of_lt ((leastN_spec (P := fun f => RunI W0 G lim blk b o R f w') ⟨g, hg⟩).2 g hg) hlt)
    generalize leastN (fun f => RunI W0 G lim blk b o R f wr) = f at *
    obtain ⟨p, hp, hi, ht, hlf, hrun⟩ := hI
    obtain ⟨g, rfl⟩ : ∃ g, f = g + 1 := ⟨f - 1, by omega⟩
    rw [runP] at hrun
    have HP := Lib.hid hp
    have HPI := Lib.hid hi
    have HPT := Lib.hid ht
    have HLF := Lib.hid hlf
    have HRUN := Lib.hid hrun
    have HX1 := Lib.hid hp.ext
    clear hp hi ht hlf hrun hf0 hmin
    go_wp2_with fail
    refine (rnext_any HP.out HPI.out.ok HPT.out HG.out o hoo).mono ?_
    rintro e w2 ⟨rfl, hx2⟩
    replace HP := Lib.hid (HP.out.grow hx2)
    clear hx2
    cases hnx : nextP (envG G lim blk) o p with
    | some i =>
      obtain ⟨hi1, hi2⟩ := nextP_some hnx
      have hst : stepP (envG G lim blk) o p = some (lookP (envG G lim blk) o (p.looked i) ((envG G lim blk).fs (p.small.getD i 0))) := by unfold stepP; rw [hnx]
      have HRUN2 := HRUN.out
      rw [hst] at HRUN2
      simp only at HRUN2
      obtain ⟨hq1, hq2⟩ := step_inv HG.out.env HPI.out hst
      have hmem : p.small.getD i 0 ∈ p.small := getD_mem hi1
      have hxl : p.small.getD i 0 < G.ns.length := by
        have := HPI.out.ok.lt _ (List.mem_append_left _ hmem)
        rwa [envG_n] at this
      have HFS := Lib.hid (envG_fs (lim := lim) (blk := blk) _ hxl)
      rw [HFS.out] at HRUN2 hq1 hq2
      have HNV2 : Hid (valsOk G.ns.length (G.ns.getD (p.small.getD i 0) default).fields) := Lib.hid (by
        have := HG.out.env _ (by rw [envG_n]; exact hxl)
        rw [envG_n, HFS.out] at this
        exact this)
      have HQ1 := Lib.hid hq1
      have HQ2 := Lib.hid hq2
      have HR2 := Lib.hid HRUN2
      have HNF := Lib.hid (HG.out.f _ (getD_mem (d := default) hxl))
      have HNA := Lib.hid (HVG.out.nodes.each _ (getD_mem (d := default) hxl))
      have HPT2 : Hid (TopOk (p.looked i)) := Lib.hid HPT.out
      have HOK2 := Lib.hid (HPI.out.ok.lookd i)
      have HQT := Lib.hid (TopOk.look (o := o) HG.out HPT2.out HNV2.out)
      have HLE : Hid (leftP (envG G lim blk) (lookP (envG G lim blk) o (p.looked i) (G.ns.getD (p.small.getD i 0) default).fields) < g) := Lib.hid (by have := HLF.out; omega)
      obtain ⟨nb, noff, hA, hcn⟩ := HVG.out.nodes.row.get (by omega)
      obtain ⟨d0, d1', d2⟩ := nodes_cell hcn hxl
      obtain ⟨sA, sc, bA, bc, kA, kc, lA, lc, pA, pc, hq⟩ := HP.out
      have hll := HPI.out.ok.ll
      obtain ⟨kg, rfl, _, _⟩ := own_some hq.ok (fun e => by rw [e] at hll; simp at hll; omega)
      obtain ⟨sg, rfl, _, _⟩ := own_some hq.os (fun e => by have e2 : p.small.length = 0 := by rw [← ordZ_len, e]; rfl
                                                            omega)
      have k2 := (cells_of hq.blk).1
      obtain ⟨kcur, hkc⟩ := own_heap hq.ok
      have fk := (cells_of hkc).2
      have ck := own_boolAt hq.ok rfl (k := i) (by omega)
      have jb0 : (i : Int) < (p.lk.length : Int) := by omega
      have jb1 : (0 : Int) ≤ (i : Int) := by omega
      have hq3 := hq.look rfl i
      have HQ3 := Lib.hid hq3
      have cs := own_intAt hq3.os ordZ_len (k := i) hi1
      rw [show (p.looked i).small = p.small from rfl, ordZ_get (o := p.small) (i := i) hi1] at cs
      have CS := Lib.hid cs
      have js0 : (i : Int) < (p.small.length : Int) := by omega
      have D1 := Lib.hid d1'
      have jx0 : (0 : Int) ≤ ((p.small.getD i 0 : Nat) : Int) := by omega
      have jx1 : ((p.small.getD i 0 : Nat) : Int) < (G.ns.length : Int) := by omega
      have HAA := Lib.hid hA
      have D0 := Lib.hid d0
      have D2 := Lib.hid d2
      clear hA hi1 hi2 hst HRUN2 hq1 hq2 hmem hxl hcn d0 d1' d2 hq hll hkc hq3 cs HRUN HPI HPT HLF HP hnx
      generalize p.small.getD i 0 = x at *
      generalize G.ns.getD x default = y at *
      simp only [optZ]
      go_wp2_with fail
      generalize w2.setCell ⟨kg, i, none⟩ (.bool true) = W3 at *
      have hx3 := HQ3.out.ext
      have HRP : Hid (RP W0 G lim blk b (p.looked i) W3) := Lib.hid ⟨_, _, _, _, _, _, _, _, _, _, HQ3.out⟩
      have l1 := (pers_blk HQ3.out.blk).cells
      simp only [PlD.looked] at l1
      have l2 := pers_cell CS.out
      have l3 := pers_cell (hx3.cell D1.out)
      have l4 := (hBx.re hx3).cells
      simp only [HAA.out] at l4
      have l5 := pers_cell (hx3.cell D0.out)
      have l6 := pers_cell (hx3.cell D2.out)
      have hs0 : Ext W3 W3 := Ext.refl _
      clear k2 fk ck jb0 HQ3
      (refine wp_region_ext_tail (W := W3) 15 (by kernel_rfl) (by kernel_rfl) (by with_reducible assumption) ?_; simp only [List.take_succ_cons, List.take_zero, List.drop_succ_cons, List.drop_zero]; (repeat (go_big_quiet_step (fail))); refine wpQuiet_nil ?_; intro w1 hx)
      replace HRP := Lib.hid (HRP.out.grow hx)
      clear hx hs0 l1 l2 l3 l4 l5 l6 CS
      go_wp2_with fail
      refine (rlook_any HRP.out HVG.out HG.out o y.fields y.fA y.fcap HNA.out.fields (by have := HNF.out; omega) HNV2.out HOK2.out HPT2.out).mono ?_
      rintro e w5 ⟨rfl, hr⟩
      have HRI : Hid (RunI W0 G lim blk b o R g w5) := Lib.hid ⟨_, hr, HQ1.out, HQT.out, HLE.out, HR2.out⟩
      have HLN := Lib.hid (HLS.out w5 g HRI.out (by omega))
      clear hr HRP
      go_wp2_with fail
      go_roundw
      case rel => exact ⟨g, HRI⟩
      case measure => exact HLN.out
    | none =>
      simp only [optZ]
      obtain ⟨sA, sc, bA, bc, kA, kc, lA, lc, pA, pc, hq⟩ := HP.out
      have k2 := (cells_of hq.blk).1
      cases hpl : p.pile.getLast? with
      | none =>
        have hst : stepP (envG G lim blk) o p = none := by unfold stepP; rw [hnx, hpl]
        have HRUN2 := HRUN.out
        rw [hst] at HRUN2
        simp only at HRUN2
        have HRE := Lib.hid HRUN2
        have h0 : p.pile.length = 0 := by rw [List.getLast?_eq_none_iff.1 hpl]; rfl
        rw [h0] at k2
        clear HRUN2 hst h0 hpl hnx hq HRUN
        go_wp2_with fail
        go_ret
        refine ⟨W0, b, rfl, HX.out, ?_⟩
        rw [HPR.out, ← HRE.out]
        exact HP.out
      | some x =>
        have hpe := getLast?_some hpl
        have hst : stepP (envG G lim blk) o p = some (lookP (envG G lim blk) o p.popped ((envG G lim blk).fs x)) := by unfold stepP; rw [hnx, hpl]
        have HRUN2 := HRUN.out
        rw [hst] at HRUN2
        simp only at HRUN2
        obtain ⟨hq1, hq2⟩ := step_inv HG.out.env HPI.out hst
        have hmem : x ∈ p.large := HPI.out.ok.pl x (by rw [hpe]; simp)
        have hxl : x < G.ns.length := by
          have := HPI.out.ok.lt _ (List.mem_append_right _ hmem)
          rwa [envG_n] at this
        have HFS := Lib.hid (envG_fs (lim := lim) (blk := blk) _ hxl)
        rw [HFS.out] at HRUN2 hq1 hq2
        have HNV2 : Hid (valsOk G.ns.length (G.ns.getD x default).fields) := Lib.hid (by
          have := HG.out.env _ (by rw [envG_n]; exact hxl)
          rw [envG_n, HFS.out] at this
          exact this)
        have HQ1 := Lib.hid hq1
        have HR2 := Lib.hid HRUN2
        have HNF := Lib.hid (HG.out.f _ (getD_mem (d := default) hxl))
        have HNA := Lib.hid (HVG.out.nodes.each _ (getD_mem (d := default) hxl))
        have HPT2 : Hid (TopOk p.popped) := Lib.hid ⟨HPT.out.1, by have := HPT.out.2.1; simp only [PlD.popped, List.length_dropLast]; omega, HPT.out.2.2⟩
        have HOK2 := Lib.hid HPI.out.ok.popd
        have HQT := Lib.hid (TopOk.look (o := o) HG.out HPT2.out HNV2.out)
        have HLE : Hid (leftP (envG G lim blk) (lookP (envG G lim blk) o p.popped (G.ns.getD x default).fields) < g) := Lib.hid (by have := HLF.out; omega)
        obtain ⟨nb, noff, hA, hcn⟩ := HVG.out.nodes.row.get (by omega)
        obtain ⟨d0, d1', d2⟩ := nodes_cell hcn hxl
        have hpn : p.pile.length = p.pile.dropLast.length + 1 := by rw [hpe]; simp
        obtain ⟨m, hm⟩ : ∃ m, p.pile.dropLast.length = m := ⟨_, rfl⟩
        rw [hm] at hpn
        have hmet := HPI.out.ok.met_le
        have hn := HG.out.n
        rw [envG_n] at hmet
        unfold PlD.met at hmet
        have hplm : m ≤ 60 := by have := HPT.out.2.1; omega
        obtain ⟨pg, rfl, _, _⟩ := own_some hq.op (fun e => by have e2 : p.pile.length = 0 := by rw [← ordZ_len, e]; rfl
                                                              omega)
        have cp := own_intAt hq.op ordZ_len (k := m) (by omega)
        rw [ordZ_get (o := p.pile) (i := m) (by omega), show p.pile.getD m 0 = x by rw [hpe, ← hm]; simp] at cp
        obtain ⟨hcap, hcm⟩ := own_cap hq.op ordZ_len
        have hot := own_take hq.op intCells ordZ_len m (by omega)
        rw [show (ordZ p.pile).take m = ordZ p.pile.dropLast by rw [← hm, List.dropLast_eq_take]; simp [ordZ, List.map_take]] at hot
        have HQ3 := Lib.hid (hq.turn_p hm hot (World.grownBy.refl _ _) (.inl rfl))
        rw [hpn] at k2 hcap
        have jw : wrap64 (((m + 1 : Nat) : Int) - 1) = (m : Int) := by unfold wrap64; omega
        have jb0 : (0 : Int) ≤ (m : Int) := by omega
        have jb1 : (m : Int) < ((m + 1 : Nat) : Int) := by omega
        have jb2 : (m : Int) ≤ (pc : Int) := by omega
        have fb := (cells_of hq.blk).2
        have hx2 := hq.ext
        have m4 := (cells_of (hBx.re hx2).here).1
        have m5 := hx2.cell d1'
        have m6 := HBN.out _ HVB.out
        have m7 := HBN.out _ (cell_lt d1')
        have jx0 : (0 : Int) ≤ (x : Int) := by omega
        have jx1 : (x : Int) < (G.ns.length : Int) := by omega
        rw [hA] at m4
        clear hx2
        clear hA hpe hst HRUN2 hq1 hq2 hmem hxl hcn d0 d1' d2 hot hn hmet hq HRUN HPI HPT HLF HP hnx hpl hm hpn
        generalize G.ns.getD x default = y at *
        go_wp2_with fail
        generalize w2.setCell ⟨b, 8, none⟩ (.slice (some ⟨pg, 0, none⟩) m pc) = W3 at *
        have hx3 := HQ3.out.ext
        have HRP : Hid (RP W0 G lim blk b p.popped W3) := Lib.hid ⟨_, _, _, _, _, _, _, _, _, _, HQ3.out⟩
        clear k2 fb cp jb0 jb1 jb2 jw hcap hcm HQ3 m4 m5 m6 m7 hx3
        refine (rlook_any HRP.out HVG.out HG.out o y.fields y.fA y.fcap HNA.out.fields (by have := HNF.out; omega) HNV2.out HOK2.out HPT2.out).mono ?_
        rintro e w5 ⟨rfl, hr⟩
        have HRI : Hid (RunI W0 G lim blk b o R g w5) := Lib.hid ⟨_, hr, HQ1.out, HQT.out, HLE.out, HR2.out⟩
        have HLN := Lib.hid (HLS.out w5 g HRI.out (by omega))
        clear hr HRP
        go_wp2_with fail
        go_roundw
        case rel => exact ⟨g, HRI⟩
        case measure => exact HLN.out
end
end Go.Proofs.Ytphpppjfogpohaa

/- The reference's Plan, Flat, Live. -/
set_option linter.unusedSimpArgs false
set_option linter.unusedVariables false
namespace Go.Proofs.Ytphpppjfogpohaa
open Go.RowKit Go.Shelf
set_option maxRecDepth 100000
set_option maxHeartbeats 2000000
/-- What a plan comes to: the error, what is small, what is large. -/
def argB (lim ord blk : Int) : Bool := decide (lim < 1) || decide (blk < 1) || decide (ord < 0) || decide (2 < ord)
def planE (G : GraphD) (lim ord blk : Int) : Int := if rightG G then (if argB lim ord blk then 1 else 0) else 4
def planD (G : GraphD) (lim ord blk : Int) : PlD := planP (envG G lim.toNat blk.toNat) ord.toNat G.rs
def planS (G : GraphD) (lim ord blk : Int) : List Int := if planE G lim ord blk = 0 then ordZ (planD G lim ord blk).small else []
def planL (G : GraphD) (lim ord blk : Int) : List Int := if planE G lim ord blk = 0 then ordZ (planD G lim ord blk).large else []
theorem RchG.of {G : GraphD} {lim blk : Int} (oG : GraphOk G) (hl : largeG G = false) (hR : rightG G = true) (h1 : 1 ≤ lim ∧ lim ≤ 9223372036854775807) (h2 : 1 ≤ blk ∧ blk ≤ 9223372036854775807) : RchG G lim.toNat blk.toNat := by
  have hl2 : ¬ (60 < G.ns.length ∨ 100 < G.rs.length ∨ 9000 < bulk G.ns) := by simpa [largeG] using hl
  obtain ⟨r1, r2⟩ := right_parts hR
  refine ⟨oG, by omega, by omega, fun x hx => ?_, ⟨fun x hx => ?_, fun v hv e => ?_⟩, by omega, by omega⟩
  · have := (r1 x hx).1
    simp [okN] at this
    omega
  · obtain ⟨y, hy, rfl⟩ := List.mem_map.1 hx
    intro v hv e
    have := okV_ref2 ((r1 y hy).2 v hv) e
    simpa using this
  · have := okV_ref2 (r2 v hv) e
    simpa using this
/-- Two lists of numbers, and an error, come back. -/
def RetPl (V : World) (S L : List Int) (c : Int) (e : Ending) (w' : World) : Prop :=
  ∃ A1 c1 A2 c2, e = .returned (.tuple #[.slice A1 S.length c1, .slice A2 L.length c2, .int .i64 c]) ∧ Own 3 1 intC w' V.heap.size (.slice A1 S.length c1) S ∧ Own 3 1 intC w' V.heap.size (.slice A2 L.length c2) L ∧
    ((Value.slice A1 S.length c1).ownBlock = none ∨ (Value.slice A1 S.length c1).ownBlock ≠ (Value.slice A2 L.length c2).ownBlock) ∧ Ext V w'
def GOk (G : GraphD) : Prop := GraphOk G ∧ largeG G = false
theorem GOk.bd {G : GraphD} (h : GOk G) : G.ns.length ≤ 9223372036854775807 ∧ G.rs.length ≤ 9223372036854775807 ∧ ∀ x ∈ G.ns, x.fields.length ≤ 9223372036854775807 := by
  refine ⟨by have := h.1.nl; omega, by have := h.1.rl; omega, fun x hx => by have := (h.1.each x hx).fl; omega⟩
theorem grefright_is (G : GraphD) (b : Bool) (hb : rightG G = b) (V : World) (hG : GraphAt V G) (oG : GOk G) : Calls Try.prog 34 #[.agg #[.slice G.nA G.ns.length G.ncap, .slice G.rA G.rs.length G.rcap]] V fun e w' => e = .returned (.bool b) ∧ Ext V w' := by
  subst hb
  exact grefright_any G V hG oG.bd.1 oG.bd.2.1 oG.bd.2.2
theorem argB_no {lim ord blk : Int} (h : argB lim ord blk = false) : 1 ≤ lim ∧ 1 ≤ blk ∧ 0 ≤ ord ∧ ord ≤ 2 := by
  simp [argB] at h
  omega
theorem argB_yes {lim ord blk : Int} (h : argB lim ord blk = true) : lim < 1 ∨ (1 ≤ lim ∧ blk < 1) ∨ (1 ≤ lim ∧ 1 ≤ blk ∧ ord < 0) ∨ (1 ≤ lim ∧ 1 ≤ blk ∧ 0 ≤ ord ∧ 2 < ord) := by
  simp [argB] at h
  omega
theorem retPl_none {V w : World} {S L : List Int} {c : Int} (hS : S = []) (hL : L = []) (hx : Ext V w) : RetPl V S L c (.returned (.tuple #[.slice none 0 0, .slice none 0 0, .int .i64 c])) w := by
  subst hS hL
  exact ⟨none, 0, none, 0, rfl, Own.nil _ _ _ _ _, Own.nil _ _ _ _ _, .inl rfl, hx⟩
theorem refplan_any (G : GraphD) (lim ord blk : Int) (V : World) (hG : GraphAt V G) (oG : GOk G) (hl : -9223372036854775808 ≤ lim ∧ lim ≤ 9223372036854775807) (hb : -9223372036854775808 ≤ blk ∧ blk ≤ 9223372036854775807) :
    Calls Try.prog 22 #[.agg #[.slice G.nA G.ns.length G.ncap, .slice G.rA G.rs.length G.rcap], .int .i64 lim, .int .i64 ord, .int .i64 blk] V (RetPl V (planS G lim ord blk) (planL G lim ord blk) (planE G lim ord blk)) := by
  have hx0 := (Ext.refl V).alloc (.cells #[.slice G.nA G.ns.length G.ncap, .slice G.rA G.rs.length G.rcap] 25)
  have hBx := pers_new V #[.slice G.nA G.ns.length G.ncap, .slice G.rA G.rs.length G.rcap] 25 _ rfl
  have HX := Lib.hid hx0
  have HVG := Lib.hid (hG.ext hx0)
  have kB := (cells_of hBx.here).1
  cases hR : rightG G with
  | false =>
    have HRI := Lib.hid (fun W hW => grefright_is G false hR W hW oG)
    have he : planE G lim ord blk = 4 := by simp [planE, hR]
    have HS : Hid (planS G lim ord blk = []) := Lib.hid (by rw [planS, he]; rfl)
    have HL : Hid (planL G lim ord blk = []) := Lib.hid (by rw [planL, he]; rfl)
    have HE := Lib.hid he
    clear hx0 hG hR oG he
    go_enter Try.func22, Try.ntmps22
    go_wp2_with fail
    refine (HRI.out _ HVG.out).mono ?_
    rintro e w1 ⟨rfl, hx⟩
    replace HX := Lib.hid (HX.out.trans hx)
    clear hx kB
    go_wp2_with fail
    ((try simp only [Exit.inBlock, Exit.then]); refine bodyPost_ret (v := .tuple #[.slice none 0 0, .slice none 0 0, .int .i64 4]) (by simp only [results, Try.results22]; go_simp) rfl ?_)
    rw [HE.out]
    exact retPl_none HS.out HL.out HX.out
  | true =>
  have HRI := Lib.hid (fun W hW => grefright_is G true hR W hW oG)
  cases hA : argB lim ord blk with
  | true =>
    have he : planE G lim ord blk = 1 := by simp [planE, hR, hA]
    have HS : Hid (planS G lim ord blk = []) := Lib.hid (by rw [planS, he]; rfl)
    have HL : Hid (planL G lim ord blk = []) := Lib.hid (by rw [planL, he]; rfl)
    have HE := Lib.hid he
    have c1 : ∀ x y : Int, x < y → decide (x < y) = true := fun x y h => by simpa using h
    have c0 : ∀ x y : Int, y ≤ x → decide (x < y) = false := fun x y h => by simpa using h
    have hc : (decide (lim < 1) = true) ∨ (decide (lim < 1) = false ∧ decide (blk < 1) = true) ∨ (decide (lim < 1) = false ∧ decide (blk < 1) = false ∧ decide (ord < 0) = true) ∨ (decide (lim < 1) = false ∧ decide (blk < 1) = false ∧ decide (ord < 0) = false ∧ decide (2 < ord) = true) := by
      rcases argB_yes hA with h | ⟨h1, h⟩ | ⟨h1, h2, h⟩ | ⟨h1, h2, h3, h⟩
      · exact .inl (c1 _ _ h)
      · exact .inr (.inl ⟨c0 _ _ h1, c1 _ _ h⟩)
      · exact .inr (.inr (.inl ⟨c0 _ _ h1, c0 _ _ h2, c1 _ _ h⟩))
      · exact .inr (.inr (.inr ⟨c0 _ _ h1, c0 _ _ h2, c0 _ _ h3, c1 _ _ h⟩))
    clear hx0 hG hR oG he hA c0 c1
    rcases hc with h | ⟨h1, h⟩ | ⟨h1, h2, h⟩ | ⟨h1, h2, h3, h⟩
    all_goals
      go_enter Try.func22, Try.ntmps22
      go_wp2_with fail
      refine (HRI.out _ HVG.out).mono ?_
      rintro e w1 ⟨rfl, hx⟩
      replace HX := Lib.hid (HX.out.trans hx)
      clear hx kB
      go_wp2_with fail
      ((try simp only [Exit.inBlock, Exit.then]); refine bodyPost_ret (v := .tuple #[.slice none 0 0, .slice none 0 0, .int .i64 1]) (by simp only [results, Try.results22]; go_simp) rfl ?_)
      rw [HE.out]
      exact retPl_none HS.out HL.out HX.out
  | false =>
    have he : planE G lim ord blk = 0 := by simp [planE, hR, hA]
    obtain ⟨a1, a2, a3, a4⟩ := argB_no hA
    have hRG := RchG.of oG.1 oG.2 hR ⟨a1, hl.2⟩ ⟨a2, hb.2⟩
    have HRUN := Lib.hid (fun W (hW : GraphAt W G) => rrun_any (o := ord.toNat) hW hRG (by omega))
    simp only [Int.toNat_of_nonneg a3, Int.toNat_of_nonneg (Int.le_trans (by decide) a1), Int.toNat_of_nonneg (Int.le_trans (by decide) a2)] at HRUN
    have HS : Hid (planS G lim ord blk = ordZ (planD G lim ord blk).small) := Lib.hid (by rw [planS, if_pos he])
    have HL : Hid (planL G lim ord blk = ordZ (planD G lim ord blk).large) := Lib.hid (by rw [planL, if_pos he])
    have HE := Lib.hid he
    have d1 : decide (lim < 1) = false := by simpa using a1
    have d2 : decide (blk < 1) = false := by simpa using a2
    have d3 : decide (ord < 0) = false := by simpa using a3
    have d4 : decide (2 < ord) = false := by simpa using a4
    clear hx0 hG hR oG he hA hRG a1 a2 a3 a4
    change Hid (∀ (W : World), GraphAt W G → Calls Try.prog 48 #[.agg #[.slice G.nA G.ns.length G.ncap, .slice G.rA G.rs.length G.rcap], .int .i64 lim, .int .i64 ord, .int .i64 blk] W fun e w' => ∃ V0 b, e = .returned (.pointer (some ⟨b, 0, none⟩)) ∧ Ext W V0 ∧ RP V0 G lim.toNat blk.toNat b (planD G lim ord blk) w') at HRUN
    generalize planD G lim ord blk = p at *
    go_enter Try.func22, Try.ntmps22
    go_wp2_with fail
    refine (HRI.out _ HVG.out).mono ?_
    rintro e w1 ⟨rfl, hx⟩
    replace HX := Lib.hid (HX.out.trans hx)
    replace HVG := Lib.hid (HVG.out.ext hx)
    have kB2 := (cells_of (hBx.re hx).here).1
    clear hx kB
    go_wp2_with fail
    refine (HRUN.out _ HVG.out).mono ?_
    rintro e w2 ⟨V0, b, rfl, hxv, sA, sc, bA, bc, kA, kc, lA, lc, pA, pc, hq⟩
    have HQ := Lib.hid hq
    have HXV := Lib.hid (HX.out.trans hxv)
    have hs0 : Ext w2 w2 := Ext.refl _
    have l1 := (pers_blk hq.blk).cells
    clear hxv kB2 hq
    go_wp2_with fail
    (refine wp_region_ext (W := w2) (by kernel_rfl) (by kernel_rfl) (by with_reducible assumption) ?_; (repeat (go_big_quiet_step (fail))); refine wpQuiet_nil ?_; intro w1 hx)
    go_wp2_with fail
    ((try simp only [Exit.inBlock, Exit.then]); refine bodyPost_ret (v := .tuple #[.slice sA p.small.length sc, .slice lA p.large.length lc, .int .i64 0]) (by simp only [results, Try.results22]; go_simp) rfl ?_)
    have hq := HQ.out.grow hx
    rw [HE.out, HS.out, HL.out]
    refine ⟨sA, sc, lA, lc, by rw [ordZ_len, ordZ_len], ?_, ?_, ?_, HXV.out.trans hq.ext⟩
    · rw [ordZ_len]; exact hq.os.mono HXV.out.size
    · rw [ordZ_len]; exact hq.ol.mono HXV.out.size
    · rw [ordZ_len, ordZ_len]; exact hq.sep.ne 0 3 rfl rfl (by decide)
end Go.Proofs.Ytphpppjfogpohaa

/- The rows of a plan in memory. -/
set_option linter.unusedSimpArgs false
set_option linter.unusedVariables false
namespace Go.Proofs.Ytphpppjfogpohaa
open Go.RowKit Go.Shelf
theorem own_cells {α : Type} {e : TypeId} {n : Nat} {f : α → List Value} {w : World} {B : Nat} {v : Value} {xs : List α} (h : Own e n f w B v xs) {g : Nat} (hv : v.ownBlock = some g) : ∃ cur, w.heap[g]? = some (.cells cur e (0, 0)) := by
  rcases h.2 with ⟨rfl, _⟩ | ⟨g', cap, cur, rfl, _, hg, _⟩
  · cases hv
  · injection hv with hv
    simp only at hv
    subst hv
    exact ⟨cur, hg⟩
theorem ownO_cells {w : World} {B : Nat} {v : Value} {xs : List Int} (h : OwnO w B v xs) {g : Nat} (hv : v.ownBlock = some g) : ∃ cur, w.heap[g]? = some (.cells cur 3 (0, 0)) := by
  rcases h with ⟨rfl, _⟩ | ⟨g', off, cap, cur, rfl, _, hg, _⟩
  · cases hv
  · injection hv with hv
    simp only at hv
    subst hv
    exact ⟨cur, hg⟩
/-- The rows of a plan: its lists, what was met, and the map of the next ones. -/
structure PR (V0 : World) (sv bv kv lv pv mv : Value) (mp nm : Nat) (f : Int → Value) (Y : Int → List Nat) (ms : List Bool) (p : PlD) (w : World) : Prop where
  os : Own 3 1 intC w V0.heap.size sv (ordZ p.small)
  ob : Own 3 1 intC w V0.heap.size bv (ordZ p.begins)
  ok : Own 4 1 boolC w V0.heap.size kv p.lk
  ol : Own 3 1 intC w V0.heap.size lv (ordZ p.large)
  op : Own 3 1 intC w V0.heap.size pv (ordZ p.pile)
  om : Own 4 1 boolC w V0.heap.size mv ms
  mpv : MapV w mp nm f
  fam : ∀ c, OwnO w V0.heap.size (f c) (ordZ (Y c))
  sep : Sep [sv, bv, kv, lv, pv, mv]
  sepf : ∀ v ∈ [sv, bv, kv, lv, pv, mv], ∀ c g, v.ownBlock = some g → (f c).ownBlock ≠ some g
  sepc : ∀ c c' g, c ≠ c' → (f c).ownBlock = some g → (f c').ownBlock ≠ some g
  mlo : V0.heap.size ≤ mp
  ext : Ext V0 w
section
variable {V0 : World} {sv bv kv lv pv mv : Value} {mp nm : Nat} {f : Int → Value} {Y : Int → List Nat} {ms : List Bool} {p : PlD} {w w' : World}
theorem PR.grow (h : PR V0 sv bv kv lv pv mv mp nm f Y ms p w) (hx : Ext w w') : PR V0 sv bv kv lv pv mv mp nm f Y ms p w' :=
  ⟨h.os.ext hx, h.ob.ext hx, h.ok.ext hx, h.ol.ext hx, h.op.ext hx, h.om.ext hx, h.mpv.ext hx, fun c => (h.fam c).ext hx, h.sep, h.sepf, h.sepc, h.mlo, h.ext.trans hx⟩
theorem PR.lt (h : PR V0 sv bv kv lv pv mv mp nm f Y ms p w) : ∀ v ∈ [sv, bv, kv, lv, pv, mv], ∀ g, v.ownBlock = some g → g < w.heap.size := by
  intro v hv g hg
  simp only [List.mem_cons, List.not_mem_nil, or_false] at hv
  rcases hv with rfl | rfl | rfl | rfl | rfl | rfl
  · exact (own_below h.os hg).2
  · exact (own_below h.ob hg).2
  · exact (own_below h.ok hg).2
  · exact (own_below h.ol hg).2
  · exact (own_below h.op hg).2
  · exact (own_below h.om hg).2
theorem PR.cells (h : PR V0 sv bv kv lv pv mv mp nm f Y ms p w) : ∀ v ∈ [sv, bv, kv, lv, pv, mv], ∀ g, v.ownBlock = some g → ∃ cur t, w.heap[g]? = some (.cells cur t (0, 0)) ∧ (t = 3 ∨ t = 4) := by
  intro v hv g hg
  simp only [List.mem_cons, List.not_mem_nil, or_false] at hv
  rcases hv with rfl | rfl | rfl | rfl | rfl | rfl
  · obtain ⟨cur, hc⟩ := own_cells h.os hg; exact ⟨cur, _, hc, .inl rfl⟩
  · obtain ⟨cur, hc⟩ := own_cells h.ob hg; exact ⟨cur, _, hc, .inl rfl⟩
  · obtain ⟨cur, hc⟩ := own_cells h.ok hg; exact ⟨cur, _, hc, .inr rfl⟩
  · obtain ⟨cur, hc⟩ := own_cells h.ol hg; exact ⟨cur, _, hc, .inl rfl⟩
  · obtain ⟨cur, hc⟩ := own_cells h.op hg; exact ⟨cur, _, hc, .inl rfl⟩
  · obtain ⟨cur, hc⟩ := own_cells h.om hg; exact ⟨cur, _, hc, .inr rfl⟩
/-- Row s is another one. -/
theorem PR.turn_s (h : PR V0 sv bv kv lv pv mv mp nm f Y ms p w) {x : Value} {ys : List Nat} (ho : Own 3 1 intC w' V0.heap.size x (ordZ ys)) (hg : w.grownBy w' sv.ownBlock)
    (hx : x.ownBlock = sv.ownBlock ∨ x.ownBlock = none ∨ ∃ k, w.heap.size ≤ k ∧ x.ownBlock = some k) : PR V0 x bv kv lv pv mv mp nm f Y ms { p with small := ys } w' := by
  have hm : sv ∈ [sv, bv, kv, lv, pv, mv] := by simp
  refine ⟨ho, h.ob.kept hg (h.sep.ne 1 0 rfl rfl (by decide)), h.ok.kept hg (h.sep.ne 2 0 rfl rfl (by decide)), h.ol.kept hg (h.sep.ne 3 0 rfl rfl (by decide)), h.op.kept hg (h.sep.ne 4 0 rfl rfl (by decide)), h.om.kept hg (h.sep.ne 5 0 rfl rfl (by decide)), h.mpv.kept hg (fun e => ?_), fun c => (h.fam c).kept hg (fun g hv e => h.sepf _ hm c g e.symm hv), h.sep.turn 0 rfl hx h.lt, ?_, h.sepc, h.mlo, h.os.grown hg (Nat.le_refl _) h.ext⟩
  · obtain ⟨cur, hc⟩ := own_cells h.os e.symm
    exact h.mpv.ne hc rfl
  · intro v hv c g hvg hfg
    simp only [List.mem_cons, List.not_mem_nil, or_false] at hv
    have hold : ∀ u ∈ [sv, bv, kv, lv, pv, mv], u.ownBlock = some g → False := fun u hu hug => h.sepf u hu c g hug hfg
    have hnew : x.ownBlock = some g → False := fun e => by
      rcases hx with hx | hx | ⟨j, hj, hx⟩
      · exact hold _ hm (hx ▸ e)
      · rw [hx] at e; cases e
      · rw [hx] at e
        injection e with e
        have := ((h.fam c).lt hfg).2
        omega
    rcases hv with rfl | rfl | rfl | rfl | rfl | rfl
    · exact hnew hvg
    · exact hold _ (by simp) hvg
    · exact hold _ (by simp) hvg
    · exact hold _ (by simp) hvg
    · exact hold _ (by simp) hvg
    · exact hold _ (by simp) hvg
/-- Row b is another one. -/
theorem PR.turn_b (h : PR V0 sv bv kv lv pv mv mp nm f Y ms p w) {x : Value} {ys : List Nat} (ho : Own 3 1 intC w' V0.heap.size x (ordZ ys)) (hg : w.grownBy w' bv.ownBlock)
    (hx : x.ownBlock = bv.ownBlock ∨ x.ownBlock = none ∨ ∃ k, w.heap.size ≤ k ∧ x.ownBlock = some k) : PR V0 sv x kv lv pv mv mp nm f Y ms { p with begins := ys } w' := by
  have hm : bv ∈ [sv, bv, kv, lv, pv, mv] := by simp
  refine ⟨h.os.kept hg (h.sep.ne 0 1 rfl rfl (by decide)), ho, h.ok.kept hg (h.sep.ne 2 1 rfl rfl (by decide)), h.ol.kept hg (h.sep.ne 3 1 rfl rfl (by decide)), h.op.kept hg (h.sep.ne 4 1 rfl rfl (by decide)), h.om.kept hg (h.sep.ne 5 1 rfl rfl (by decide)), h.mpv.kept hg (fun e => ?_), fun c => (h.fam c).kept hg (fun g hv e => h.sepf _ hm c g e.symm hv), h.sep.turn 1 rfl hx h.lt, ?_, h.sepc, h.mlo, h.ob.grown hg (Nat.le_refl _) h.ext⟩
  · obtain ⟨cur, hc⟩ := own_cells h.ob e.symm
    exact h.mpv.ne hc rfl
  · intro v hv c g hvg hfg
    simp only [List.mem_cons, List.not_mem_nil, or_false] at hv
    have hold : ∀ u ∈ [sv, bv, kv, lv, pv, mv], u.ownBlock = some g → False := fun u hu hug => h.sepf u hu c g hug hfg
    have hnew : x.ownBlock = some g → False := fun e => by
      rcases hx with hx | hx | ⟨j, hj, hx⟩
      · exact hold _ hm (hx ▸ e)
      · rw [hx] at e; cases e
      · rw [hx] at e
        injection e with e
        have := ((h.fam c).lt hfg).2
        omega
    rcases hv with rfl | rfl | rfl | rfl | rfl | rfl
    · exact hold _ (by simp) hvg
    · exact hnew hvg
    · exact hold _ (by simp) hvg
    · exact hold _ (by simp) hvg
    · exact hold _ (by simp) hvg
    · exact hold _ (by simp) hvg
/-- Row k is another one. -/
theorem PR.turn_k (h : PR V0 sv bv kv lv pv mv mp nm f Y ms p w) {x : Value} {ys : List Bool} (ho : Own 4 1 boolC w' V0.heap.size x ys) (hg : w.grownBy w' kv.ownBlock)
    (hx : x.ownBlock = kv.ownBlock ∨ x.ownBlock = none ∨ ∃ k, w.heap.size ≤ k ∧ x.ownBlock = some k) : PR V0 sv bv x lv pv mv mp nm f Y ms { p with lk := ys } w' := by
  have hm : kv ∈ [sv, bv, kv, lv, pv, mv] := by simp
  refine ⟨h.os.kept hg (h.sep.ne 0 2 rfl rfl (by decide)), h.ob.kept hg (h.sep.ne 1 2 rfl rfl (by decide)), ho, h.ol.kept hg (h.sep.ne 3 2 rfl rfl (by decide)), h.op.kept hg (h.sep.ne 4 2 rfl rfl (by decide)), h.om.kept hg (h.sep.ne 5 2 rfl rfl (by decide)), h.mpv.kept hg (fun e => ?_), fun c => (h.fam c).kept hg (fun g hv e => h.sepf _ hm c g e.symm hv), h.sep.turn 2 rfl hx h.lt, ?_, h.sepc, h.mlo, h.ok.grown hg (Nat.le_refl _) h.ext⟩
  · obtain ⟨cur, hc⟩ := own_cells h.ok e.symm
    exact h.mpv.ne hc rfl
  · intro v hv c g hvg hfg
    simp only [List.mem_cons, List.not_mem_nil, or_false] at hv
    have hold : ∀ u ∈ [sv, bv, kv, lv, pv, mv], u.ownBlock = some g → False := fun u hu hug => h.sepf u hu c g hug hfg
    have hnew : x.ownBlock = some g → False := fun e => by
      rcases hx with hx | hx | ⟨j, hj, hx⟩
      · exact hold _ hm (hx ▸ e)
      · rw [hx] at e; cases e
      · rw [hx] at e
        injection e with e
        have := ((h.fam c).lt hfg).2
        omega
    rcases hv with rfl | rfl | rfl | rfl | rfl | rfl
    · exact hold _ (by simp) hvg
    · exact hold _ (by simp) hvg
    · exact hnew hvg
    · exact hold _ (by simp) hvg
    · exact hold _ (by simp) hvg
    · exact hold _ (by simp) hvg
/-- Row l is another one. -/
theorem PR.turn_l (h : PR V0 sv bv kv lv pv mv mp nm f Y ms p w) {x : Value} {ys : List Nat} (ho : Own 3 1 intC w' V0.heap.size x (ordZ ys)) (hg : w.grownBy w' lv.ownBlock)
    (hx : x.ownBlock = lv.ownBlock ∨ x.ownBlock = none ∨ ∃ k, w.heap.size ≤ k ∧ x.ownBlock = some k) : PR V0 sv bv kv x pv mv mp nm f Y ms { p with large := ys } w' := by
  have hm : lv ∈ [sv, bv, kv, lv, pv, mv] := by simp
  refine ⟨h.os.kept hg (h.sep.ne 0 3 rfl rfl (by decide)), h.ob.kept hg (h.sep.ne 1 3 rfl rfl (by decide)), h.ok.kept hg (h.sep.ne 2 3 rfl rfl (by decide)), ho, h.op.kept hg (h.sep.ne 4 3 rfl rfl (by decide)), h.om.kept hg (h.sep.ne 5 3 rfl rfl (by decide)), h.mpv.kept hg (fun e => ?_), fun c => (h.fam c).kept hg (fun g hv e => h.sepf _ hm c g e.symm hv), h.sep.turn 3 rfl hx h.lt, ?_, h.sepc, h.mlo, h.ol.grown hg (Nat.le_refl _) h.ext⟩
  · obtain ⟨cur, hc⟩ := own_cells h.ol e.symm
    exact h.mpv.ne hc rfl
  · intro v hv c g hvg hfg
    simp only [List.mem_cons, List.not_mem_nil, or_false] at hv
    have hold : ∀ u ∈ [sv, bv, kv, lv, pv, mv], u.ownBlock = some g → False := fun u hu hug => h.sepf u hu c g hug hfg
    have hnew : x.ownBlock = some g → False := fun e => by
      rcases hx with hx | hx | ⟨j, hj, hx⟩
      · exact hold _ hm (hx ▸ e)
      · rw [hx] at e; cases e
      · rw [hx] at e
        injection e with e
        have := ((h.fam c).lt hfg).2
        omega
    rcases hv with rfl | rfl | rfl | rfl | rfl | rfl
    · exact hold _ (by simp) hvg
    · exact hold _ (by simp) hvg
    · exact hold _ (by simp) hvg
    · exact hnew hvg
    · exact hold _ (by simp) hvg
    · exact hold _ (by simp) hvg
/-- Row p is another one. -/
theorem PR.turn_p (h : PR V0 sv bv kv lv pv mv mp nm f Y ms p w) {x : Value} {ys : List Nat} (ho : Own 3 1 intC w' V0.heap.size x (ordZ ys)) (hg : w.grownBy w' pv.ownBlock)
    (hx : x.ownBlock = pv.ownBlock ∨ x.ownBlock = none ∨ ∃ k, w.heap.size ≤ k ∧ x.ownBlock = some k) : PR V0 sv bv kv lv x mv mp nm f Y ms { p with pile := ys } w' := by
  have hm : pv ∈ [sv, bv, kv, lv, pv, mv] := by simp
  refine ⟨h.os.kept hg (h.sep.ne 0 4 rfl rfl (by decide)), h.ob.kept hg (h.sep.ne 1 4 rfl rfl (by decide)), h.ok.kept hg (h.sep.ne 2 4 rfl rfl (by decide)), h.ol.kept hg (h.sep.ne 3 4 rfl rfl (by decide)), ho, h.om.kept hg (h.sep.ne 5 4 rfl rfl (by decide)), h.mpv.kept hg (fun e => ?_), fun c => (h.fam c).kept hg (fun g hv e => h.sepf _ hm c g e.symm hv), h.sep.turn 4 rfl hx h.lt, ?_, h.sepc, h.mlo, h.op.grown hg (Nat.le_refl _) h.ext⟩
  · obtain ⟨cur, hc⟩ := own_cells h.op e.symm
    exact h.mpv.ne hc rfl
  · intro v hv c g hvg hfg
    simp only [List.mem_cons, List.not_mem_nil, or_false] at hv
    have hold : ∀ u ∈ [sv, bv, kv, lv, pv, mv], u.ownBlock = some g → False := fun u hu hug => h.sepf u hu c g hug hfg
    have hnew : x.ownBlock = some g → False := fun e => by
      rcases hx with hx | hx | ⟨j, hj, hx⟩
      · exact hold _ hm (hx ▸ e)
      · rw [hx] at e; cases e
      · rw [hx] at e
        injection e with e
        have := ((h.fam c).lt hfg).2
        omega
    rcases hv with rfl | rfl | rfl | rfl | rfl | rfl
    · exact hold _ (by simp) hvg
    · exact hold _ (by simp) hvg
    · exact hold _ (by simp) hvg
    · exact hold _ (by simp) hvg
    · exact hnew hvg
    · exact hold _ (by simp) hvg
/-- Row m is another one. -/
theorem PR.turn_m (h : PR V0 sv bv kv lv pv mv mp nm f Y ms p w) {x : Value} {ys : List Bool} (ho : Own 4 1 boolC w' V0.heap.size x ys) (hg : w.grownBy w' mv.ownBlock)
    (hx : x.ownBlock = mv.ownBlock ∨ x.ownBlock = none ∨ ∃ k, w.heap.size ≤ k ∧ x.ownBlock = some k) : PR V0 sv bv kv lv pv x mp nm f Y ys p w' := by
  have hm : mv ∈ [sv, bv, kv, lv, pv, mv] := by simp
  refine ⟨h.os.kept hg (h.sep.ne 0 5 rfl rfl (by decide)), h.ob.kept hg (h.sep.ne 1 5 rfl rfl (by decide)), h.ok.kept hg (h.sep.ne 2 5 rfl rfl (by decide)), h.ol.kept hg (h.sep.ne 3 5 rfl rfl (by decide)), h.op.kept hg (h.sep.ne 4 5 rfl rfl (by decide)), ho, h.mpv.kept hg (fun e => ?_), fun c => (h.fam c).kept hg (fun g hv e => h.sepf _ hm c g e.symm hv), h.sep.turn 5 rfl hx h.lt, ?_, h.sepc, h.mlo, h.om.grown hg (Nat.le_refl _) h.ext⟩
  · obtain ⟨cur, hc⟩ := own_cells h.om e.symm
    exact h.mpv.ne hc rfl
  · intro v hv c g hvg hfg
    simp only [List.mem_cons, List.not_mem_nil, or_false] at hv
    have hold : ∀ u ∈ [sv, bv, kv, lv, pv, mv], u.ownBlock = some g → False := fun u hu hug => h.sepf u hu c g hug hfg
    have hnew : x.ownBlock = some g → False := fun e => by
      rcases hx with hx | hx | ⟨j, hj, hx⟩
      · exact hold _ hm (hx ▸ e)
      · rw [hx] at e; cases e
      · rw [hx] at e
        injection e with e
        have := ((h.fam c).lt hfg).2
        omega
    rcases hv with rfl | rfl | rfl | rfl | rfl | rfl
    · exact hold _ (by simp) hvg
    · exact hold _ (by simp) hvg
    · exact hold _ (by simp) hvg
    · exact hold _ (by simp) hvg
    · exact hold _ (by simp) hvg
    · exact hnew hvg
theorem PR.top (h : PR V0 sv bv kv lv pv mv mp nm f Y ms p w) (t : Nat) : PR V0 sv bv kv lv pv mv mp nm f Y ms { p with top := t } w := ⟨h.os, h.ob, h.ok, h.ol, h.op, h.om, h.mpv, h.fam, h.sep, h.sepf, h.sepc, h.mlo, h.ext⟩
/-- A store into a block of another kind. -/
theorem PR.far (h : PR V0 sv bv kv lv pv mv mp nm f Y ms p w) {b i : Nat} {u : Value} {cs : Array Value} {t : TypeId} {r : Nat × Nat} (hb : w.heap[b]? = some (.cells cs t r)) (h1 : t ≠ 3) (h2 : t ≠ 4) (hlo : V0.heap.size ≤ b) : PR V0 sv bv kv lv pv mv mp nm f Y ms p (w.setCell ⟨b, i, none⟩ u) :=
  ⟨h.os.setOther hb h1, h.ob.setOther hb h1, h.ok.setOther hb h2, h.ol.setOther hb h1, h.op.setOther hb h1, h.om.setOther hb h2, h.mpv.setCell (h.mpv.ne hb) _, fun c => (h.fam c).setOther hb h1, h.sep, h.sepf, h.sepc, h.mlo, h.ext.setCell hlo _⟩
/-- A store into a row of Booleans. -/
theorem PR.setK {g : Nat} {n c : Nat} (h : PR V0 sv bv kv lv pv mv mp nm f Y ms p w) (hk : kv = .slice (some ⟨g, 0, none⟩) n c) (hn : p.lk.length = n) (i : Nat) : PR V0 sv bv (.slice (some ⟨g, 0, none⟩) n c) lv pv mv mp nm f Y ms (p.looked i) (w.setCell ⟨g, i, none⟩ (.bool true)) := by
  subst hk
  obtain ⟨cur, hc⟩ := own_cells h.ok rfl
  have s5 := h.sep 2 5 _ _ g rfl rfl (by decide) rfl
  exact ⟨h.os.setOther hc (by decide), h.ob.setOther hc (by decide), own_setB h.ok hn i true, h.ol.setOther hc (by decide), h.op.setOther hc (by decide), h.om.setNe s5, h.mpv.setCell (a := ⟨g, i, none⟩) (h.mpv.ne hc) _, fun c => (h.fam c).setOther hc (by decide), h.sep, h.sepf, h.sepc, h.mlo, h.ext.setCell (p := ⟨g, i, none⟩) (own_below h.ok rfl).1 _⟩
theorem PR.setM {g : Nat} {n c : Nat} (h : PR V0 sv bv kv lv pv mv mp nm f Y ms p w) (hk : mv = .slice (some ⟨g, 0, none⟩) n c) (hn : ms.length = n) (i : Nat) : PR V0 sv bv kv lv pv (.slice (some ⟨g, 0, none⟩) n c) mp nm f Y (ms.set i true) p (w.setCell ⟨g, i, none⟩ (.bool true)) := by
  subst hk
  obtain ⟨cur, hc⟩ := own_cells h.om rfl
  have s5 := h.sep 5 2 _ _ g rfl rfl (by decide) rfl
  exact ⟨h.os.setOther hc (by decide), h.ob.setOther hc (by decide), h.ok.setNe s5, h.ol.setOther hc (by decide), h.op.setOther hc (by decide), own_setB h.om hn i true, h.mpv.setCell (a := ⟨g, i, none⟩) (h.mpv.ne hc) _, fun c => (h.fam c).setOther hc (by decide), h.sep, h.sepf, h.sepc, h.mlo, h.ext.setCell (p := ⟨g, i, none⟩) (own_below h.om rfl).1 _⟩
/-- Behind an append onto one of the map's rows, and what stands in the map. -/
theorem PR.mid (h : PR V0 sv bv kv lv pv mv mp nm f Y ms p w) {c : Int} (hg : w.grownBy w' (f c).ownBlock) : MapV w' mp nm f := h.mpv.kept hg (fun e => by
  obtain ⟨cur, hc⟩ := ownO_cells (h.fam c) e.symm
  exact h.mpv.ne hc rfl)
theorem PR.put {w1 : World} {c : Int} {x : Value} {ys : List Nat} {n2 : Nat} (h : PR V0 sv bv kv lv pv mv mp nm f Y ms p w) (hg : w.grownBy w1 (f c).ownBlock) (ho : OwnO w1 V0.heap.size x (ordZ ys)) (hx : x.ownBlock = (f c).ownBlock ∨ x.ownBlock = none ∨ ∃ k, w.heap.size ≤ k ∧ x.ownBlock = some k)
    (hm : MapV w' mp n2 (fun y => if y = c then x else f y)) (hg2 : w1.grownBy w' (some mp)) : PR V0 sv bv kv lv pv mv mp n2 (fun y => if y = c then x else f y) (fun y => if y = c then ys else Y y) ms p w' := by
  have hmc := PR.mid h hg
  have hcell : ∀ v ∈ [sv, bv, kv, lv, pv, mv], ∀ g, v.ownBlock = some g → some g ≠ (f c).ownBlock := fun v hv g hvg e => h.sepf v hv c g hvg e.symm
  have hxb : ∀ g, x.ownBlock = some g → (f c).ownBlock = some g ∨ w.heap.size ≤ g := fun g hg => by
    rcases hx with hx | hx | ⟨j, hj, hx⟩
    · exact .inl (hx ▸ hg)
    · rw [hx] at hg; cases hg
    · rw [hx] at hg; injection hg with hg; exact .inr (by omega)
  have hmw : ∀ g cs t r, w1.heap[g]? = some (.cells cs t r) → some g ≠ some mp := fun g cs t r hc e => by injection e with e; exact hmc.ne hc e.symm
  refine ⟨((h.os.kept hg (by cases e : sv.ownBlock with | none => exact .inl rfl | some g => exact .inr (hcell _ (by simp) g e)))).kept hg2 (by cases e : sv.ownBlock with | none => exact .inl rfl | some g => exact .inr (by obtain ⟨cur, hc⟩ := own_cells ((h.os.kept hg (.inr (by rw [e]; exact hcell _ (by simp) g e)))) e; exact hmw g _ _ _ hc)), ((h.ob.kept hg (by cases e : bv.ownBlock with | none => exact .inl rfl | some g => exact .inr (hcell _ (by simp) g e)))).kept hg2 (by cases e : bv.ownBlock with | none => exact .inl rfl | some g => exact .inr (by obtain ⟨cur, hc⟩ := own_cells ((h.ob.kept hg (.inr (by rw [e]; exact hcell _ (by simp) g e)))) e; exact hmw g _ _ _ hc)), ((h.ok.kept hg (by cases e : kv.ownBlock with | none => exact .inl rfl | some g => exact .inr (hcell _ (by simp) g e)))).kept hg2 (by cases e : kv.ownBlock with | none => exact .inl rfl | some g => exact .inr (by obtain ⟨cur, hc⟩ := own_cells ((h.ok.kept hg (.inr (by rw [e]; exact hcell _ (by simp) g e)))) e; exact hmw g _ _ _ hc)), ((h.ol.kept hg (by cases e : lv.ownBlock with | none => exact .inl rfl | some g => exact .inr (hcell _ (by simp) g e)))).kept hg2 (by cases e : lv.ownBlock with | none => exact .inl rfl | some g => exact .inr (by obtain ⟨cur, hc⟩ := own_cells ((h.ol.kept hg (.inr (by rw [e]; exact hcell _ (by simp) g e)))) e; exact hmw g _ _ _ hc)), ((h.op.kept hg (by cases e : pv.ownBlock with | none => exact .inl rfl | some g => exact .inr (hcell _ (by simp) g e)))).kept hg2 (by cases e : pv.ownBlock with | none => exact .inl rfl | some g => exact .inr (by obtain ⟨cur, hc⟩ := own_cells ((h.op.kept hg (.inr (by rw [e]; exact hcell _ (by simp) g e)))) e; exact hmw g _ _ _ hc)), ((h.om.kept hg (by cases e : mv.ownBlock with | none => exact .inl rfl | some g => exact .inr (hcell _ (by simp) g e)))).kept hg2 (by cases e : mv.ownBlock with | none => exact .inl rfl | some g => exact .inr (by obtain ⟨cur, hc⟩ := own_cells ((h.om.kept hg (.inr (by rw [e]; exact hcell _ (by simp) g e)))) e; exact hmw g _ _ _ hc)), hm, fun d => ?_, h.sep, fun v hv d g hvg hfg => ?_, fun d d' g hd h1 h2 => ?_, h.mlo, ?_⟩
  · try simp only
    by_cases hd : d = c
    · rw [if_pos hd, if_pos hd]
      exact ho.kept hg2 (fun g hv => by obtain ⟨cur, hc⟩ := ownO_cells ho hv; exact hmw g _ _ _ hc)
    · rw [if_neg hd, if_neg hd]
      have h3 := (h.fam d).kept hg (fun g hv e => h.sepc d c g hd hv e.symm)
      exact h3.kept hg2 (fun g hv => by obtain ⟨cur, hc⟩ := ownO_cells h3 hv; exact hmw g _ _ _ hc)
  · try simp only at hfg
    by_cases hd : d = c
    · rw [if_pos hd] at hfg
      rcases hxb g hfg with h4 | h4
      · exact h.sepf v hv c g hvg h4
      · have := h.lt v hv g hvg; omega
    · rw [if_neg hd] at hfg
      exact h.sepf v hv d g hvg hfg
  · try simp only at h1 h2
    by_cases e1 : d = c
    · rw [if_pos e1] at h1
      rw [if_neg (fun e2 => hd (e1.trans e2.symm))] at h2
      rcases hxb g h1 with h4 | h4
      · exact h.sepc c d' g (fun e => hd (e1.trans e)) h4 h2
      · have := ((h.fam d').lt h2).2; omega
    · rw [if_neg e1] at h1
      by_cases e2 : d' = c
      · rw [if_pos e2] at h2
        rcases hxb g h2 with h4 | h4
        · exact h.sepc d c g e1 h1 h4
        · have := ((h.fam d).lt h1).2; omega
      · rw [if_neg e2] at h2
        exact h.sepc d d' g hd h1 h2
  · have e1 : Ext V0 w1 := Below.grown h.ext hg (Ext.size h.ext) (fun k hk => ((h.fam c).lt hk).1)
    exact Below.grown e1 hg2 (Ext.size e1) (fun k hk => by injection hk with hk; have := h.mlo; omega)
end
end Go.Proofs.Ytphpppjfogpohaa

/- The program's plan in memory; a new one. -/
set_option linter.unusedSimpArgs false
set_option linter.unusedVariables false
namespace Go.Proofs.Ytphpppjfogpohaa
open Go.RowKit Go.Shelf
set_option maxRecDepth 100000
set_option maxHeartbeats 2000000
theorem wp_makeB {o : Oper} {a : Act} {w : World} {K : Act → World → Prop} {Q : Exit → Act → World → Prop} (l : Operand) (hop : o.op = Op.makeSlice 76 l l) (n : Nat) (hl : a.eval l = .int .i64 (n : Int)) (hn : n ≤ 17592186044416)
    (hK : ∀ w', Own 4 1 boolC w' w.heap.size (.slice (some ⟨w.heap.size, 0, none⟩) n n) (List.replicate n false) → Ext w w' → K (a.put o.dst (.slice (some ⟨w.heap.size, 0, none⟩) n n)) w') : o.wp Try.prog a w K Q := by
  obtain ⟨i, hi, hz0, hz1, hz2⟩ := info_parts boolInfo0
  obtain ⟨w', hrun, r1, r2⟩ := run_make_full (P := Try.prog) w w.heap.size 76 4 i (.bool false) 1 Try.underlying76 hi hz0 hz1 .i64 .i64 n (by rw [hz2]; omega) (by unfold maxLen; omega) (Nat.le_refl _)
  have hown : Own 4 1 boolC w' w.heap.size (.slice (some ⟨w.heap.size, 0, none⟩) n n) (List.replicate n false) := by
    unfold Own
    have e : (List.replicate n false).flatMap boolC = (madeCells (Value.bool false).cells (n * 1)).toList := by
      rw [Nat.mul_one, show (Value.bool false).cells = #[Value.bool false] from rfl, toList_madeCells_one]
      clear r1 r2 hl hn hK hrun
      induction n with
      | zero => rfl
      | succ n ih => rw [List.replicate_succ, List.flatMap_cons, ih]; rfl
    rw [e, List.length_replicate]
    exact r1
  unfold Oper.wp
  simp [execOp, hop, hl, hrun, Result.andThen]
  exact hK _ hown ⟨r2.os, r2.tape, r2.output, r2.size, fun k hk => r2.block k hk (by simp)⟩
/-- Which nodes were met. -/
def metL (n : Nat) (p : PlD) : List Bool := (List.range n).map p.has
/-- The places of the small ones that begin in a block. -/
def placesP (blk : Nat) (p : PlD) (c : Nat) : List Nat := (List.range p.small.length).filter fun i => decide (p.begins.getD i 0 / blk = c)
/-- The map has them all, but for some ahead that were looked at. -/
def NxtOk (blk : Nat) (p : PlD) (Y : Int → List Nat) : Prop := ∀ c : Nat, ∃ ds, placesP blk p c = ds ++ Y c ∧ ∀ i ∈ ds, p.lk.getD i true = true
def Fst (p : PlD) (fi : Nat) : Prop := fi ≤ p.small.length ∧ ∀ i, i < fi → p.lk.getD i true = true
section
variable {n blk x s : Nat} {p : PlD} {Y : Int → List Nat} {mk : Bool} {fi : Nat}
theorem metL_len : (metL n p).length = n := by simp [metL]
theorem metL_get {i : Nat} (h : i < n) : (metL n p).getD i false = p.has i := by simp [metL, h]
theorem metL_addL (h : x < n) : metL n (p.addL x) = (metL n p).set x true := by
  refine list_ext false (by simp [metL]) fun i hi => ?_
  rw [metL_len] at hi
  rw [metL_get hi, getD_set (by rw [metL_len]; exact h)]
  by_cases e : x = i
  · subst e; rw [if_pos rfl]; simp [PlD.has, PlD.addL]
  · rw [if_neg e, metL_get hi]
    have : ¬ i = x := fun h => e h.symm
    exact Bool.eq_iff_iff.2 (by rw [PlD.has_iff, PlD.has_iff]; simp [PlD.addL, this])
theorem metL_addS (h : x < n) : metL n (p.addS mk x s) = (metL n p).set x true := by
  refine list_ext false (by simp [metL]) fun i hi => ?_
  rw [metL_len] at hi
  rw [metL_get hi, getD_set (by rw [metL_len]; exact h)]
  by_cases e : x = i
  · subst e; rw [if_pos rfl]; simp [PlD.has, PlD.addS]
  · rw [if_neg e, metL_get hi]
    have : ¬ i = x := fun h => e h.symm
    exact Bool.eq_iff_iff.2 (by rw [PlD.has_iff, PlD.has_iff]; simp [PlD.addS, this])
theorem NxtOk.addL (h : NxtOk blk p Y) : NxtOk blk (p.addL x) Y := h
theorem NxtOk.popd (h : NxtOk blk p Y) : NxtOk blk p.popped Y := h
theorem getD_true {l : List Bool} {i j : Nat} (h : l.getD j true = true) : (l.set i true).getD j true = true := by
  rw [List.getD_eq_getElem?_getD, List.getElem?_set]
  split
  · split <;> simp
  · rwa [List.getD_eq_getElem?_getD] at h
theorem NxtOk.lookd (h : NxtOk blk p Y) (i : Nat) : NxtOk blk (p.looked i) Y := fun c => by
  obtain ⟨ds, h1, h2⟩ := h c
  exact ⟨ds, h1, fun j hj => getD_true (h2 j hj)⟩
theorem NxtOk.addS (h : NxtOk blk p Y) (hb : p.begins.length = p.small.length) (hl : p.lk.length = p.small.length) : NxtOk blk (p.addS mk x s) (fun y => if y = ((p.top / blk : Nat) : Int) then Y ((p.top / blk : Nat) : Int) ++ [p.small.length] else Y y) := fun c => by
  obtain ⟨ds, h1, h2⟩ := h c
  refine ⟨ds, ?_, fun i hi => ?_⟩
  · have hsl : (p.addS mk x s).small.length = p.small.length + 1 := by simp [PlD.addS]
    have hbg : ∀ i, i < p.small.length → (p.addS mk x s).begins.getD i 0 = p.begins.getD i 0 := fun i hi => getD_appL (by omega)
    have hbn : (p.addS mk x s).begins.getD p.small.length 0 = p.top := by
      show (p.begins ++ [p.top]).getD p.small.length 0 = p.top
      rw [getD_appR (by omega), hb]; simp
    have e1 : placesP blk (p.addS mk x s) c = placesP blk p c ++ (if p.top / blk = c then [p.small.length] else []) := by
      unfold placesP
      rw [hsl, List.range_succ, List.filter_append]
      congr 1
      · refine List.filter_congr fun i hi => ?_
        rw [hbg i (List.mem_range.1 hi)]
      · simp only [List.filter_cons, List.filter_nil, hbn]
        by_cases hc : p.top / blk = c
        · simp [hc]
        · simp [hc]
    rw [e1, h1]
    show _ = ds ++ (if ((c : Nat) : Int) = ((p.top / blk : Nat) : Int) then Y ((p.top / blk : Nat) : Int) ++ [p.small.length] else Y c)
    by_cases hc : p.top / blk = c
    · rw [if_pos hc, if_pos (by omega), hc, List.append_assoc]
    · rw [if_neg hc, if_neg (by omega), List.append_nil]
  · have hlt : i < p.small.length := by
      have h3 : i ∈ placesP blk p c := by rw [h1]; exact List.mem_append_left _ hi
      exact List.mem_range.1 (List.mem_filter.1 h3).1
    simp only [PlD.addS]
    rw [getD_appL (by omega)]
    exact h2 i hi
theorem NxtOk.len (h : NxtOk blk p Y) (c : Nat) : (Y c).length ≤ p.small.length := by
  obtain ⟨ds, h1, _⟩ := h c
  have h2 : (placesP blk p c).length ≤ p.small.length := by
    have := List.length_filter_le (fun i => decide (p.begins.getD i 0 / blk = c)) (List.range p.small.length)
    simpa [placesP] using this
  rw [h1, List.length_append] at h2
  omega
theorem NxtOk.lt (h : NxtOk blk p Y) (c : Nat) {i : Nat} (hi : i ∈ Y c) : i < p.small.length := by
  obtain ⟨ds, h1, _⟩ := h c
  have h3 : i ∈ placesP blk p c := by rw [h1]; exact List.mem_append_right _ hi
  exact List.mem_range.1 (List.mem_filter.1 h3).1
theorem Fst.addS (h : Fst p fi) (hl : p.lk.length = p.small.length) : Fst (p.addS mk x s) fi := by
  refine ⟨by simp only [PlD.addS, List.length_append]; have := h.1; omega, fun i hi => ?_⟩
  simp only [PlD.addS]
  rw [getD_appL (by have := h.1; omega)]
  exact h.2 i hi
theorem Fst.lookd (h : Fst p fi) (i : Nat) : Fst (p.looked i) fi := ⟨h.1, fun j hj => getD_true (h.2 j hj)⟩
end
/-- The program's plan in memory. -/
structure PQ (V0 : World) (G : GraphD) (lim blk b : Nat) (sv bv kv lv pv mv : Value) (mp nm : Nat) (f : Int → Value) (Y : Int → List Nat) (K fi : Nat) (p : PlD) (w : World) : Prop where
  cel : w.heap[b]? = some (.cells #[.slice G.nA G.ns.length G.ncap, .slice G.rA G.rs.length G.rcap, .int .i64 lim, .int .i64 blk, mv, sv, lv, bv, .int .i64 p.top, pv, .map (some mp), .int .i64 fi, kv] 79 (0, 0))
  pr : PR V0 sv bv kv lv pv mv mp nm f Y (metL G.ns.length p) p w
  lo : V0.heap.size ≤ b
  nx : NxtOk blk p Y
  nmk : nm ≤ K + p.met
  fst : Fst p fi
/-- Its blocks. -/
def PQ.S (b : Nat) (sv bv kv lv pv mv : Value) (mp : Nat) (f : Int → Value) (k : Nat) : Prop := k = b ∨ k = mp ∨ (∃ v ∈ [sv, bv, kv, lv, pv, mv], v.ownBlock = some k) ∨ ∃ c, (f c).ownBlock = some k
section
variable {V0 : World} {G : GraphD} {lim blk b : Nat} {sv bv kv lv pv mv : Value} {mp nm : Nat} {f : Int → Value} {Y : Int → List Nat} {K fi : Nat} {p : PlD} {w w' : World}
theorem PQ.grow (h : PQ V0 G lim blk b sv bv kv lv pv mv mp nm f Y K fi p w) (hx : Ext w w') : PQ V0 G lim blk b sv bv kv lv pv mv mp nm f Y K fi p w' :=
  ⟨(hx.block (lt_of_heap h.cel)).trans h.cel, h.pr.grow hx, h.lo, h.nx, h.nmk, h.fst⟩
end
/-- The same, wherever all lies; what was there before stands but for the plan's own blocks. -/
def PP (V0 : World) (G : GraphD) (lim blk b K : Nat) (p : PlD) (w : World) : Prop := ∃ sv bv kv lv pv mv mp nm f Y fi, PQ V0 G lim blk b sv bv kv lv pv mv mp nm f Y K fi p w
theorem PP.grow {V0 w w' : World} {G : GraphD} {lim blk b K : Nat} {p : PlD} (h : PP V0 G lim blk b K p w) (hx : Ext w w') : PP V0 G lim blk b K p w' := by
  obtain ⟨sv, bv, kv, lv, pv, mv, mp, nm, f, Y, fi, h⟩ := h
  exact ⟨sv, bv, kv, lv, pv, mv, mp, nm, f, Y, fi, h.grow hx⟩
theorem PP.ext {V0 w : World} {G : GraphD} {lim blk b K : Nat} {p : PlD} (h : PP V0 G lim blk b K p w) : Ext V0 w := by
  obtain ⟨sv, bv, kv, lv, pv, mv, mp, nm, f, Y, fi, h⟩ := h
  exact h.pr.ext
theorem PP.mono {V0 w : World} {G : GraphD} {lim blk b K K2 : Nat} {p : PlD} (h : PP V0 G lim blk b K p w) (hk : K ≤ K2) : PP V0 G lim blk b K2 p w := by
  obtain ⟨sv, bv, kv, lv, pv, mv, mp, nm, f, Y, fi, h⟩ := h
  exact ⟨sv, bv, kv, lv, pv, mv, mp, nm, f, Y, fi, h.cel, h.pr, h.lo, h.nx, by have := h.nmk; omega, h.fst⟩
section
variable {G : GraphD} {lim blk : Nat} {V : World}
theorem PP.new {V0 : World} {b mp : Nat} {mv : Value} {w : World} (ho : Own 4 1 boolC w V0.heap.size mv (List.replicate G.ns.length false)) (hm : MapV w mp 0 (fun _ => .slice none 0 0)) (hml : V0.heap.size ≤ mp) (hx : Ext V0 w)
    (hb : w.heap[b]? = some (.cells #[.slice G.nA G.ns.length G.ncap, .slice G.rA G.rs.length G.rcap, .int .i64 lim, .int .i64 blk, mv, .slice none 0 0, .slice none 0 0, .slice none 0 0, .int .i64 0, .slice none 0 0, .map (some mp), .int .i64 0, .slice none 0 0] 79 (0, 0))) (hlo : V0.heap.size ≤ b) : PP V0 G lim blk b 0 PlD.new w := by
  have hml' : metL G.ns.length PlD.new = List.replicate G.ns.length false := list_ext false (by simp [metL]) fun i hi => by
    rw [metL_len] at hi
    rw [metL_get hi]
    simp [PlD.has, PlD.new, hi]
  refine ⟨_, _, _, _, _, mv, mp, 0, fun _ => .slice none 0 0, fun _ => [], 0, hb, ⟨Own.nil _ _ _ _ _, Own.nil _ _ _ _ _, Own.nil _ _ _ _ _, Own.nil _ _ _ _ _, Own.nil _ _ _ _ _, by rw [hml']; exact ho, hm, fun _ => OwnO.nil _ _, ?_, ?_, ?_, hml, hx⟩, hlo, ?_, by simp, ⟨by simp, by omega⟩⟩
  · intro i j x y g hi hj hij hx hy
    have key : ∀ k z, [Value.slice none 0 0, .slice none 0 0, .slice none 0 0, .slice none 0 0, .slice none 0 0, mv][k]? = some z → z.ownBlock = some g → k = 5 := by
      intro k z hk hz
      match k, hk with
      | 0, hk => injection hk with hk; subst hk; cases hz
      | 1, hk => injection hk with hk; subst hk; cases hz
      | 2, hk => injection hk with hk; subst hk; cases hz
      | 3, hk => injection hk with hk; subst hk; cases hz
      | 4, hk => injection hk with hk; subst hk; cases hz
      | 5, hk => rfl
      | k + 6, hk => simp at hk
    exact hij ((key i x hi hx).trans (key j y hj hy).symm)
  · intro v hv c g hvg hfg
    cases hfg
  · intro c c' g hc h1
    cases h1
  · intro c
    exact ⟨[], by simp [placesP, PlD.new], by simp⟩
theorem newplan_any (hV : GraphAt V G) (hG : RchG G lim blk) :
    Calls Try.prog 46 #[.agg #[.slice G.nA G.ns.length G.ncap, .slice G.rA G.rs.length G.rcap], .int .i64 lim, .int .i64 blk] V fun e w' => ∃ b, e = .returned (.pointer (some ⟨b, 0, none⟩)) ∧ PP V G lim blk b 0 PlD.new w' := by
  have hx0 := (Ext.refl V).alloc (.cells #[.slice G.nA G.ns.length G.ncap, .slice G.rA G.rs.length G.rcap] 25)
  have hBx := pers_new V #[.slice G.nA G.ns.length G.ncap, .slice G.rA G.rs.length G.rcap] 25 _ rfl
  have HX := Lib.hid hx0
  have HN := Lib.hid hG.n
  have HVS : Hid (V.heap.size ≤ V.heap.size) := Lib.hid (Nat.le_refl _)
  clear hx0 hV hG
  go_enter Try.func46, Try.ntmps46
  go_wp2_with fail
  generalize V.alloc (.cells #[.slice G.nA G.ns.length G.ncap, .slice G.rA G.rs.length G.rcap] 25) = W at *
  have hyd := (Ext.refl W).drew
  have hGP : BoxK V.heap.size #[.slice G.nA G.ns.length G.ncap, .slice G.rA G.rs.length G.rcap] 25 W.drew := (hBx.re hyd).here
  have gB := hGP.cells
  (refine wp_region_gp (w := W) (fun w' => ∃ u : KeptOf (W).drew (BoxK V.heap.size #[.slice G.nA G.ns.length G.ncap, .slice G.rA G.rs.length G.rcap] 25), w' = u.1) (.rd [0, 1, 2, 3, 4, 5] (.fk 6 (.one 7 .tl) 7 (.one 6 .tl))) [8, 9, 10] (by kernel_rfl) (by kernel_rfl) (by intro c a d v w h; first | exact h | (cases d <;> first | exact h | (cases h; done) | cases h.1.1 | cases h.1)) (kept_mk hGP) ?_)
  (refine gp_rd ?_; (try simp only [opsOf, List.map_cons, List.map_nil, List.getD_cons_zero, List.getD_cons_succ]); (repeat (go_big_quiet_step (fail))); refine wpQuiet_nil ?_)
  refine gp_fk ?_ ?_
  · refine gp_one (by (try simp only [List.getD_cons_succ, List.getD_cons_zero]); rfl) (by rfl) ?_
    intro K hK
    refine wp_makeB (.tmp 12) rfl G.ns.length (by rfl) (by have := HN.out; omega) ?_
    intro wN ho hy
    have HO := Lib.hid (ho.mono (B' := V.heap.size) (HX.out.trans hyd).size)
    refine hK _ _ _ (fun _ h => h) (kept_mk (hGP.ext hy)) ?_
    clear hK K ho
    (refine gp_one (by (try simp only [List.getD_cons_succ, List.getD_cons_zero]); rfl) (by rfl) ?_; intro K hK; go_simp)
    refine hK _ _ _ (fun _ h => h) (kept_mk ((hGP.ext hy).ext ((Ext.refl _).alloc _))) ?_
    clear hK K gB
    (refine gp_tl ?_; (try simp only [opsOf, List.map_cons, List.map_nil, List.getD_cons_zero, List.getD_cons_succ]))
    have HXN := Lib.hid ((HX.out.trans hyd).trans hy)
    have HM := Lib.hid (MapV.made wN)
    have HOX := Lib.hid (HO.out.ext ((Ext.refl wN).alloc (.map #[] 0)))
    have HBX := Lib.hid (((hGP.ext hy).ext ((Ext.refl _).alloc (.map #[] 0))))
    clear HO hy hyd hGP
    go_wp2_with fail
    go_ret
    exact ⟨wN.heap.size + 1, rfl, PP.new (HOX.out.ext ((Ext.refl _).alloc _)) (HM.out.ext ((Ext.refl _).alloc _)) HXN.out.size ((HXN.out.alloc _).alloc _) (blk_new _ _ _ _ (by simp)) (by have := HXN.out.size; omega)⟩
  · (refine gp_one (by (try simp only [List.getD_cons_succ, List.getD_cons_zero]); rfl) (by rfl) ?_; intro K hK; go_simp)
    refine hK _ _ _ (fun _ h => h) (kept_mk (hGP.ext ((Ext.refl W.drew).alloc (.map #[] 0)))) ?_
    clear hK K gB
    have hGP2 := hGP.ext ((Ext.refl W.drew).alloc (.map #[] 0))
    have HM := Lib.hid (MapV.made W.drew)
    have hx2 := (HX.out.trans hyd).alloc (.map #[] 0)
    have hms := (HX.out.trans hyd).size
    refine gp_one (by (try simp only [List.getD_cons_succ, List.getD_cons_zero]); rfl) (by rfl) ?_
    intro K hK
    refine wp_makeB (.tmp 12) rfl G.ns.length (by rfl) (by have := HN.out; omega) ?_
    intro wN ho hy
    replace hy : Ext (W.drew.alloc (.map #[] 0)) wN := hy
    replace ho : Own 4 1 boolC wN V.heap.size (.slice (some ⟨(W.drew.alloc (.map #[] 0)).heap.size, 0, none⟩) G.ns.length G.ns.length) (List.replicate G.ns.length false) := ho.mono hx2.size
    have HO := Lib.hid ho
    refine hK _ _ _ (fun _ h => h) (kept_mk (hGP2.ext hy)) ?_
    clear hK K ho
    (refine gp_tl ?_; (try simp only [opsOf, List.map_cons, List.map_nil, List.getD_cons_zero, List.getD_cons_succ]))
    have HXN := Lib.hid (hx2.trans hy)
    replace HM := Lib.hid (HM.out.ext hy)
    have HMS := Lib.hid hms
    clear hy hyd hGP hGP2 hx2 hms
    go_wp2_with fail
    go_ret
    have ho := HO.out
    rw [show (W.drew.alloc (.map #[] 0)).heap.size = W.heap.size + 1 by simp] at ho
    have hm : MapV wN W.heap.size 0 (fun _ => .slice none 0 0) := HM.out
    exact ⟨wN.heap.size, rfl, PP.new (ho.ext ((Ext.refl _).alloc _)) (hm.ext ((Ext.refl _).alloc _)) HMS.out (HXN.out.alloc _) (blk_new _ _ _ _ rfl) HXN.out.size⟩
end
end Go.Proofs.Ytphpppjfogpohaa

