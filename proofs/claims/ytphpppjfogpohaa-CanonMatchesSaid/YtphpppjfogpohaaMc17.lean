/- Merged by program (merge.py) out of: RchD, RchE, RchF, RchG, RchU, CnP. -/
import Derived.Handy
import Derived.Test.YtphpppjfogpohaaMc16
import Derived.Test.YtphpppjfogpohaaMc8
/- The reference's plan: look. -/
set_option linter.unusedSimpArgs false
set_option linter.unusedVariables false
namespace Go.Proofs.Ytphpppjfogpohaa
open Go.RowKit Go.Shelf
set_option maxRecDepth 100000
set_option maxHeartbeats 2000000
theorem fold_take {α β : Type} {f : α → β → α} {a : α} {l : List β} {k : Nat} {d : β} (hk : k < l.length) : (l.take (k + 1)).foldl f a = f ((l.take k).foldl f a) (l.getD k d) := by
  rw [List.take_add_one, List.getElem?_eq_getElem hk, Option.toList_some, List.foldl_append, getD_get hk]
  rfl
theorem meet_old {E : PlE} {p : PlD} {v : Int × Int} (h : newP E p v = false) : meetP E true p v = meetP E false p v := by
  unfold newP at h
  unfold meetP
  by_cases hf : p.fresh v = true
  · rw [if_pos hf, if_pos hf]
    rw [hf] at h
    simp at h
    rw [if_pos h, if_pos h]
  · rw [if_neg hf, if_neg hf]
theorem meet_look {E : PlE} {p : PlD} {v : Int × Int} (hl : p.lk.length = p.small.length) (h : newP E p v = true) : (meetP E false p v).looked p.small.length = meetP E true p v := by
  obtain ⟨h1, h2⟩ := newP_iff.1 h
  unfold meetP
  rw [if_pos h1, if_pos h1, if_neg (by omega), if_neg (by omega)]
  simp [PlD.addS, PlD.looked, ← hl]
theorem meet_small {E : PlE} {p : PlD} {v : Int × Int} {mk : Bool} (h : newP E p v = true) : p.small.length < (meetP E mk p v).small.length := by
  obtain ⟨h1, h2⟩ := newP_iff.1 h
  unfold meetP
  rw [if_pos h1, if_neg (by omega)]
  simp [PlD.addS]
section
variable {V0 : World} {G : GraphD} {lim blk b : Nat} {V : World}
theorem rlook_wide (p : PlD) (l : List (Int × Int)) (A : Option Addr) (cap : Nat) (h : RP V0 G lim blk b p V) (hV : GraphAt V0 G) (hl : SpansAt V0 A l) (hll : l.length ≤ 8796093022208) (hv : valsOk G.ns.length l) (ho : PlOk (envG G lim blk) p) (ht : TopOk p) (hG : RchG G lim blk) :
    Calls Try.prog 71 #[.pointer (some ⟨b, 0, none⟩), .slice A l.length cap, .bool false] V fun e w' => e = .returned (.tuple #[]) ∧ RP V0 G lim blk b (allP (envG G lim blk) false p l) w' := by
  have H := Lib.hid h
  have HVG := Lib.hid hV
  have HL := Lib.hid hl
  have HV := Lib.hid hv
  have HO := Lib.hid ho
  have HT := Lib.hid ht
  have HG := Lib.hid hG
  clear h hV hl hv ho ht hG
  go_enter Try.func71, Try.ntmps71
  go_wp2_with fail
  go_loopw [6] (fun i wr => ∃ k : Nat, k ≤ l.length ∧ i = .int .i64 k ∧ Hid (RP V0 G lim blk b (allP (envG G lim blk) false p (l.take k)) wr)) (fun i _ => l.length - (intOf i).toNat)
  case atStart => exact ⟨0, by omega, rfl, H⟩
  case round =>
    obtain ⟨k, hk, rfl, HR⟩ := hrel
    by_cases hlt : k < l.length
    rotate_left
    · rw [List.take_of_length_le (by omega)] at HR
      go_wp2_with fail
      go_returns
      exact ⟨rfl, HR.out⟩
    have hvk : valsOk G.ns.length (l.take k) := fun v hv => HV.out v (List.mem_of_mem_take hv)
    have HO2 := Lib.hid (PlOk.all (mk := false) (E := envG G lim blk) HO.out (by rw [envG_n]; exact hvk))
    have HT2 := Lib.hid (TopOk.all (mk := false) HG.out HT.out hvk)
    have HE : Hid (allP (envG G lim blk) false p (l.take (k + 1)) = meetP (envG G lim blk) false (allP (envG G lim blk) false p (l.take k)) (l.getD k (0, 0))) := Lib.hid (fold_take hlt)
    have HVK := Lib.hid (HV.out _ (getD_mem (d := (0, 0)) hlt))
    obtain ⟨lb, off, rfl, hc⟩ := HL.out.get (by omega)
    obtain ⟨e1, e2⟩ := spans_cell hc hlt
    have hxr := HR.out.ext
    have c1 := hxr.cell e1
    have c2 := hxr.cell e2
    obtain ⟨sA, sc, bA, bc, kA, kc, lA, lc, pA, pc, hq⟩ := HR.out
    have k1 := (cells_of hq.blk).1
    have ib0 : (0 : Int) ≤ (k : Int) := by omega
    have ib1 : (k : Int) < (l.length : Int) := by omega
    clear hc e1 e2 hxr hvk hq
    generalize l.getD k (0, 0) = v at *
    generalize allP (envG G lim blk) false p (l.take k) = q at *
    go_wp2_with fail
    refine (rmeet_any HR.out HVG.out v HVK.out HO2.out HT2.out HG.out).mono ?_
    rintro e w1 ⟨rfl, hr⟩
    rw [← HE.out] at hr
    have HR2 := Lib.hid hr
    clear hr HE HR HO2 HT2 k1 c1 c2
    generalize newP (envG G lim blk) q v = nb at *
    cases nb
    all_goals
      go_wp2_with fail
      go_roundw
      case rel => exact ⟨k + 1, by omega, by go_num, HR2⟩
      case measure => simp [intOf]; omega
theorem rlook_deep (hV : GraphAt V0 G) (hG : RchG G lim blk) : ∀ (f : Nat) (p : PlD) (l : List (Int × Int)) (A : Option Addr) (cap : Nat) (V : World), RP V0 G lim blk b p V → SpansAt V0 A l → l.length ≤ 8796093022208 → valsOk G.ns.length l → PlOk (envG G lim blk) p → TopOk p → G.ns.length < f + p.met →
    Calls Try.prog 71 #[.pointer (some ⟨b, 0, none⟩), .slice A l.length cap, .bool true] V fun e w' => e = .returned (.tuple #[]) ∧ RP V0 G lim blk b (deepP (envG G lim blk) true f p l) w' := by
  have HVG := Lib.hid hV
  have HG := Lib.hid hG
  clear hV hG
  intro f
  induction f with
  | zero =>
    intro p l A cap V h hl hll hv ho ht hf
    have := ho.met_le
    rw [envG_n] at this
    omega
  | succ f ih =>
  intro p l A cap V h hl hll hv ho ht hf
  have IH := Lib.hid ih
  have H := Lib.hid h
  have HL := Lib.hid hl
  have HV := Lib.hid hv
  have HO := Lib.hid ho
  have HT := Lib.hid ht
  have HF := Lib.hid hf
  clear h hl hv ho ht ih hf
  go_enter Try.func71, Try.ntmps71
  go_wp2_with fail
  go_loopw [6] (fun i wr => ∃ k : Nat, k ≤ l.length ∧ i = .int .i64 k ∧ Hid (RP V0 G lim blk b (deepP (envG G lim blk) true (f + 1) p (l.take k)) wr)) (fun i _ => l.length - (intOf i).toNat)
  case atStart => exact ⟨0, by omega, rfl, H⟩
  case round =>
    obtain ⟨k, hk, rfl, HR⟩ := hrel
    by_cases hlt : k < l.length
    rotate_left
    · rw [List.take_of_length_le (by omega)] at HR
      go_wp2_with fail
      go_returns
      exact ⟨rfl, HR.out⟩
    have hvk : valsOk G.ns.length (l.take k) := fun v hv => HV.out v (List.mem_of_mem_take hv)
    obtain ⟨ho2, hm2⟩ := PlOk.deep (mk := true) (E := envG G lim blk) HG.out.env (f + 1) p (l.take k) HO.out (by rw [envG_n]; exact hvk)
    have HO2 := Lib.hid ho2
    have HF2 : Hid (G.ns.length < f + 1 + (deepP (envG G lim blk) true (f + 1) p (l.take k)).met) := Lib.hid (by have := HF.out; omega)
    have HT2 := Lib.hid (TopOk.deep (mk := true) HG.out (f + 1) p _ HT.out hvk)
    have HE : Hid (deepP (envG G lim blk) true (f + 1) p (l.take (k + 1)) = oneP (envG G lim blk) true f (deepP (envG G lim blk) true (f + 1) p (l.take k)) (l.getD k (0, 0))) := Lib.hid (fold_take hlt)
    have HVK := Lib.hid (HV.out _ (getD_mem (d := (0, 0)) hlt))
    obtain ⟨lb, off, rfl, hc⟩ := HL.out.get (by omega)
    obtain ⟨e1, e2⟩ := spans_cell hc hlt
    have E1 := Lib.hid e1
    have E2 := Lib.hid e2
    have hxr := HR.out.ext
    have c1 := hxr.cell e1
    have c2 := hxr.cell e2
    obtain ⟨sA, sc, bA, bc, kA, kc, lA, lc, pA, pc, hq⟩ := HR.out
    have k1 := (cells_of hq.blk).1
    have ib0 : (0 : Int) ≤ (k : Int) := by omega
    have ib1 : (k : Int) < (l.length : Int) := by omega
    clear hc e1 e2 hxr hvk hq ho2 hm2
    generalize l.getD k (0, 0) = v at *
    generalize deepP (envG G lim blk) true (f + 1) p (l.take k) = q at *
    go_wp2_with fail
    refine (rmeet_any HR.out HVG.out v HVK.out HO2.out HT2.out HG.out).mono ?_
    rintro e w1 ⟨rfl, hr⟩
    cases hn : newP (envG G lim blk) q v with
    | false =>
      rw [← meet_old hn, show meetP (envG G lim blk) true q v = oneP (envG G lim blk) true f q v by rw [oneP, if_neg (by rw [hn]; decide)], ← HE.out] at hr
      have HR2 := Lib.hid hr
      clear hr HE HR HO2 HT2 k1 c1 c2 hn
      go_wp2_with fail
      go_roundw
      case rel => exact ⟨k + 1, by omega, by go_num, HR2⟩
      case measure => simp [intOf]; omega
    | true =>
      have HN := Lib.hid hn
      have hvn := new_lt (E := envG G lim blk) (by rw [envG_n]; exact HVK.out) hn
      have hx2 : v.1 = 2 := (PlD.fresh_iff.1 (newP_iff.1 hn).1).1
      obtain ⟨hx0, hx1⟩ := HVK.out hx2
      obtain ⟨x, hvx⟩ := Int.eq_ofNat_of_zero_le hx0
      rw [hvx] at c2
      have hxl : x < G.ns.length := by omega
      obtain ⟨nb, noff, hA, hcn⟩ := HVG.out.nodes.row.get (by omega)
      obtain ⟨d0, d1, d2⟩ := nodes_cell hcn hxl
      have hlen := meet_small (mk := false) hn
      obtain ⟨sA2, sc2, bA2, bc2, kA2, kc2, lA2, lc2, pA2, pc2, hq2⟩ := hr
      have hlk2 : (meetP (envG G lim blk) false q v).lk.length = (meetP (envG G lim blk) false q v).small.length := (HO2.out.meet fun e => by rw [envG_n]; have := HVK.out e; omega).ll
      have hne : (meetP (envG G lim blk) false q v).lk ≠ [] := fun e => by rw [e] at hlk2; simp at hlk2; omega
      obtain ⟨kg, rfl, hkg, hkl⟩ := own_some hq2.ok hne
      have HQ2 := Lib.hid hq2
      have HML := Lib.hid (meet_look HO2.out.ll hn)
      have HOM := Lib.hid (HO2.out.meet (mk := true) fun e => by rw [envG_n]; have := HVK.out e; omega)
      have HTM := Lib.hid (HT2.out.meet (mk := true) HG.out HVK.out)
      have HFM : Hid (G.ns.length < f + (meetP (envG G lim blk) true q v).met) := Lib.hid (by rw [new_met hn]; have := HF2.out; omega)
      have HFS : Hid ((envG G lim blk).fs x = (G.ns.getD x default).fields) := Lib.hid (envG_fs x hxl)
      have HNA := Lib.hid (HVG.out.nodes.each _ (getD_mem (d := default) hxl))
      have HNV : Hid (valsOk G.ns.length (G.ns.getD x default).fields) := Lib.hid (by
        have := HG.out.env x (by rw [envG_n]; exact hxl)
        rw [envG_n, HFS.out] at this
        exact this)
      have HNF := Lib.hid (HG.out.f _ (getD_mem (d := default) hxl))
      have HEQ : Hid (oneP (envG G lim blk) true f q v = deepP (envG G lim blk) true f (meetP (envG G lim blk) true q v) (G.ns.getD x default).fields) := Lib.hid (by
        rw [oneP, if_pos hn, show v.2.toNat = x by omega, HFS.out])
      have k2 := (cells_of hq2.blk).1
      obtain ⟨kcur, hkc⟩ := own_heap hq2.ok
      have fk := (cells_of hkc).2
      have ck := own_boolAt hq2.ok rfl (k := q.small.length) (by omega)
      have jb0 : (q.small.length : Int) < ((meetP (envG G lim blk) false q v).lk.length : Int) := by omega
      have jb1 : (0 : Int) ≤ (q.small.length : Int) := by omega
      have jx0 : (0 : Int) ≤ (x : Int) := by omega
      have jx1 : (x : Int) < (G.ns.length : Int) := by omega
      rw [hA] at k2
      have D0 := Lib.hid d0
      have D1 := Lib.hid d1
      have D2 := Lib.hid d2
      clear hq2 HR HO2 HT2 k1 c1 c2 hvn hx2 hx0 hx1 hxl hcn d0 d1 d2 hlen hlk2 hne hkg hkl hkc hn HVK HF2
      generalize G.ns.getD x default = y at *
      generalize meetP (envG G lim blk) false q v = q2 at *
      generalize hqs : q.small.length = qs at *
      clear hqs
      go_wp2_with fail
      have hq3 := HQ2.out.look rfl qs
      rw [HML.out] at hq3
      generalize w1.setCell ⟨kg, qs, none⟩ (.bool true) = W2 at *
      have HR3 : Hid (RP V0 G lim blk b (meetP (envG G lim blk) true q v) W2) := Lib.hid ⟨_, _, _, _, _, _, _, _, _, _, hq3⟩
      have hx3 := hq3.ext
      have l1 := (pers_blk hq3.blk).cells
      simp only [hA] at l1
      have l2 := pers_cell (hx3.cell E2.out)
      rw [hvx] at l2
      have l3 := pers_cell (hx3.cell D0.out)
      have l4 := pers_cell (hx3.cell D1.out)
      have l5 := pers_cell (hx3.cell D2.out)
      have hs0 : Ext W2 W2 := Ext.refl _
      clear k2 fk ck jb0 jb1 HQ2 hq3
      (refine wp_region_ext_tail (W := W2) 14 (by kernel_rfl) (by kernel_rfl) (by with_reducible assumption) ?_; simp only [List.take_succ_cons, List.take_zero, List.drop_succ_cons, List.drop_zero]; (repeat (go_big_quiet_step (fail))); refine wpQuiet_nil ?_; intro w1 hx)
      have HR4 := Lib.hid (HR3.out.grow hx)
      clear hx hs0 l1 l2 l3 l4 l5 HR3
      go_wp2_with fail
      refine (IH.out _ _ y.fA y.fcap _ HR4.out HNA.out.fields (by have := HNF.out; omega) HNV.out HOM.out HTM.out HFM.out).mono ?_
      rintro e w5 ⟨rfl, hr⟩
      rw [← HEQ.out, ← HE.out] at hr
      have HR5 := Lib.hid hr
      clear hr HR4
      go_wp2_with fail
      go_roundw
      case rel => exact ⟨k + 1, by omega, by go_num, HR5⟩
      case measure => simp [intOf]; omega
end
end Go.Proofs.Ytphpppjfogpohaa

/- The reference's plan: first; next. -/
set_option linter.unusedSimpArgs false
set_option linter.unusedVariables false
namespace Go.Proofs.Ytphpppjfogpohaa
open Go.RowKit Go.Shelf
set_option maxRecDepth 100000
set_option maxHeartbeats 2000000
def condP (p : PlD) (P : Nat → Bool) (i : Nat) : Bool := !p.lk.getD i true && P (p.begins.getD i 0)
theorem firstP_hit {p : PlD} {P : Nat → Bool} {k : Nat} (hk : k < p.small.length) (h : condP p P k = true) (hq : ∀ i, i < k → condP p P i = false) : firstP p P = some k := by
  unfold firstP
  rw [List.find?_eq_some_iff_getElem]
  refine ⟨h, k, by simpa using hk, by simp, fun j hj => ?_⟩
  have := hq j hj
  unfold condP at this
  rw [List.getElem_range, this]
  rfl
theorem firstP_miss {p : PlD} {P : Nat → Bool} (hq : ∀ i, i < p.small.length → condP p P i = false) : firstP p P = none := by
  unfold firstP
  rw [List.find?_eq_none]
  intro x hx
  have := hq x (List.mem_range.1 hx)
  unfold condP at this
  rw [this]
  decide
def optZ : Option Nat → Int
  | none => -1
  | some i => i
/-- Of a block, or of all. -/
def ofBlk (blk : Nat) : Option Nat → Nat → Bool
  | none, _ => true
  | some c, x => decide (x / blk = c)
section
variable {V0 : World} {G : GraphD} {lim blk b : Nat} {V : World} {p : PlD}
theorem rfirst_any (h : RP V0 G lim blk b p V) (ho : PlOk (envG G lim blk) p) (ht : TopOk p) (hG : RchG G lim blk) (c : Option Nat) :
    Calls Try.prog 86 #[.pointer (some ⟨b, 0, none⟩), .int .i64 (optZ c)] V fun e w' => e = .returned (.int .i64 (optZ (firstP p (ofBlk blk c)))) ∧ Ext V w' := by
  obtain ⟨sA, sc, bA, bc, kA, kc, lA, lc, pA, pc, hq⟩ := h
  have HQ : Pers V (fun w => RQ V0 G lim blk b sA sc bA bc kA kc lA lc pA pc p w) := fun w k => hq.grow k
  have hmet := ho.met_le
  have hn := hG.n
  rw [envG_n] at hmet
  unfold PlD.met at hmet
  have hsl : p.small.length ≤ 60 := by omega
  have HLL := Lib.hid ho.ll
  have HBL := Lib.hid ho.bl
  have hb1 : (1 : Int) ≤ (blk : Int) := by have := hG.bk.1; omega
  have HTP : Hid (∀ x ∈ p.begins, x ≤ 600000) := Lib.hid fun x hx => by have h1 := ht.2.2 x hx; have h2 := ht.1; omega
  clear hq hmet hn ho ht
  go_enter Try.func86, Try.ntmps86
  go_wp2_with fail
  go_loopw [5] (fun i wr => ∃ k : Nat, k ≤ p.small.length ∧ i = .int .i64 k ∧ Ext V wr ∧ Hid (∀ i, i < k → condP p (ofBlk blk c) i = false)) (fun i _ => p.small.length - (intOf i).toNat)
  case atStart => exact ⟨0, by omega, rfl, Ext.refl _, Lib.hid (by omega)⟩
  case round =>
    obtain ⟨k, hk, rfl, hxr, HC⟩ := hrel
    have hqr := HQ.at hxr
    have k1 := (cells_of hqr.blk).1
    by_cases hlt : k < p.small.length
    rotate_left
    · have HM := Lib.hid (firstP_miss (p := p) (P := ofBlk blk c) fun i hi => HC.out i (by omega))
      have dk : decide (k < p.small.length) = false := by simpa using hlt
      go_wp2_with fail
      go_ret
      exact ⟨ret_int (by rw [HM.out]; rfl), hxr⟩
    have dk : decide (k < p.small.length) = true := by simpa using hlt
    have HIT := Lib.hid (fun h => firstP_hit (p := p) (P := ofBlk blk c) hlt h HC.out)
    have HNX : Hid (condP p (ofBlk blk c) k = false → ∀ i, i < k + 1 → condP p (ofBlk blk c) i = false) := Lib.hid (fun h i hi => by
      rcases Nat.lt_or_ge i k with h' | h'
      · exact HC.out i h'
      · obtain rfl : i = k := by omega
        exact h)
    obtain ⟨kg, rfl, _, _⟩ := own_some hqr.ok (fun e => by have := HLL.out; rw [e] at this; simp at this; omega)
    obtain ⟨bg, rfl, _, _⟩ := own_some hqr.ob (fun e => by have := HBL.out; have e2 : p.begins.length = 0 := by rw [← ordZ_len, e]; rfl
                                                           omega)
    have ck := own_boolAt hqr.ok rfl (k := k) (by have := HLL.out; omega)
    have cb := own_intAt hqr.ob ordZ_len (k := k) (by have := HBL.out; omega)
    rw [ordZ_get (o := p.begins) (i := k) (by have := HBL.out; omega)] at cb
    have hcond : condP p (ofBlk blk c) k = (!p.lk.getD k false && ofBlk blk c (p.begins.getD k 0)) := by
      unfold condP
      rw [getD_get (l := p.lk) (i := k) (d := true) (by have := HLL.out; omega), getD_get (l := p.lk) (i := k) (d := false) (by have := HLL.out; omega)]
    have HCD := Lib.hid hcond
    have jb0 : (k : Int) < (p.lk.length : Int) := by have := HLL.out; omega
    have jb1 : (k : Int) < (p.begins.length : Int) := by have := HBL.out; omega
    have jb2 : (0 : Int) ≤ (k : Int) := by omega
    have hz1 : ((p.begins.getD k 0 : Nat) : Int) ≤ 9223372036854775807 := by have := HTP.out _ (getD_mem (l := p.begins) (d := 0) (k := k) (by have := HBL.out; omega)); omega
    have hz0 : (0 : Int) ≤ ((p.begins.getD k 0 : Nat) : Int) := by omega
    have l1 := (pers_blk hqr.blk).cells
    have l2 := pers_cell ck
    have l3 := pers_cell cb
    have hs0 : Ext wr wr := Ext.refl _
    have HLT := Lib.hid hlt
    clear hcond ck cb hqr HC hlt
    generalize p.begins.getD k 0 = z at *
    generalize p.lk.getD k false = kb at *
    cases kb with
    | true =>
      have HN := Lib.hid (HNX.out (by rw [HCD.out]; rfl))
      clear HNX HIT HCD
      go_wp2_with fail
      (refine wp_region_ext (W := wr) (by kernel_rfl) (by kernel_rfl) (by with_reducible assumption) ?_; (repeat (go_big_quiet_step (fail))); refine wpQuiet_nil ?_; intro w1 hx)
      go_wp2_with fail
      go_roundw
      case rel => exact ⟨k + 1, by have := HLT.out; omega, by go_num, hxr.trans hx, HN⟩
      case measure => have := HLT.out; simp [intOf]; omega
    | false =>
      cases c with
      | none =>
        have HI := Lib.hid (HIT.out (by rw [HCD.out]; rfl))
        clear HNX HIT HCD
        simp only [optZ]
        go_wp2_with fail
        (refine wp_region_ext (W := wr) (by kernel_rfl) (by kernel_rfl) (by with_reducible assumption) ?_; (repeat (go_big_quiet_step (fail))); refine wpQuiet_nil ?_; intro w1 hx)
        go_wp2_with fail
        go_ret
        exact ⟨ret_int (by rw [HI.out]; rfl), hxr.trans hx⟩
      | some c =>
        have dc : decide (((c : Nat) : Int) < 0) = false := by simp
        simp only [optZ]
        have hw : wrap64 ((z : Int) / (blk : Int)) = ((z / blk : Nat) : Int) := by
          have h2 := Nat.div_le_self z blk
          rw [show (z : Int) / (blk : Int) = ((z / blk : Nat) : Int) from rfl]
          generalize z / blk = q at *
          exact IntWalk.wrap64_in _ ⟨by omega, by omega⟩
        by_cases hz : z / blk = c
        · have HI := Lib.hid (HIT.out (by rw [HCD.out]; simp [ofBlk, hz]))
          have dz : (wrap64 ((z : Int) / (blk : Int)) == (c : Int)) = true := by rw [hw, beq_iff_eq, hz]
          clear HNX HIT HCD hz hw
          go_wp2_with fail
          (refine wp_region_ext (W := wr) (by kernel_rfl) (by kernel_rfl) (by with_reducible assumption) ?_; (repeat (go_big_quiet_step (fail))); refine wpQuiet_nil ?_; intro w1 hx)
          go_wp2_with fail
          go_ret
          exact ⟨ret_int (by rw [HI.out]; rfl), hxr.trans hx⟩
        · have HN := Lib.hid (HNX.out (by rw [HCD.out]; simp [ofBlk, hz]))
          have dz : (wrap64 ((z : Int) / (blk : Int)) == (c : Int)) = false := by rw [hw, beq_eq_false_iff_ne]; omega
          clear HNX HIT HCD hz hw
          go_wp2_with fail
          (refine wp_region_ext (W := wr) (by kernel_rfl) (by kernel_rfl) (by with_reducible assumption) ?_; (repeat (go_big_quiet_step (fail))); refine wpQuiet_nil ?_; intro w1 hx)
          go_wp2_with fail
          go_roundw
          case rel => exact ⟨k + 1, by have := HLT.out; omega, by go_num, hxr.trans hx, HN⟩
          case measure => have := HLT.out; simp [intOf]; omega
/-- The reference's next. -/
theorem rnext_any (h : RP V0 G lim blk b p V) (ho : PlOk (envG G lim blk) p) (ht : TopOk p) (hG : RchG G lim blk) (o : Nat) (hoo : o ≤ 2) :
    Calls Try.prog 72 #[.pointer (some ⟨b, 0, none⟩), .int .i64 o] V fun e w' => e = .returned (.int .i64 (optZ (nextP (envG G lim blk) o p))) ∧ Ext V w' := by
  obtain ⟨sA, sc, bA, bc, kA, kc, lA, lc, pA, pc, hq⟩ := h
  have HQ : Pers V (fun w => RQ V0 G lim blk b sA sc bA bc kA kc lA lc pA pc p w) := fun w k => hq.grow k
  have HF := Lib.hid (fun (c : Option Nat) w (hw : RQ V0 G lim blk b sA sc bA bc kA kc lA lc pA pc p w) => rfirst_any ⟨_, _, _, _, _, _, _, _, _, _, hw⟩ ho ht hG c)
  have k1 := (cells_of hq.blk).1
  by_cases h2 : o = 2
  rotate_left
  · have HN : Hid (nextP (envG G lim blk) o p = firstP p (ofBlk blk none)) := Lib.hid (by unfold nextP; rw [if_neg h2]; rfl)
    have d2 : ((o : Int) == 2) = false := by rw [beq_eq_false_iff_ne]; omega
    have Z : ∀ w, RQ V0 G lim blk b sA sc bA bc kA kc lA lc pA pc p w → Calls Try.prog 86 #[.pointer (some ⟨b, 0, none⟩), .int .i64 (-1)] w fun e w' => e = .returned (.int .i64 (optZ (firstP p (ofBlk blk none)))) ∧ Ext w w' := HF.out none
    have HZ := Lib.hid Z
    clear HF Z hq ho ht hG h2
    go_enter Try.func72, Try.ntmps72
    go_wp2_with fail
    refine (HZ.out _ HQ.here).mono ?_
    rintro e w1 ⟨rfl, hx⟩
    go_wp2_with fail
    go_ret
    exact ⟨ret_int (by rw [HN.out]), hx⟩
  subst h2
  by_cases hs : p.small = []
  · have hb : p.begins = [] := List.eq_nil_of_length_eq_zero (by rw [ho.bl, hs]; rfl)
    have HN : Hid (nextP (envG G lim blk) 2 p = firstP p (ofBlk blk none)) := Lib.hid (by
      unfold nextP
      rw [if_pos rfl]
      have : ∀ P, firstP p P = none := fun P => by unfold firstP; rw [hs]; rfl
      simp only [this])
    have Z : ∀ w, RQ V0 G lim blk b sA sc bA bc kA kc lA lc pA pc p w → Calls Try.prog 86 #[.pointer (some ⟨b, 0, none⟩), .int .i64 (-1)] w fun e w' => e = .returned (.int .i64 (optZ (firstP p (ofBlk blk none)))) ∧ Ext w w' := HF.out none
    have HZ := Lib.hid Z
    have d0 : p.small.length = 0 := by rw [hs]; rfl
    rw [d0] at k1
    clear HF Z hq ho ht hG hs hb d0
    go_enter Try.func72, Try.ntmps72
    go_wp2_with fail
    refine (HZ.out _ HQ.here).mono ?_
    rintro e w1 ⟨rfl, hx⟩
    go_wp2_with fail
    go_ret
    exact ⟨ret_int (by rw [HN.out]), hx⟩
  · have hbn : p.begins.length ≠ 0 := fun e => hs (List.eq_nil_of_length_eq_zero (by rw [← ho.bl, e]))
    obtain ⟨m, hm⟩ : ∃ m, p.begins.length = m + 1 := ⟨p.begins.length - 1, by omega⟩
    have hzb := ht.2.2 _ (getD_mem (l := p.begins) (d := 0) (k := m) (by omega))
    have hmet := ho.met_le
    have hn := hG.n
    rw [envG_n] at hmet
    unfold PlD.met at hmet
    have htop := ht.1
    have hbl := ho.bl
    have hz1 : ((p.begins.getD m 0 : Nat) : Int) ≤ 9223372036854775807 := by omega
    have hz0 : (0 : Int) ≤ ((p.begins.getD m 0 : Nat) : Int) := by omega
    have hb1 : (1 : Int) ≤ (blk : Int) := by have := hG.bk.1; omega
    obtain ⟨bg, rfl, _, _⟩ := own_some hq.ob (fun e => by have e2 : p.begins.length = 0 := by rw [← ordZ_len, e]; rfl
                                                          omega)
    have cb := own_intAt hq.ob ordZ_len (k := m) (by omega)
    rw [ordZ_get (o := p.begins) (i := m) (by omega)] at cb
    have hns : ∃ n, p.small.length = n + 1 := ⟨m, by omega⟩
    obtain ⟨n, hns⟩ := hns
    have hm60 : m ≤ 100 := by omega
    have HN : Hid (nextP (envG G lim blk) 2 p = match firstP p (ofBlk blk (some (p.begins.getD m 0 / blk))) with
      | some i => some i
      | none => firstP p (ofBlk blk none)) := Lib.hid (by
      unfold nextP
      rw [if_pos rfl, hm, Nat.add_sub_cancel]
      rfl)
    have hw : wrap64 ((p.begins.getD m 0 : Nat) / (blk : Int)) = ((p.begins.getD m 0 / blk : Nat) : Int) := by
      have h2 := Nat.div_le_self (p.begins.getD m 0) blk
      rw [show ((p.begins.getD m 0 : Nat) : Int) / (blk : Int) = ((p.begins.getD m 0 / blk : Nat) : Int) from rfl]
      generalize p.begins.getD m 0 / blk = q at *
      exact IntWalk.wrap64_in _ ⟨by omega, by omega⟩
    generalize p.begins.getD m 0 = z at *
    have HZ := Lib.hid (fun u : ExtOf V => HF.out (some (z / blk)) u.1 (HQ u.1 u.2))
    have HZ2 : Hid (∀ w, RQ V0 G lim blk b sA sc (some ⟨bg, 0, none⟩) bc kA kc lA lc pA pc p w → Calls Try.prog 86 #[.pointer (some ⟨b, 0, none⟩), .int .i64 (-1)] w fun e w' => e = .returned (.int .i64 (optZ (firstP p (ofBlk blk none)))) ∧ Ext w w') := Lib.hid (HF.out none)
    simp only [show optZ (some (z / blk)) = ((z / blk : Nat) : Int) from rfl, ← hw] at HZ
    generalize firstP p (ofBlk blk (some (z / blk))) = r1 at *
    have HW := Lib.hid hw
    have l1 := (pers_blk hq.blk).cells
    rw [hm, hns] at l1
    rw [hns, hm] at k1
    have l3 := pers_cell cb
    have hs0 : Ext V V := Ext.refl _
    have jm : wrap64 (((m + 1 : Nat) : Int) - 1) = (m : Int) := by unfold wrap64; omega
    have j0 : (0 : Int) ≤ (m : Int) := by omega
    have j1 : (m : Int) < ((m + 1 : Nat) : Int) := by omega
    clear HF hq ho ht hG hs hbn hzb hmet hn htop hbl cb hw hm hns
    cases r1 with
    | some i =>
      go_enter Try.func72, Try.ntmps72
      go_wp2_with fail
      (refine wp_region_ext (W := V) (by kernel_rfl) (by kernel_rfl) (by with_reducible assumption) ?_; (repeat (go_big_quiet_step (first | (go_at_call 86; with_reducible exact Calls.ext_of (HZ.out _))))); refine wpQuiet_nil ?_; intro w1 hx)
      go_wp2_with fail
      go_ret
      exact ⟨ret_int (by rw [HN.out]), hx⟩
    | none =>
      go_enter Try.func72, Try.ntmps72
      go_wp2_with fail
      (refine wp_region_ext (W := V) (by kernel_rfl) (by kernel_rfl) (by with_reducible assumption) ?_; (repeat (go_big_quiet_step (first | (go_at_call 86; with_reducible exact Calls.ext_of (HZ.out _))))); refine wpQuiet_nil ?_; intro w1 hx)
      go_wp2_with fail
      refine (HZ2.out _ (HQ.at hx)).mono ?_
      rintro e w2 ⟨rfl, hx2⟩
      go_wp2_with fail
      go_ret
      exact ⟨ret_int (by rw [HN.out]), hx.trans hx2⟩
end
end Go.Proofs.Ytphpppjfogpohaa

/- The reference's plan: Run. -/
set_option linter.unusedSimpArgs false
set_option linter.unusedVariables false
namespace Go.Proofs.Ytphpppjfogpohaa
open Go.RowKit Go.Shelf
set_option maxRecDepth 100000
set_option maxHeartbeats 2000000
theorem exists_least {P : Nat → Prop} (h : ∃ n, P n) : ∃ n, P n ∧ ∀ m, P m → n ≤ m := by
  obtain ⟨n, hn⟩ := h
  induction n using Nat.strongRecOn with
  | _ n ih =>
    by_cases hl : ∃ m, m < n ∧ P m
    · obtain ⟨m, hm, hp⟩ := hl
      exact ih m hm hp
    · exact ⟨n, hn, fun m hm => Nat.le_of_not_lt fun hlt => hl ⟨m, hlt, hm⟩⟩
/-- The least number of a kind; 0. -/
noncomputable def leastN (P : Nat → Prop) : Nat := open Classical in if h : ∃ n, P n then Classical.choose (exists_least h) else 0
theorem leastN_spec {P : Nat → Prop} (h : ∃ n, P n) : P (leastN P) ∧ ∀ m, P m → leastN P ≤ m := by
  unfold leastN
  rw [dif_pos h]
  exact Classical.choose_spec (exists_least h)
section
variable {V0 : World} {G : GraphD} {lim blk b : Nat} {V : World} {p : PlD} {o : Nat}
theorem TopOk.look (hG : RchG G lim blk) (h : TopOk p) {l : List (Int × Int)} (hl : valsOk G.ns.length l) : TopOk (lookP (envG G lim blk) o p l) := by
  unfold lookP
  split
  · exact TopOk.deep hG _ _ _ h hl
  · exact h.all hG hl
theorem rlook_any (h : RP V0 G lim blk b p V) (hV : GraphAt V0 G) (hG : RchG G lim blk) (o : Nat) (l : List (Int × Int)) (A : Option Addr) (cap : Nat) (hl : SpansAt V0 A l) (hll : l.length ≤ 8796093022208) (hv : valsOk G.ns.length l) (ho : PlOk (envG G lim blk) p) (ht : TopOk p) :
    Calls Try.prog 71 #[.pointer (some ⟨b, 0, none⟩), .slice A l.length cap, .bool (decide (o = 1))] V fun e w' => e = .returned (.tuple #[]) ∧ RP V0 G lim blk b (lookP (envG G lim blk) o p l) w' := by
  unfold lookP
  by_cases h1 : o = 1
  · rw [decide_eq_true h1, if_pos h1]
    exact rlook_deep hV hG _ p l A cap V h hl hll hv ho ht (by rw [envG_n]; omega)
  · rw [decide_eq_false h1, if_neg h1]
    exact rlook_wide p l A cap h hV hl hll hv ho ht hG
/-- What a run's loop keeps, with so many rounds left. -/
def RunI (V0 : World) (G : GraphD) (lim blk b o : Nat) (R : PlD) (f : Nat) (w : World) : Prop :=
  ∃ p, RP V0 G lim blk b p w ∧ PlInv (envG G lim blk) G.rs p ∧ TopOk p ∧ leftP (envG G lim blk) p < f ∧ runP (envG G lim blk) o f p = R
theorem RP.new (hlo : V0.heap.size ≤ b) (hx : Ext V0 V) (hb : V.heap[b]? = some (.cells #[.slice G.nA G.ns.length G.ncap, .slice G.rA G.rs.length G.rcap, .int .i64 lim, .int .i64 blk, .slice none 0 0, .slice none 0 0, .slice none 0 0, .slice none 0 0, .slice none 0 0, .int .i64 0] 83 (0, 0))) : RP V0 G lim blk b PlD.new V :=
  ⟨none, 0, none, 0, none, 0, none, 0, none, 0, hb, Own.nil _ _ _ _ _, Own.nil _ _ _ _ _, Own.nil _ _ _ _ _, Own.nil _ _ _ _ _, Own.nil _ _ _ _ _, (by
    intro i j x y g hi hj hij hx hy
    have : ∀ z ∈ [Value.slice none 0 0, Value.slice none 0 0, Value.slice none 0 0, Value.slice none 0 0, Value.slice none 0 0], z.ownBlock = none := by simp [Value.ownBlock]
    have := this x (List.mem_of_getElem? hi)
    rw [this] at hx
    cases hx), hx, hlo⟩
theorem rrun_any (hV : GraphAt V G) (hG : RchG G lim blk) (hoo : o ≤ 2) :
    Calls Try.prog 48 #[.agg #[.slice G.nA G.ns.length G.ncap, .slice G.rA G.rs.length G.rcap], .int .i64 lim, .int .i64 o, .int .i64 blk] V fun e w' => ∃ V0 b, e = .returned (.pointer (some ⟨b, 0, none⟩)) ∧ Ext V V0 ∧ RP V0 G lim blk b (planP (envG G lim blk) o G.rs) w' := by
  have hx0 := (Ext.refl V).alloc (.cells #[.slice G.nA G.ns.length G.ncap, .slice G.rA G.rs.length G.rcap] 25)
  have hBx := pers_new V #[.slice G.nA G.ns.length G.ncap, .slice G.rA G.rs.length G.rcap] 25 _ rfl
  have HX := Lib.hid hx0
  have HVG := Lib.hid (hV.ext hx0)
  have HG := Lib.hid hG
  have HNV := Lib.hid (new_inv (o := o) (roots := G.rs) hG.env (by rw [envG_n]; have := hG.pg.roots; simpa using this))
  have HT := Lib.hid (TopOk.look (o := o) (p := PlD.new) hG ⟨by simp [PlD.new], by simp [PlD.new], by simp [PlD.new]⟩ (l := G.rs) (by have := hG.pg.roots; simpa using this))
  have HRL : Hid (G.rs.length ≤ 8796093022208) := Lib.hid (by have := hG.r; omega)
  have HVR : Hid (valsOk G.ns.length G.rs) := Lib.hid (by have := hG.pg.roots; simpa using this)
  have d1 : ((o : Int) == 1) = decide (o = 1) := by
    by_cases h : o = 1
    · subst h; rfl
    · rw [decide_eq_false h, beq_eq_false_iff_ne]; omega
  clear hx0 hV hG
  have kB := (cells_of hBx.here).1
  go_enter Try.func48, Try.ntmps48
  go_wp2_with fail
  generalize hW0 : V.alloc (.cells #[.slice G.nA G.ns.length G.ncap, .slice G.rA G.rs.length G.rcap] 25) = W0 at *
  have hsz : W0.heap.size = V.heap.size + 1 := by rw [← hW0]; simp
  have hN := RP.new (G := G) (lim := lim) (blk := blk) (b := V.heap.size + 1) (V0 := W0) (by omega) ((Ext.refl W0).alloc (.cells #[.slice G.nA G.ns.length G.ncap, .slice G.rA G.rs.length G.rcap, .int .i64 lim, .int .i64 blk, .slice none 0 0, .slice none 0 0, .slice none 0 0, .slice none 0 0, .slice none 0 0, .int .i64 0] 83)) (blk_new W0 _ _ _ hsz)
  have HBN : Hid (∀ g, g < W0.heap.size → g ≠ V.heap.size + 1) := Lib.hid (fun g hg => by omega)
  have HVB : Hid (V.heap.size < W0.heap.size) := Lib.hid (by omega)
  clear hW0 hsz
  generalize V.heap.size + 1 = b at *
  refine (rlook_any hN HVG.out HG.out o G.rs G.rA G.rcap HVG.out.roots HRL.out HVR.out PlOk.new ⟨by simp [PlD.new], by simp [PlD.new], by simp [PlD.new]⟩).mono ?_
  rintro e w1 ⟨rfl, hr⟩
  have HR := Lib.hid hr
  clear hr hN kB
  go_wp2_with fail
  have HI : Hid (∃ f, RunI W0 G lim blk b o (planP (envG G lim blk) o G.rs) f w1) := Lib.hid ⟨_, _, HR.out, HNV.out.1, HT.out, HNV.out.2, rfl⟩
  clear HR HNV HT
  generalize hPR : planP (envG G lim blk) o G.rs = R at *
  have HPR := Lib.hid hPR
  clear hPR
  go_loopw [] (fun wr => ∃ f, Hid (RunI W0 G lim blk b o R f wr)) (fun wr => leastN (fun f => RunI W0 G lim blk b o R f wr))
  case atStart => obtain ⟨f, hf⟩ := HI.out; exact ⟨f, Lib.hid hf⟩
  case round =>
    obtain ⟨f0, hf0⟩ := hrel
    obtain ⟨hI, hmin⟩ := leastN_spec (P := fun f => RunI W0 G lim blk b o R f wr) ⟨f0, hf0.out⟩
    have HLS : Hid (∀ (w' : World) (g : Nat), RunI W0 G lim blk b o R g w' → g < leastN (fun f => RunI W0 G lim blk b o R f wr) → leastN (fun f => RunI W0 G lim blk b o R f w') < leastN (fun f => RunI W0 G lim blk b o R f wr)) := Lib.hid (fun w' g hg hlt => Nat.lt_of_le_of_lt ((leastN_spec (P := fun f => RunI W0 G lim blk b o R f w') ⟨g, hg⟩).2 g hg) hlt)
    generalize leastN (fun f => RunI W0 G lim blk b o R f wr) = f at *
    obtain ⟨p, hp, hi, ht, hlf, hrun⟩ := hI
    obtain ⟨g, rfl⟩ : ∃ g, f = g + 1 := ⟨f - 1, by omega⟩
    rw [runP] at hrun
    have HP := Lib.hid hp
    have HPI := Lib.hid hi
    have HPT := Lib.hid ht
    have HLF := Lib.hid hlf
    have HRUN := Lib.hid hrun
    have HX1 := Lib.hid hp.ext
    clear hp hi ht hlf hrun hf0 hmin
    go_wp2_with fail
    refine (rnext_any HP.out HPI.out.ok HPT.out HG.out o hoo).mono ?_
    rintro e w2 ⟨rfl, hx2⟩
    replace HP := Lib.hid (HP.out.grow hx2)
    clear hx2
    cases hnx : nextP (envG G lim blk) o p with
    | some i =>
      obtain ⟨hi1, hi2⟩ := nextP_some hnx
      have hst : stepP (envG G lim blk) o p = some (lookP (envG G lim blk) o (p.looked i) ((envG G lim blk).fs (p.small.getD i 0))) := by unfold stepP; rw [hnx]
      have HRUN2 := HRUN.out
      rw [hst] at HRUN2
      simp only at HRUN2
      obtain ⟨hq1, hq2⟩ := step_inv HG.out.env HPI.out hst
      have hmem : p.small.getD i 0 ∈ p.small := getD_mem hi1
      have hxl : p.small.getD i 0 < G.ns.length := by
        have := HPI.out.ok.lt _ (List.mem_append_left _ hmem)
        rwa [envG_n] at this
      have HFS := Lib.hid (envG_fs (lim := lim) (blk := blk) _ hxl)
      rw [HFS.out] at HRUN2 hq1 hq2
      have HNV2 : Hid (valsOk G.ns.length (G.ns.getD (p.small.getD i 0) default).fields) := Lib.hid (by
        have := HG.out.env _ (by rw [envG_n]; exact hxl)
        rw [envG_n, HFS.out] at this
        exact this)
      have HQ1 := Lib.hid hq1
      have HQ2 := Lib.hid hq2
      have HR2 := Lib.hid HRUN2
      have HNF := Lib.hid (HG.out.f _ (getD_mem (d := default) hxl))
      have HNA := Lib.hid (HVG.out.nodes.each _ (getD_mem (d := default) hxl))
      have HPT2 : Hid (TopOk (p.looked i)) := Lib.hid HPT.out
      have HOK2 := Lib.hid (HPI.out.ok.lookd i)
      have HQT := Lib.hid (TopOk.look (o := o) HG.out HPT2.out HNV2.out)
      have HLE : Hid (leftP (envG G lim blk) (lookP (envG G lim blk) o (p.looked i) (G.ns.getD (p.small.getD i 0) default).fields) < g) := Lib.hid (by have := HLF.out; omega)
      obtain ⟨nb, noff, hA, hcn⟩ := HVG.out.nodes.row.get (by omega)
      obtain ⟨d0, d1', d2⟩ := nodes_cell hcn hxl
      obtain ⟨sA, sc, bA, bc, kA, kc, lA, lc, pA, pc, hq⟩ := HP.out
      have hll := HPI.out.ok.ll
      obtain ⟨kg, rfl, _, _⟩ := own_some hq.ok (fun e => by rw [e] at hll; simp at hll; omega)
      obtain ⟨sg, rfl, _, _⟩ := own_some hq.os (fun e => by have e2 : p.small.length = 0 := by rw [← ordZ_len, e]; rfl
                                                            omega)
      have k2 := (cells_of hq.blk).1
      obtain ⟨kcur, hkc⟩ := own_heap hq.ok
      have fk := (cells_of hkc).2
      have ck := own_boolAt hq.ok rfl (k := i) (by omega)
      have jb0 : (i : Int) < (p.lk.length : Int) := by omega
      have jb1 : (0 : Int) ≤ (i : Int) := by omega
      have hq3 := hq.look rfl i
      have HQ3 := Lib.hid hq3
      have cs := own_intAt hq3.os ordZ_len (k := i) hi1
      rw [show (p.looked i).small = p.small from rfl, ordZ_get (o := p.small) (i := i) hi1] at cs
      have CS := Lib.hid cs
      have js0 : (i : Int) < (p.small.length : Int) := by omega
      have D1 := Lib.hid d1'
      have jx0 : (0 : Int) ≤ ((p.small.getD i 0 : Nat) : Int) := by omega
      have jx1 : ((p.small.getD i 0 : Nat) : Int) < (G.ns.length : Int) := by omega
      have HAA := Lib.hid hA
      have D0 := Lib.hid d0
      have D2 := Lib.hid d2
      clear hA hi1 hi2 hst HRUN2 hq1 hq2 hmem hxl hcn d0 d1' d2 hq hll hkc hq3 cs HRUN HPI HPT HLF HP hnx
      generalize p.small.getD i 0 = x at *
      generalize G.ns.getD x default = y at *
      simp only [optZ]
      go_wp2_with fail
      generalize w2.setCell ⟨kg, i, none⟩ (.bool true) = W3 at *
      have hx3 := HQ3.out.ext
      have HRP : Hid (RP W0 G lim blk b (p.looked i) W3) := Lib.hid ⟨_, _, _, _, _, _, _, _, _, _, HQ3.out⟩
      have l1 := (pers_blk HQ3.out.blk).cells
      simp only [PlD.looked] at l1
      have l2 := pers_cell CS.out
      have l3 := pers_cell (hx3.cell D1.out)
      have l4 := (hBx.re hx3).cells
      simp only [HAA.out] at l4
      have l5 := pers_cell (hx3.cell D0.out)
      have l6 := pers_cell (hx3.cell D2.out)
      have hs0 : Ext W3 W3 := Ext.refl _
      clear k2 fk ck jb0 HQ3
      (refine wp_region_ext_tail (W := W3) 15 (by kernel_rfl) (by kernel_rfl) (by with_reducible assumption) ?_; simp only [List.take_succ_cons, List.take_zero, List.drop_succ_cons, List.drop_zero]; (repeat (go_big_quiet_step (fail))); refine wpQuiet_nil ?_; intro w1 hx)
      replace HRP := Lib.hid (HRP.out.grow hx)
      clear hx hs0 l1 l2 l3 l4 l5 l6 CS
      go_wp2_with fail
      refine (rlook_any HRP.out HVG.out HG.out o y.fields y.fA y.fcap HNA.out.fields (by have := HNF.out; omega) HNV2.out HOK2.out HPT2.out).mono ?_
      rintro e w5 ⟨rfl, hr⟩
      have HRI : Hid (RunI W0 G lim blk b o R g w5) := Lib.hid ⟨_, hr, HQ1.out, HQT.out, HLE.out, HR2.out⟩
      have HLN := Lib.hid (HLS.out w5 g HRI.out (by omega))
      clear hr HRP
      go_wp2_with fail
      go_roundw
      case rel => exact ⟨g, HRI⟩
      case measure => exact HLN.out
    | none =>
      simp only [optZ]
      obtain ⟨sA, sc, bA, bc, kA, kc, lA, lc, pA, pc, hq⟩ := HP.out
      have k2 := (cells_of hq.blk).1
      cases hpl : p.pile.getLast? with
      | none =>
        have hst : stepP (envG G lim blk) o p = none := by unfold stepP; rw [hnx, hpl]
        have HRUN2 := HRUN.out
        rw [hst] at HRUN2
        simp only at HRUN2
        have HRE := Lib.hid HRUN2
        have h0 : p.pile.length = 0 := by rw [List.getLast?_eq_none_iff.1 hpl]; rfl
        rw [h0] at k2
        clear HRUN2 hst h0 hpl hnx hq HRUN
        go_wp2_with fail
        go_ret
        refine ⟨W0, b, rfl, HX.out, ?_⟩
        rw [HPR.out, ← HRE.out]
        exact HP.out
      | some x =>
        have hpe := getLast?_some hpl
        have hst : stepP (envG G lim blk) o p = some (lookP (envG G lim blk) o p.popped ((envG G lim blk).fs x)) := by unfold stepP; rw [hnx, hpl]
        have HRUN2 := HRUN.out
        rw [hst] at HRUN2
        simp only at HRUN2
        obtain ⟨hq1, hq2⟩ := step_inv HG.out.env HPI.out hst
        have hmem : x ∈ p.large := HPI.out.ok.pl x (by rw [hpe]; simp)
        have hxl : x < G.ns.length := by
          have := HPI.out.ok.lt _ (List.mem_append_right _ hmem)
          rwa [envG_n] at this
        have HFS := Lib.hid (envG_fs (lim := lim) (blk := blk) _ hxl)
        rw [HFS.out] at HRUN2 hq1 hq2
        have HNV2 : Hid (valsOk G.ns.length (G.ns.getD x default).fields) := Lib.hid (by
          have := HG.out.env _ (by rw [envG_n]; exact hxl)
          rw [envG_n, HFS.out] at this
          exact this)
        have HQ1 := Lib.hid hq1
        have HR2 := Lib.hid HRUN2
        have HNF := Lib.hid (HG.out.f _ (getD_mem (d := default) hxl))
        have HNA := Lib.hid (HVG.out.nodes.each _ (getD_mem (d := default) hxl))
        have HPT2 : Hid (TopOk p.popped) := Lib.hid ⟨HPT.out.1, by have := HPT.out.2.1; simp only [PlD.popped, List.length_dropLast]; omega, HPT.out.2.2⟩
        have HOK2 := Lib.hid HPI.out.ok.popd
        have HQT := Lib.hid (TopOk.look (o := o) HG.out HPT2.out HNV2.out)
        have HLE : Hid (leftP (envG G lim blk) (lookP (envG G lim blk) o p.popped (G.ns.getD x default).fields) < g) := Lib.hid (by have := HLF.out; omega)
        obtain ⟨nb, noff, hA, hcn⟩ := HVG.out.nodes.row.get (by omega)
        obtain ⟨d0, d1', d2⟩ := nodes_cell hcn hxl
        have hpn : p.pile.length = p.pile.dropLast.length + 1 := by rw [hpe]; simp
        obtain ⟨m, hm⟩ : ∃ m, p.pile.dropLast.length = m := ⟨_, rfl⟩
        rw [hm] at hpn
        have hmet := HPI.out.ok.met_le
        have hn := HG.out.n
        rw [envG_n] at hmet
        unfold PlD.met at hmet
        have hplm : m ≤ 60 := by have := HPT.out.2.1; omega
        obtain ⟨pg, rfl, _, _⟩ := own_some hq.op (fun e => by have e2 : p.pile.length = 0 := by rw [← ordZ_len, e]; rfl
                                                              omega)
        have cp := own_intAt hq.op ordZ_len (k := m) (by omega)
        rw [ordZ_get (o := p.pile) (i := m) (by omega), show p.pile.getD m 0 = x by rw [hpe, ← hm]; simp] at cp
        obtain ⟨hcap, hcm⟩ := own_cap hq.op ordZ_len
        have hot := own_take hq.op intCells ordZ_len m (by omega)
        rw [show (ordZ p.pile).take m = ordZ p.pile.dropLast by rw [← hm, List.dropLast_eq_take]; simp [ordZ, List.map_take]] at hot
        have HQ3 := Lib.hid (hq.turn_p hm hot (World.grownBy.refl _ _) (.inl rfl))
        rw [hpn] at k2 hcap
        have jw : wrap64 (((m + 1 : Nat) : Int) - 1) = (m : Int) := by unfold wrap64; omega
        have jb0 : (0 : Int) ≤ (m : Int) := by omega
        have jb1 : (m : Int) < ((m + 1 : Nat) : Int) := by omega
        have jb2 : (m : Int) ≤ (pc : Int) := by omega
        have fb := (cells_of hq.blk).2
        have hx2 := hq.ext
        have m4 := (cells_of (hBx.re hx2).here).1
        have m5 := hx2.cell d1'
        have m6 := HBN.out _ HVB.out
        have m7 := HBN.out _ (cell_lt d1')
        have jx0 : (0 : Int) ≤ (x : Int) := by omega
        have jx1 : (x : Int) < (G.ns.length : Int) := by omega
        rw [hA] at m4
        clear hx2
        clear hA hpe hst HRUN2 hq1 hq2 hmem hxl hcn d0 d1' d2 hot hn hmet hq HRUN HPI HPT HLF HP hnx hpl hm hpn
        generalize G.ns.getD x default = y at *
        go_wp2_with fail
        generalize w2.setCell ⟨b, 8, none⟩ (.slice (some ⟨pg, 0, none⟩) m pc) = W3 at *
        have hx3 := HQ3.out.ext
        have HRP : Hid (RP W0 G lim blk b p.popped W3) := Lib.hid ⟨_, _, _, _, _, _, _, _, _, _, HQ3.out⟩
        clear k2 fb cp jb0 jb1 jb2 jw hcap hcm HQ3 m4 m5 m6 m7 hx3
        refine (rlook_any HRP.out HVG.out HG.out o y.fields y.fA y.fcap HNA.out.fields (by have := HNF.out; omega) HNV2.out HOK2.out HPT2.out).mono ?_
        rintro e w5 ⟨rfl, hr⟩
        have HRI : Hid (RunI W0 G lim blk b o R g w5) := Lib.hid ⟨_, hr, HQ1.out, HQT.out, HLE.out, HR2.out⟩
        have HLN := Lib.hid (HLS.out w5 g HRI.out (by omega))
        clear hr HRP
        go_wp2_with fail
        go_roundw
        case rel => exact ⟨g, HRI⟩
        case measure => exact HLN.out
end
end Go.Proofs.Ytphpppjfogpohaa

/- The reference's Plan, Flat, Live. -/
set_option linter.unusedSimpArgs false
set_option linter.unusedVariables false
namespace Go.Proofs.Ytphpppjfogpohaa
open Go.RowKit Go.Shelf
set_option maxRecDepth 100000
set_option maxHeartbeats 2000000
/-- What a plan comes to: the error, what is small, what is large. -/
def argB (lim ord blk : Int) : Bool := decide (lim < 1) || decide (blk < 1) || decide (ord < 0) || decide (2 < ord)
def planE (G : GraphD) (lim ord blk : Int) : Int := if rightG G then (if argB lim ord blk then 1 else 0) else 4
def planD (G : GraphD) (lim ord blk : Int) : PlD := planP (envG G lim.toNat blk.toNat) ord.toNat G.rs
def planS (G : GraphD) (lim ord blk : Int) : List Int := if planE G lim ord blk = 0 then ordZ (planD G lim ord blk).small else []
def planL (G : GraphD) (lim ord blk : Int) : List Int := if planE G lim ord blk = 0 then ordZ (planD G lim ord blk).large else []
theorem RchG.of {G : GraphD} {lim blk : Int} (oG : GraphOk G) (hl : largeG G = false) (hR : rightG G = true) (h1 : 1 ≤ lim ∧ lim ≤ 9223372036854775807) (h2 : 1 ≤ blk ∧ blk ≤ 9223372036854775807) : RchG G lim.toNat blk.toNat := by
  have hl2 : ¬ (60 < G.ns.length ∨ 100 < G.rs.length ∨ 9000 < bulk G.ns) := by simpa [largeG] using hl
  obtain ⟨r1, r2⟩ := right_parts hR
  refine ⟨oG, by omega, by omega, fun x hx => ?_, ⟨fun x hx => ?_, fun v hv e => ?_⟩, by omega, by omega⟩
  · have := (r1 x hx).1
    simp [okN] at this
    omega
  · obtain ⟨y, hy, rfl⟩ := List.mem_map.1 hx
    intro v hv e
    have := okV_ref2 ((r1 y hy).2 v hv) e
    simpa using this
  · have := okV_ref2 (r2 v hv) e
    simpa using this
/-- Two lists of numbers, and an error, come back. -/
def RetPl (V : World) (S L : List Int) (c : Int) (e : Ending) (w' : World) : Prop :=
  ∃ A1 c1 A2 c2, e = .returned (.tuple #[.slice A1 S.length c1, .slice A2 L.length c2, .int .i64 c]) ∧ Own 3 1 intC w' V.heap.size (.slice A1 S.length c1) S ∧ Own 3 1 intC w' V.heap.size (.slice A2 L.length c2) L ∧
    ((Value.slice A1 S.length c1).ownBlock = none ∨ (Value.slice A1 S.length c1).ownBlock ≠ (Value.slice A2 L.length c2).ownBlock) ∧ Ext V w'
def GOk (G : GraphD) : Prop := GraphOk G ∧ largeG G = false
theorem GOk.bd {G : GraphD} (h : GOk G) : G.ns.length ≤ 9223372036854775807 ∧ G.rs.length ≤ 9223372036854775807 ∧ ∀ x ∈ G.ns, x.fields.length ≤ 9223372036854775807 := by
  refine ⟨by have := h.1.nl; omega, by have := h.1.rl; omega, fun x hx => by have := (h.1.each x hx).fl; omega⟩
theorem grefright_is (G : GraphD) (b : Bool) (hb : rightG G = b) (V : World) (hG : GraphAt V G) (oG : GOk G) : Calls Try.prog 34 #[.agg #[.slice G.nA G.ns.length G.ncap, .slice G.rA G.rs.length G.rcap]] V fun e w' => e = .returned (.bool b) ∧ Ext V w' := by
  subst hb
  exact grefright_any G V hG oG.bd.1 oG.bd.2.1 oG.bd.2.2
theorem argB_no {lim ord blk : Int} (h : argB lim ord blk = false) : 1 ≤ lim ∧ 1 ≤ blk ∧ 0 ≤ ord ∧ ord ≤ 2 := by
  simp [argB] at h
  omega
theorem argB_yes {lim ord blk : Int} (h : argB lim ord blk = true) : lim < 1 ∨ (1 ≤ lim ∧ blk < 1) ∨ (1 ≤ lim ∧ 1 ≤ blk ∧ ord < 0) ∨ (1 ≤ lim ∧ 1 ≤ blk ∧ 0 ≤ ord ∧ 2 < ord) := by
  simp [argB] at h
  omega
theorem retPl_none {V w : World} {S L : List Int} {c : Int} (hS : S = []) (hL : L = []) (hx : Ext V w) : RetPl V S L c (.returned (.tuple #[.slice none 0 0, .slice none 0 0, .int .i64 c])) w := by
  subst hS hL
  exact ⟨none, 0, none, 0, rfl, Own.nil _ _ _ _ _, Own.nil _ _ _ _ _, .inl rfl, hx⟩
theorem refplan_any (G : GraphD) (lim ord blk : Int) (V : World) (hG : GraphAt V G) (oG : GOk G) (hl : -9223372036854775808 ≤ lim ∧ lim ≤ 9223372036854775807) (hb : -9223372036854775808 ≤ blk ∧ blk ≤ 9223372036854775807) :
    Calls Try.prog 22 #[.agg #[.slice G.nA G.ns.length G.ncap, .slice G.rA G.rs.length G.rcap], .int .i64 lim, .int .i64 ord, .int .i64 blk] V (RetPl V (planS G lim ord blk) (planL G lim ord blk) (planE G lim ord blk)) := by
  have hx0 := (Ext.refl V).alloc (.cells #[.slice G.nA G.ns.length G.ncap, .slice G.rA G.rs.length G.rcap] 25)
  have hBx := pers_new V #[.slice G.nA G.ns.length G.ncap, .slice G.rA G.rs.length G.rcap] 25 _ rfl
  have HX := Lib.hid hx0
  have HVG := Lib.hid (hG.ext hx0)
  have kB := (cells_of hBx.here).1
  cases hR : rightG G with
  | false =>
    have HRI := Lib.hid (fun W hW => grefright_is G false hR W hW oG)
    have he : planE G lim ord blk = 4 := by simp [planE, hR]
    have HS : Hid (planS G lim ord blk = []) := Lib.hid (by rw [planS, he]; rfl)
    have HL : Hid (planL G lim ord blk = []) := Lib.hid (by rw [planL, he]; rfl)
    have HE := Lib.hid he
    clear hx0 hG hR oG he
    go_enter Try.func22, Try.ntmps22
    go_wp2_with fail
    refine (HRI.out _ HVG.out).mono ?_
    rintro e w1 ⟨rfl, hx⟩
    replace HX := Lib.hid (HX.out.trans hx)
    clear hx kB
    go_wp2_with fail
    ((try simp only [Exit.inBlock, Exit.then]); refine bodyPost_ret (v := .tuple #[.slice none 0 0, .slice none 0 0, .int .i64 4]) (by simp only [results, Try.results22]; go_simp) rfl ?_)
    rw [HE.out]
    exact retPl_none HS.out HL.out HX.out
  | true =>
  have HRI := Lib.hid (fun W hW => grefright_is G true hR W hW oG)
  cases hA : argB lim ord blk with
  | true =>
    have he : planE G lim ord blk = 1 := by simp [planE, hR, hA]
    have HS : Hid (planS G lim ord blk = []) := Lib.hid (by rw [planS, he]; rfl)
    have HL : Hid (planL G lim ord blk = []) := Lib.hid (by rw [planL, he]; rfl)
    have HE := Lib.hid he
    have c1 : ∀ x y : Int, x < y → decide (x < y) = true := fun x y h => by simpa using h
    have c0 : ∀ x y : Int, y ≤ x → decide (x < y) = false := fun x y h => by simpa using h
    have hc : (decide (lim < 1) = true) ∨ (decide (lim < 1) = false ∧ decide (blk < 1) = true) ∨ (decide (lim < 1) = false ∧ decide (blk < 1) = false ∧ decide (ord < 0) = true) ∨ (decide (lim < 1) = false ∧ decide (blk < 1) = false ∧ decide (ord < 0) = false ∧ decide (2 < ord) = true) := by
      rcases argB_yes hA with h | ⟨h1, h⟩ | ⟨h1, h2, h⟩ | ⟨h1, h2, h3, h⟩
      · exact .inl (c1 _ _ h)
      · exact .inr (.inl ⟨c0 _ _ h1, c1 _ _ h⟩)
      · exact .inr (.inr (.inl ⟨c0 _ _ h1, c0 _ _ h2, c1 _ _ h⟩))
      · exact .inr (.inr (.inr ⟨c0 _ _ h1, c0 _ _ h2, c0 _ _ h3, c1 _ _ h⟩))
    clear hx0 hG hR oG he hA c0 c1
    rcases hc with h | ⟨h1, h⟩ | ⟨h1, h2, h⟩ | ⟨h1, h2, h3, h⟩
    all_goals
      go_enter Try.func22, Try.ntmps22
      go_wp2_with fail
      refine (HRI.out _ HVG.out).mono ?_
      rintro e w1 ⟨rfl, hx⟩
      replace HX := Lib.hid (HX.out.trans hx)
      clear hx kB
      go_wp2_with fail
      ((try simp only [Exit.inBlock, Exit.then]); refine bodyPost_ret (v := .tuple #[.slice none 0 0, .slice none 0 0, .int .i64 1]) (by simp only [results, Try.results22]; go_simp) rfl ?_)
      rw [HE.out]
      exact retPl_none HS.out HL.out HX.out
  | false =>
    have he : planE G lim ord blk = 0 := by simp [planE, hR, hA]
    obtain ⟨a1, a2, a3, a4⟩ := argB_no hA
    have hRG := RchG.of oG.1 oG.2 hR ⟨a1, hl.2⟩ ⟨a2, hb.2⟩
    have HRUN := Lib.hid (fun W (hW : GraphAt W G) => rrun_any (o := ord.toNat) hW hRG (by omega))
    simp only [Int.toNat_of_nonneg a3, Int.toNat_of_nonneg (Int.le_trans (by decide) a1), Int.toNat_of_nonneg (Int.le_trans (by decide) a2)] at HRUN
    have HS : Hid (planS G lim ord blk = ordZ (planD G lim ord blk).small) := Lib.hid (by rw [planS, if_pos he])
    have HL : Hid (planL G lim ord blk = ordZ (planD G lim ord blk).large) := Lib.hid (by rw [planL, if_pos he])
    have HE := Lib.hid he
    have d1 : decide (lim < 1) = false := by simpa using a1
    have d2 : decide (blk < 1) = false := by simpa using a2
    have d3 : decide (ord < 0) = false := by simpa using a3
    have d4 : decide (2 < ord) = false := by simpa using a4
    clear hx0 hG hR oG he hA hRG a1 a2 a3 a4
    change Hid (∀ (W : World), GraphAt W G → Calls Try.prog 48 #[.agg #[.slice G.nA G.ns.length G.ncap, .slice G.rA G.rs.length G.rcap], .int .i64 lim, .int .i64 ord, .int .i64 blk] W fun e w' => ∃ V0 b, e = .returned (.pointer (some ⟨b, 0, none⟩)) ∧ Ext W V0 ∧ RP V0 G lim.toNat blk.toNat b (planD G lim ord blk) w') at HRUN
    generalize planD G lim ord blk = p at *
    go_enter Try.func22, Try.ntmps22
    go_wp2_with fail
    refine (HRI.out _ HVG.out).mono ?_
    rintro e w1 ⟨rfl, hx⟩
    replace HX := Lib.hid (HX.out.trans hx)
    replace HVG := Lib.hid (HVG.out.ext hx)
    have kB2 := (cells_of (hBx.re hx).here).1
    clear hx kB
    go_wp2_with fail
    refine (HRUN.out _ HVG.out).mono ?_
    rintro e w2 ⟨V0, b, rfl, hxv, sA, sc, bA, bc, kA, kc, lA, lc, pA, pc, hq⟩
    have HQ := Lib.hid hq
    have HXV := Lib.hid (HX.out.trans hxv)
    have hs0 : Ext w2 w2 := Ext.refl _
    have l1 := (pers_blk hq.blk).cells
    clear hxv kB2 hq
    go_wp2_with fail
    (refine wp_region_ext (W := w2) (by kernel_rfl) (by kernel_rfl) (by with_reducible assumption) ?_; (repeat (go_big_quiet_step (fail))); refine wpQuiet_nil ?_; intro w1 hx)
    go_wp2_with fail
    ((try simp only [Exit.inBlock, Exit.then]); refine bodyPost_ret (v := .tuple #[.slice sA p.small.length sc, .slice lA p.large.length lc, .int .i64 0]) (by simp only [results, Try.results22]; go_simp) rfl ?_)
    have hq := HQ.out.grow hx
    rw [HE.out, HS.out, HL.out]
    refine ⟨sA, sc, lA, lc, by rw [ordZ_len, ordZ_len], ?_, ?_, ?_, HXV.out.trans hq.ext⟩
    · rw [ordZ_len]; exact hq.os.mono HXV.out.size
    · rw [ordZ_len]; exact hq.ol.mono HXV.out.size
    · rw [ordZ_len, ordZ_len]; exact hq.sep.ne 0 3 rfl rfl (by decide)
end Go.Proofs.Ytphpppjfogpohaa

/- Reach, plain: a limit above all sizes is as good as any other; a rising list is determined by its members. -/
set_option linter.unusedSimpArgs false
set_option linter.unusedVariables false
namespace Go.Proofs.Ytphpppjfogpohaa
open Go.RowKit Go.Shelf
/-- Limits that no size lies between. -/
def LimEq (E F : PlE) : Prop := F.n = E.n ∧ F.sz = E.sz ∧ F.fs = E.fs ∧ F.blk = E.blk ∧ ∀ i, (E.lim < E.sz i) ↔ (F.lim < E.sz i)
section
variable {E F : PlE}
theorem LimEq.meet (h : LimEq E F) (mk : Bool) (p : PlD) (v : Int × Int) : meetP F mk p v = meetP E mk p v := by
  obtain ⟨h1, h2, h3, h4, h5⟩ := h
  unfold meetP
  rw [h2]
  split
  · by_cases hl : E.lim < E.sz v.2.toNat
    · rw [if_pos hl, if_pos ((h5 _).1 hl)]
    · rw [if_neg hl, if_neg fun c => hl ((h5 _).2 c)]
  · rfl
theorem LimEq.new (h : LimEq E F) (p : PlD) (v : Int × Int) : newP F p v = newP E p v := by
  obtain ⟨h1, h2, h3, h4, h5⟩ := h
  unfold newP
  rw [h2]
  congr 1
  have := h5 v.2.toNat
  exact decide_eq_decide.2 (by omega)
theorem LimEq.all (h : LimEq E F) (mk : Bool) (p : PlD) (l : List (Int × Int)) : allP F mk p l = allP E mk p l := by
  unfold allP
  rw [show meetP F mk = meetP E mk from funext fun q => funext fun v => h.meet mk q v]
theorem LimEq.deep (h : LimEq E F) (mk : Bool) : ∀ (f : Nat) (p : PlD) (l : List (Int × Int)), deepP F mk f p l = deepP E mk f p l := by
  intro f
  induction f with
  | zero => intro p l; rfl
  | succ f ih =>
    intro p l
    rw [deepP_succ, deepP_succ]
    rw [show oneP F mk f = oneP E mk f from funext fun q => funext fun v => by
      unfold oneP
      rw [h.new, h.meet, h.2.2.1, ih]]
theorem LimEq.look (h : LimEq E F) (o : Nat) (p : PlD) (l : List (Int × Int)) : lookP F o p l = lookP E o p l := by
  unfold lookP
  rw [h.1, h.deep, h.all]
theorem LimEq.step (h : LimEq E F) (o : Nat) (p : PlD) : stepP F o p = stepP E o p := by
  unfold stepP
  rw [show nextP F o p = nextP E o p from by unfold nextP; rw [h.2.2.2.1]]
  simp only [h.look, h.2.2.1]
theorem LimEq.run (h : LimEq E F) (o : Nat) : ∀ (f : Nat) (p : PlD), runP F o f p = runP E o f p := by
  intro f
  induction f with
  | zero => intro p; rfl
  | succ f ih =>
    intro p
    unfold runP
    rw [h.step]
    cases stepP E o p with
    | none => rfl
    | some q => exact ih q
theorem LimEq.plan (h : LimEq E F) (o : Nat) (rs : List (Int × Int)) : planP F o rs = planP E o rs := by
  unfold planP
  rw [h.look, h.1, h.run]
/-- Nothing is large where all sizes lie below the limit. -/
theorem meet_noL {mk : Bool} {p : PlD} {v : Int × Int} (hs : ∀ i, E.sz i ≤ E.lim) (h : p.large = []) : (meetP E mk p v).large = [] := by
  unfold meetP
  split
  · rw [if_neg (by have := hs v.2.toNat; omega)]
    exact h
  · exact h
theorem all_noL {mk : Bool} (hs : ∀ i, E.sz i ≤ E.lim) (p : PlD) (l : List (Int × Int)) (h : p.large = []) : (allP E mk p l).large = [] :=
  fold_keep (I := fun q : PlD => q.large = []) l p (fun v _ q hq => meet_noL hs hq) h
theorem deep_noL {mk : Bool} (hs : ∀ i, E.sz i ≤ E.lim) : ∀ (f : Nat) (p : PlD) (l : List (Int × Int)), p.large = [] → (deepP E mk f p l).large = [] := by
  intro f
  induction f with
  | zero => exact fun p l h => h
  | succ f ih =>
    intro p l h
    rw [deepP_succ]
    refine fold_keep (I := fun q : PlD => q.large = []) l p (fun v _ q hq => ?_) h
    unfold oneP
    split
    · exact ih _ _ (meet_noL hs hq)
    · exact meet_noL hs hq
theorem look_noL (hs : ∀ i, E.sz i ≤ E.lim) (o : Nat) (p : PlD) (l : List (Int × Int)) (h : p.large = []) : (lookP E o p l).large = [] := by
  unfold lookP
  split
  · exact deep_noL hs _ _ _ h
  · exact all_noL hs _ _ h
theorem step_noL (hs : ∀ i, E.sz i ≤ E.lim) (o : Nat) (p q : PlD) (h : p.large = []) (hq : stepP E o p = some q) : q.large = [] := by
  unfold stepP at hq
  split at hq
  · injection hq with hq
    rw [← hq]
    exact look_noL hs _ _ _ h
  · split at hq
    · cases hq
    · injection hq with hq
      rw [← hq]
      exact look_noL hs _ _ _ h
theorem run_noL (hs : ∀ i, E.sz i ≤ E.lim) (o : Nat) : ∀ (f : Nat) (p : PlD), p.large = [] → (runP E o f p).large = [] := by
  intro f
  induction f with
  | zero => exact fun p h => h
  | succ f ih =>
    intro p h
    unfold runP
    cases hst : stepP E o p with
    | none => exact h
    | some q => exact ih q (step_noL hs o p q h hst)
theorem plan_noL (hs : ∀ i, E.sz i ≤ E.lim) (o : Nat) (rs : List (Int × Int)) : (planP E o rs).large = [] :=
  run_noL hs o _ _ (look_noL hs o _ _ rfl)
end
/-- A rising list is determined by its members. -/
theorem rise_ext : ∀ (a b : List Int), a.Pairwise (· < ·) → b.Pairwise (· < ·) → (∀ x, x ∈ a ↔ x ∈ b) → a = b
  | [], [], _, _, _ => rfl
  | [], y :: b, _, _, h => absurd ((h y).2 (List.mem_cons_self ..)) (by simp)
  | x :: a, [], _, _, h => absurd ((h x).1 (List.mem_cons_self ..)) (by simp)
  | x :: a, y :: b, ha, hb, h => by
    obtain ⟨ha1, ha2⟩ := List.pairwise_cons.1 ha
    obtain ⟨hb1, hb2⟩ := List.pairwise_cons.1 hb
    have hxy : x = y := by
      rcases List.mem_cons.1 ((h x).1 (List.mem_cons_self ..)) with e | h1
      · exact e
      · rcases List.mem_cons.1 ((h y).2 (List.mem_cons_self ..)) with e | h2
        · exact e.symm
        · have := ha1 _ h2
          have := hb1 _ h1
          omega
    subst hxy
    rw [rise_ext a b ha2 hb2 fun z => ?_]
    have hz := h z
    simp only [List.mem_cons] at hz
    constructor
    · intro hza
      have := ha1 _ hza
      rcases hz.1 (.inr hza) with e | h1
      · omega
      · exact h1
    · intro hzb
      have := hb1 _ hzb
      rcases hz.2 (.inr hzb) with e | h1
      · omega
      · exact h1
theorem sortZ_mem {l : List Int} {x : Int} : x ∈ sortZ l ↔ x ∈ l := List.mem_mergeSort
theorem sortZ_rise {l : List Int} (h : l.Nodup) : (sortZ l).Pairwise (· < ·) := by
  have h1 : (sortZ l).Pairwise fun x y => decide (x ≤ y) = true := List.pairwise_mergeSort (fun a b c h1 h2 => by simp at *; omega) (fun a b => by simp; omega) l
  have h2 : (sortZ l).Nodup := (List.mergeSort_perm l _).nodup_iff.2 h
  refine (h1.and h2).imp fun ⟨h3, h4⟩ => ?_
  simp at h3
  omega
theorem ordZ_nodup {l : List Nat} (h : l.Nodup) : (ordZ l).Nodup := by
  unfold ordZ
  exact List.Pairwise.map _ (fun a b hab => by omega) h
theorem ordZ_mem {l : List Nat} {x : Int} : x ∈ ordZ l ↔ ∃ i, i ∈ l ∧ (i : Int) = x := by simp [ordZ]
theorem rise_rise (n : Nat) (S : List Int) : (ordZ (riseL n S)).Pairwise (· < ·) := by
  unfold ordZ riseL
  refine List.Pairwise.map _ (fun a b hab => ?_) (List.Pairwise.filter _ List.pairwise_lt_range)
  omega
theorem rise_mem {n : Nat} {S : List Int} {x : Int} : x ∈ ordZ (riseL n S) ↔ 0 ≤ x ∧ x < n ∧ x ∈ S := by
  rw [ordZ_mem]
  unfold riseL
  constructor
  · rintro ⟨i, hi, rfl⟩
    obtain ⟨h1, h2⟩ := List.mem_filter.1 hi
    exact ⟨by omega, by have := List.mem_range.1 h1; omega, of_decide_eq_true h2⟩
  · rintro ⟨h1, h2, h3⟩
    refine ⟨x.toNat, ?_, by omega⟩
    simp
    rw [show max x 0 = x by omega]
    exact ⟨by omega, h3⟩
/-- Lists without doubles, of the same members, rising. -/
theorem sort_rise {n : Nat} {S T : List Int} (h1 : S.Nodup) (h2 : ∀ x ∈ S, 0 ≤ x ∧ x < n) (h3 : ∀ x, x ∈ S ↔ x ∈ T) : sortZ S = ordZ (riseL n T) := by
  refine rise_ext _ _ (sortZ_rise h1) (rise_rise n T) fun x => ?_
  rw [sortZ_mem, rise_mem]
  exact ⟨fun h => ⟨(h2 x h).1, (h2 x h).2, (h3 x).1 h⟩, fun h => (h3 x).2 h.2.2⟩
/-- What is met by the plan of a graph that may be. -/
structure MetG (G : GraphD) (S L : List Int) : Prop where
  nd : (S ++ L).Nodup
  mem : ∀ x, x ∈ S ++ L ↔ ∃ i : Nat, Rch (envG G 1 1) G.rs i ∧ (i : Int) = x
  lt : ∀ x ∈ S ++ L, 0 ≤ x ∧ x < G.ns.length
theorem Rch.env {E F : PlE} {rs : List (Int × Int)} {i : Nat} (hi : Rch E rs i) (h : F.fs = E.fs) : Rch F rs i := by
  induction hi with
  | root h1 => exact .root h1
  | step _ h2 ih => exact .step ih (by rw [h]; exact h2)
theorem metG {G : GraphD} (oG : GOk G) {lim ord blk : Int} (hl : lim ≤ 9223372036854775807) (hb : blk ≤ 9223372036854775807) (he : planE G lim ord blk = 0) : MetG G (planS G lim ord blk) (planL G lim ord blk) := by
  unfold planS planL
  rw [if_pos he, if_pos he]
  unfold planE at he
  cases hR : rightG G with
  | false => rw [hR] at he; exact absurd he (by simp)
  | true =>
    rw [hR, if_pos rfl] at he
    cases hA : argB lim ord blk with
    | true => rw [hA] at he; exact absurd he (by decide)
    | false =>
      obtain ⟨a1, a2, a3, a4⟩ := argB_no hA
      have hRG := RchG.of oG.1 oG.2 hR ⟨a1, hl⟩ ⟨a2, hb⟩
      obtain ⟨h1, h2⟩ := plan_all hRG.env ord.toNat (roots := G.rs) (by rw [envG_n]; have := hRG.pg.roots; simpa using this)
      have e : ordZ (planD G lim ord blk).small ++ ordZ (planD G lim ord blk).large = ordZ ((planD G lim ord blk).small ++ (planD G lim ord blk).large) := by simp [ordZ]
      refine ⟨?_, ?_, ?_⟩
      · rw [e]; exact ordZ_nodup h1.nd
      · intro x
        rw [e, ordZ_mem]
        constructor
        · rintro ⟨i, hi, rfl⟩
          exact ⟨i, ((h2 i).1 hi).env (F := envG G 1 1) rfl, rfl⟩
        · rintro ⟨i, hi, rfl⟩
          exact ⟨i, (h2 i).2 (hi.env (F := envG G lim.toNat blk.toNat) rfl), rfl⟩
      · intro x hx
        rw [e, ordZ_mem] at hx
        obtain ⟨i, hi, rfl⟩ := hx
        have := h1.lt i hi
        rw [envG_n] at this
        omega
theorem envG_szall {G : GraphD} {lim blk : Nat} (h : RchG G lim blk) (i : Nat) : (envG G lim blk).sz i ≤ 9000 := by
  by_cases hi : i < G.ns.length
  · exact (h.sz i hi).1
  · have : (G.ns.map nodeV).getD i (0, [], []) = (0, [], []) := by
      rw [List.getD_eq_getElem?_getD, List.getElem?_eq_none (by simp; omega)]; rfl
    simp only [envG, envP, this]
    simp
/-- Both great limits plan alike; nothing is large. -/
theorem plan_great {G : GraphD} (oG : GOk G) (ord : Int) : planE G 1048576 ord 1 = planE G 1000000 ord 1 ∧ planS G 1048576 ord 1 = planS G 1000000 ord 1 ∧ planL G 1048576 ord 1 = [] := by
  have e1 : planE G 1048576 ord 1 = planE G 1000000 ord 1 := by unfold planE argB; rfl
  refine ⟨e1, ?_⟩
  by_cases he : planE G 1000000 ord 1 = 0
  · have he2 := e1.trans he
    unfold planS planL
    rw [if_pos he, if_pos he2, if_pos he2]
    unfold planE at he
    cases hR : rightG G with
    | false => rw [hR] at he; exact absurd he (by simp)
    | true =>
      rw [hR, if_pos rfl] at he
      have hRG := RchG.of oG.1 oG.2 hR (lim := 1048576) (blk := 1) ⟨by decide, by decide⟩ ⟨by decide, by decide⟩
      have hs := envG_szall hRG
      have hL : LimEq (envG G (1000000 : Int).toNat (1 : Int).toNat) (envG G (1048576 : Int).toNat (1 : Int).toNat) := ⟨rfl, rfl, rfl, rfl, fun i => by
        have := hs i
        have e : (envG G (1000000 : Int).toNat (1 : Int).toNat).sz i = (envG G (1048576 : Int).toNat (1 : Int).toNat).sz i := rfl
        rw [e]
        have e2 : (envG G (1000000 : Int).toNat (1 : Int).toNat).lim = 1000000 := rfl
        have e3 : (envG G (1048576 : Int).toNat (1 : Int).toNat).lim = 1048576 := rfl
        rw [e2, e3]
        omega⟩
      have e : planD G 1048576 ord 1 = planD G 1000000 ord 1 := hL.plan ord.toNat G.rs
      have e4 : (planD G 1048576 ord 1).large = [] := plan_noL (fun i => by
        have := hs i
        have e3 : (envG G (1048576 : Int).toNat (1 : Int).toNat).lim = 1048576 := rfl
        rw [e3]
        omega) ord.toNat G.rs
      exact ⟨by rw [e], by rw [e4]; rfl⟩
  · have he2 := fun c => he (e1.symm.trans c)
    unfold planS planL
    rw [if_neg he, if_neg he2, if_neg he2]
    exact ⟨rfl, rfl⟩
theorem planE_ord {G : GraphD} {lim o blk lim2 o2 blk2 : Int} (h : planE G lim o blk = 0) (h2 : argB lim2 o2 blk2 = false) : planE G lim2 o2 blk2 = 0 := by
  unfold planE at *
  split at h
  · rename_i hr
    rw [if_pos hr, h2]; rfl
  · exact absurd h (by decide)
/-- What Reach answers is what the document's answers. -/
theorem reach_rise {G : GraphD} (oG : GOk G) : sortZ (planS G 1048576 1 1) = ordZ (riseL G.ns.length (planS G 1000000 0 1)) := by
  by_cases he : planE G 1048576 1 1 = 0
  · have he2 : planE G 1048576 0 1 = 0 := planE_ord he (by decide)
    have h1 := metG oG (lim := 1048576) (ord := 1) (blk := 1) (by decide) (by decide) he
    have h2 := metG oG (lim := 1048576) (ord := 0) (blk := 1) (by decide) (by decide) he2
    obtain ⟨-, -, l1⟩ := plan_great oG 1
    obtain ⟨-, e2, l2⟩ := plan_great oG 0
    rw [l1] at h1
    rw [l2, e2] at h2
    obtain ⟨a1, a2, a3⟩ := h1
    obtain ⟨b1, b2, b3⟩ := h2
    rw [List.append_nil] at *
    exact sort_rise a1 a3 fun x => (a2 x).trans (b2 x).symm
  · have he2 : ¬ planE G 1000000 0 1 = 0 := fun c => he (planE_ord c (by decide))
    unfold planS
    rw [if_neg he, if_neg he2]
    simp [sortZ, riseL, ordZ]
/-- What any plan meets is what Reach answers. -/
theorem reach_of {G : GraphD} (oG : GOk G) {lim ord blk : Int} (hl : lim ≤ 9223372036854775807) (hb : blk ≤ 9223372036854775807) (he : planE G lim ord blk = 0) : sortZ (planS G 1048576 1 1) = ordZ (riseL G.ns.length (planS G lim ord blk ++ planL G lim ord blk)) := by
  have he2 : planE G 1048576 1 1 = 0 := planE_ord he (by decide)
  have h1 := metG oG (lim := 1048576) (ord := 1) (blk := 1) (by decide) (by decide) he2
  have h2 := metG oG hl hb he
  obtain ⟨-, -, l1⟩ := plan_great oG 1
  rw [l1] at h1
  obtain ⟨a1, a2, a3⟩ := h1
  rw [List.append_nil] at *
  exact sort_rise a1 a3 fun x => (a2 x).trans (h2.mem x).symm
/-- How often each node was met. -/
def cntZ (n : Nat) (M : List Int) : List Int := (List.range n).map fun (i : Nat) => if (i : Int) ∈ M then 1 else 0
theorem cntZ_len {n : Nat} {M : List Int} : (cntZ n M).length = n := by simp [cntZ]
theorem cntZ_nil {n : Nat} : cntZ n [] = List.replicate n 0 := by
  refine List.ext_getElem (by simp [cntZ]) fun i h1 h2 => ?_
  simp [cntZ]
theorem cntZ_get {n : Nat} {M : List Int} {i : Nat} (hi : i < n) : (cntZ n M).getD i 0 = if (i : Int) ∈ M then 1 else 0 := by
  simp [cntZ, hi]
theorem cntZ_step {n : Nat} {M : List Int} {i : Nat} (hi : i < n) : (cntZ n M).set i 1 = cntZ n (M ++ [(i : Int)]) := by
  refine List.ext_getElem (by simp [cntZ]) fun j h1 h2 => ?_
  rw [List.getElem_set]
  simp only [cntZ, List.getElem_map, List.getElem_range, List.mem_append, List.mem_singleton]
  by_cases he : i = j
  · subst he
    simp
  · rw [if_neg he]
    have : ¬ (j : Int) = i := by omega
    simp [this]
theorem take_snoc {l : List Int} {k : Nat} (h : k < l.length) : l.take (k + 1) = l.take k ++ [l.getD k 0] := by
  rw [List.take_add_one]
  simp [h]
/-- One more of what was met: it was not met ahead. -/
theorem cnt_next {n : Nat} {M : List Int} (hd : M.Nodup) (hlt : ∀ x ∈ M, 0 ≤ x ∧ x < n) {k : Nat} (hk : k < M.length) :
    ∃ m : Nat, M.getD k 0 = (m : Int) ∧ m < n ∧ (cntZ n (M.take k)).getD m 0 = 0 ∧ (cntZ n (M.take k)).set m 1 = cntZ n (M.take (k + 1)) := by
  obtain ⟨h1, h2⟩ := hlt _ (getD_mem (d := 0) hk)
  obtain ⟨m, hm⟩ := Int.eq_ofNat_of_zero_le h1
  refine ⟨m, hm, by omega, ?_, ?_⟩
  · rw [cntZ_get (by omega), if_neg]
    intro hin
    have h3 : (M.take k ++ [M.getD k 0]).Nodup := by rw [← take_snoc hk]; exact hd.sublist (List.take_sublist _ _)
    rw [List.nodup_append] at h3
    exact h3.2.2 _ hin _ (by rw [hm]; simp) rfl
  · rw [cntZ_step (by omega), take_snoc hk, hm]
/-- What is met is closed. -/
theorem MetG.closed {G : GraphD} {S L : List Int} (h : MetG G S L) (hR : rightG G = true) {i : Nat} (hi : i < G.ns.length) (hm : (i : Int) ∈ S ++ L) {v : Int × Int} (hv : v ∈ (G.ns.getD i default).fields) (hk : v.1 = 2) : v.2 ∈ S ++ L := by
  obtain ⟨j, hj, e⟩ := (h.mem _).1 hm
  have e2 : j = i := by omega
  subst e2
  have h1 : Rch (envG G 1 1) G.rs v.2.toNat := .step hj ⟨v, by rw [envG_fs _ hi]; exact hv, hk, rfl⟩
  have h2 : ((v.2.toNat : Nat) : Int) ∈ S ++ L := (h.mem _).2 ⟨_, h1, rfl⟩
  have h3 := okV_ref2 (((right_parts hR).1 _ (getD_mem (d := default) hi)).2 v hv) hk
  rwa [show ((v.2.toNat : Nat) : Int) = v.2 by omega] at h2
theorem MetG.root {G : GraphD} {S L : List Int} (h : MetG G S L) (hR : rightG G = true) {v : Int × Int} (hv : v ∈ G.rs) (hk : v.1 = 2) : v.2 ∈ S ++ L := by
  have h1 : Rch (envG G 1 1) G.rs v.2.toNat := .root ⟨v, hv, hk, rfl⟩
  have h2 : ((v.2.toNat : Nat) : Int) ∈ S ++ L := (h.mem _).2 ⟨_, h1, rfl⟩
  have h3 := okV_ref2 ((right_parts hR).2 v hv) hk
  rwa [show ((v.2.toNat : Nat) : Int) = v.2 by omega] at h2
end Go.Proofs.Ytphpppjfogpohaa

/- Canon, plain: graphs and their nodes' values; a canonical graph is one that may be. -/
set_option linter.unusedSimpArgs false
set_option linter.unusedVariables false
namespace Go.Proofs.Ytphpppjfogpohaa
open Go.RowKit Go.Shelf
set_option maxRecDepth 100000
def valN (G : GraphD) : List NodV := G.ns.map nodeV
/-- The order breadth first. -/
def ordG (G : GraphD) : List Nat := bfsN (valN G) G.rs 1000000 1
def canE (G : GraphD) : Int := if rightG G then 0 else 4
def canV (G : GraphD) : List NodV := if rightG G then canN (valN G) (ordG G) else []
def canQ (G : GraphD) : List (Int × Int) := if rightG G then canR G.rs (ordG G) else []
def flatG (G : GraphD) : List Int := if rightG G then ordZ (ordG G) else []
theorem flat_eq (G : GraphD) : planE G 1000000 0 1 = canE G ∧ planS G 1000000 0 1 = flatG G := by
  unfold planS planE canE flatG
  cases hR : rightG G with
  | false => exact ⟨rfl, rfl⟩
  | true => exact ⟨rfl, rfl⟩
theorem pgOk_of {G : GraphD} (oG : GOk G) (hR : rightG G = true) : PgOk (valN G) G.rs := (RchG.of oG.1 oG.2 hR (lim := 1000000) (blk := 1) ⟨by decide, by decide⟩ ⟨by decide, by decide⟩).pg
theorem small_of {G : GraphD} (oG : GOk G) (hR : rightG G = true) : SmallAll (valN G) 1000000 := fun i => by
  have := envG_szall (RchG.of oG.1 oG.2 hR (lim := 1000000) (blk := 1) ⟨by decide, by decide⟩ ⟨by decide, by decide⟩) i
  change 1 + ((valN G).getD i (0, [], [])).2.1.length + ((valN G).getD i (0, [], [])).2.2.length ≤ 9000 at this
  omega
theorem ordOk_of {G : GraphD} (oG : GOk G) (hR : rightG G = true) : OrdOk (valN G) G.rs (ordG G) := (bfs_ok (pgOk_of oG hR) (small_of oG hR)).1
theorem ordG_len {G : GraphD} (oG : GOk G) (hR : rightG G = true) : (ordG G).length ≤ G.ns.length := by
  have h := ordOk_of oG hR
  have := nodup_le G.ns.length (ordG G) h.nd (fun i hi => by have := h.lt i hi; simpa [valN] using this)
  exact this
theorem valN_get {G : GraphD} {i : Nat} (hi : i < G.ns.length) : (valN G).getD i (0, [], []) = nodeV (G.ns.getD i default) := map_getD hi
theorem valN_mem {G : GraphD} {i : Nat} (h : i < (valN G).length) : i < G.ns.length := by simpa [valN] using h
/-- An order that may be is none that renumbering refuses. -/
theorem renE_ord {G : GraphD} {o : List Nat} (hR : rightG G = true) (h : OrdOk (valN G) G.rs o) : renE G (ordZ o) = 0 := by
  refine renE_ok hR (badO_no fun i hi => ?_) ?_
  · rw [ordZ_len] at hi
    rw [ordZ_get hi]
    have h1 := valN_mem (h.lt _ (getD_mem' (d := 0) hi))
    refine ⟨by omega, by omega, ?_⟩
    obtain ⟨j, hj, e1, e2⟩ := ord_place h.nd (x := ((o.getD i 0 : Nat) : Int)) (by omega) (by rw [Int.toNat_natCast]; exact getD_mem' (d := 0) hi)
    rw [Int.toNat_natCast] at e2
    rw [e1, nodup_inj h.nd hj hi e2]
  · have hv : ∀ v : Int × Int, (v.1 = 2 → 0 ≤ v.2 ∧ v.2.toNat ∈ o) → ¬ lostV (ordZ o) v = true := fun v hb => by
      unfold lostV
      rw [decide_eq_true_eq]
      rintro ⟨e, hp⟩
      obtain ⟨b1, b2⟩ := hb e
      obtain ⟨j, hj, e1, -⟩ := ord_place h.nd b1 b2
      omega
    simp only [lostO, Bool.or_eq_false_iff, List.any_eq_false]
    refine ⟨fun j hj => ?_, fun v hv' => hv v (h.roots v hv')⟩
    rw [ordZ_mem] at hj
    obtain ⟨i, hi, rfl⟩ := hj
    rw [Bool.not_eq_true, List.any_eq_false]
    intro v hv'
    have := h.nodes i hi
    rw [valN_get (valN_mem (h.lt i hi))] at this
    exact hv v (this v (by rw [Int.toNat_natCast] at hv'; exact hv'))
theorem renN_ord {G : GraphD} {o : List Nat} (hR : rightG G = true) (h : OrdOk (valN G) G.rs o) : renN G (ordZ o) = canN (valN G) o ∧ renR G (ordZ o) = canR G.rs o := by
  have he := renE_ord hR h
  unfold renN renR
  rw [if_pos he, if_pos he]
  refine ⟨?_, rfl⟩
  unfold canN ordZ
  rw [List.map_map]
  refine List.map_congr_left fun i hi => ?_
  show turnN (ordZ o) G.ns (i : Int) = turnV (valN G) o i
  unfold turnN turnV
  rw [Int.toNat_natCast, valN_get (valN_mem (h.lt i hi))]
  rfl
/-- Orders that renumbering does not refuse. -/
theorem ord_ren {G : GraphD} {o : List Int} (h : renE G o = 0) : rightG G = true ∧ ∃ p : List Nat, o = ordZ p ∧ OrdOk (valN G) G.rs p := by
  unfold renE at h
  cases hR : rightG G with
  | false => rw [hR] at h; exact absurd h (by simp)
  | true =>
    rw [hR, if_pos rfl] at h
    cases hB : badO o G.ns.length with
    | true => rw [hB] at h; exact absurd h (by simp)
    | false =>
      rw [hB, if_neg (by decide)] at h
      cases hL : lostO o G.ns G.rs with
      | true => rw [hL] at h; exact absurd h (by decide)
      | false =>
        refine ⟨rfl, o.map Int.toNat, ?_, ?_⟩
        all_goals
          unfold badO at hB
          rw [List.any_eq_false] at hB
          have hb : ∀ i, i < o.length → 0 ≤ o.getD i 0 ∧ o.getD i 0 < G.ns.length ∧ placeZ o (o.getD i 0) = i := fun i hi => by
            have := hB i (List.mem_range.2 hi)
            simpa using this
          have hmem : ∀ x ∈ o, 0 ≤ x ∧ x < G.ns.length := fun x hx => by
            obtain ⟨i, hi, e⟩ := List.getElem_of_mem hx
            have := hb i hi
            rw [getD_get hi, e] at this
            exact ⟨this.1, this.2.1⟩
          have hz : o = ordZ (o.map Int.toNat) := by
            unfold ordZ
            rw [List.map_map]
            refine (List.map_id o).symm.trans (List.map_congr_left fun x hx => ?_)
            have := (hmem x hx).1
            show x = ((x.toNat : Nat) : Int)
            omega
        · exact hz
        · obtain ⟨h1, h2⟩ := right_parts hR
          simp only [lostO, Bool.or_eq_false_iff, List.any_eq_false] at hL
          obtain ⟨l1, l2⟩ := hL
          have hv : ∀ v : Int × Int, okV G.ns.length v = true → ¬ lostV o v = true → v.1 = 2 → 0 ≤ v.2 ∧ v.2.toNat ∈ o.map Int.toNat := fun v ok hl e => by
            have h3 := okV_ref2 ok e
            refine ⟨h3.1, ?_⟩
            unfold lostV at hl
            rw [decide_eq_true_eq] at hl
            rcases place_cases o v.2 with ⟨e2, _⟩ | ⟨k, hk, e2, e3, _⟩
            · exact absurd ⟨e, by omega⟩ hl
            · exact List.mem_map.2 ⟨v.2, by rw [← e3]; exact getD_mem hk, rfl⟩
          refine ⟨?_, ?_, fun v hv' => hv v (h2 v hv') (l2 v hv'), ?_⟩
          · have hn : o.Nodup := by
              rw [List.nodup_iff_pairwise_ne, List.pairwise_iff_getElem]
              intro i j hi hj hij e
              have a := hb i hi
              have b := hb j hj
              rw [getD_get hi] at a
              rw [getD_get hj, ← e] at b
              omega
            refine List.Pairwise.map _ (fun a b hab => ?_) (List.Pairwise.and_mem.1 hn)
            obtain ⟨ha, hb', hne⟩ := hab
            have := (hmem a ha).1
            have := (hmem b hb').1
            omega
          · intro i hi
            obtain ⟨x, hx, rfl⟩ := List.mem_map.1 hi
            have := hmem x hx
            simp [valN]
            omega
          · intro i hi v hv' e
            obtain ⟨x, hx, rfl⟩ := List.mem_map.1 hi
            have hb2 := hmem x hx
            have hlt : x.toNat < G.ns.length := by omega
            rw [valN_get hlt] at hv'
            have h3 := l1 x hx
            rw [Bool.not_eq_true, List.any_eq_false] at h3
            exact hv v ((h1 _ (getD_mem (d := default) hlt)).2 v hv') (h3 v hv') e
/-- How much is looked at, in nodes' values. -/
def wgt (x : NodV) : Nat := min x.2.1.length 5000 + min x.2.2.length 5000
theorem bulk_sum (ns : List NodeD) : bulk ns = ((ns.map nodeV).map wgt).sum := by
  have : ∀ (l : List NodeD) (a : Int), l.foldl (fun (n : Int) x => n + (min x.fields.length 5000 + min x.raws.length 5000 : Nat)) a = a + (((l.map nodeV).map wgt).sum : Nat) := by
    intro l
    induction l with
    | nil => intro a; simp
    | cons x l ih =>
      intro a
      rw [List.foldl_cons, ih]
      simp only [List.map_cons, List.sum_cons]
      have : wgt (nodeV x) = min x.fields.length 5000 + min x.raws.length 5000 := rfl
      rw [this]
      omega
  unfold bulk
  rw [this]
  omega
theorem sum_sub {f : Nat → Nat} : ∀ (n : Nat) (o : List Nat), o.Nodup → (∀ i ∈ o, i < n) → (o.map f).sum ≤ ((List.range n).map f).sum := by
  intro n
  induction n with
  | zero =>
    intro o _ h
    cases o with
    | nil => simp
    | cons x o => exact absurd (h x (List.mem_cons_self ..)) (by omega)
  | succ n ih =>
    intro o hd h
    rw [List.range_succ, List.map_append, List.sum_append]
    by_cases hn : n ∈ o
    · have h1 := ih (o.erase n) (hd.erase n) (fun i hi => by
        have h2 := h i (List.mem_of_mem_erase hi)
        have h3 : i ≠ n := fun e => by subst e; exact hd.not_mem_erase hi
        omega)
      have h2 := ((List.perm_cons_erase hn).map f).sum_nat
      simp only [List.map_cons, List.sum_cons] at h2
      simp
      omega
    · have h1 := ih o hd (fun i hi => by
        have h2 := h i hi
        have h3 : i ≠ n := fun e => by subst e; exact hn hi
        omega)
      simp
      omega
/-- The shape of what renumbering answers. -/
structure Shp (H : GraphD) : Prop where
  each : ∀ x ∈ H.ns, (x.fA = none → x.fcap = 0) ∧ (x.rA = none → x.rcap = 0) ∧ x.fields.length ≤ x.fcap ∧ x.raws.length ≤ x.rcap
  a : H.nA = none → H.ncap = 0
  b : H.rA = none → H.rcap = 0
  c : H.ns.length ≤ H.ncap
  d : H.rs.length ≤ H.rcap
theorem turned_bd {o : List Nat} {v : Int × Int} (hol : o.length ≤ 1000) (hv : (-9223372036854775808 ≤ v.1 ∧ v.1 ≤ 9223372036854775807) ∧ (-9223372036854775808 ≤ v.2 ∧ v.2 ≤ 9223372036854775807)) :
    (-9223372036854775808 ≤ (turned (ordZ o) v).1 ∧ (turned (ordZ o) v).1 ≤ 9223372036854775807) ∧ (-9223372036854775808 ≤ (turned (ordZ o) v).2 ∧ (turned (ordZ o) v).2 ≤ 9223372036854775807) := by
  unfold turned
  split
  · have := place_ge (ordZ o) v.2
    rw [ordZ_len] at this
    simp only
    omega
  · exact hv
/-- A turned graph is one that may be. -/
theorem turned_ok {G H : GraphD} {o : List Nat} (oG : GOk G) (hR : rightG G = true) (h : OrdOk (valN G) G.rs o) (h1 : valN H = canN (valN G) o) (h2 : H.rs = canR G.rs o) (hs : Shp H) : GOk H ∧ rightG H = true := by
  have hol : o.length ≤ G.ns.length := nodup_le G.ns.length o h.nd (fun i hi => valN_mem (h.lt i hi))
  have hl : H.ns.length = o.length := by have := congrArg List.length h1; simpa [valN, canN] using this
  have hrl : H.rs.length = G.rs.length := by rw [h2]; simp [canR]
  have hLg : ¬ (60 < G.ns.length ∨ 100 < G.rs.length ∨ 9000 < bulk G.ns) := by have := oG.2; simpa [largeG] using this
  have hlg : G.ns.length ≤ 60 := by omega
  obtain ⟨r1, r2⟩ := right_parts hR
  have hev : ∀ y ∈ H.ns, ∃ i ∈ o, y.kind = (G.ns.getD i default).kind ∧ y.fields = (G.ns.getD i default).fields.map (turned (ordZ o)) ∧ y.raws = (G.ns.getD i default).raws := fun y hy => by
    have : nodeV y ∈ canN (valN G) o := by rw [← h1]; exact List.mem_map.2 ⟨y, hy, rfl⟩
    obtain ⟨i, hi, e⟩ := List.mem_map.1 this
    refine ⟨i, hi, ?_⟩
    unfold turnV at e
    rw [valN_get (valN_mem (h.lt i hi))] at e
    simp only [nodeV, Prod.mk.injEq] at e
    exact ⟨e.1.symm, e.2.1.symm, e.2.2.symm⟩
  have hokv : ∀ v : Int × Int, okV G.ns.length v = true → (v.1 = 2 → 0 ≤ v.2 ∧ v.2.toNat ∈ o) → okV H.ns.length (turned (ordZ o) v) = true := fun v ok hb => by
    unfold turned
    by_cases e : v.1 = 2
    · obtain ⟨b1, b2⟩ := hb e
      obtain ⟨j, hj, e1, -⟩ := ord_place h.nd b1 b2
      rw [if_pos e, e1, okV_ref (by simp [vmayB]; omega)]
      simp
      omega
    · rw [if_neg e]
      have : vmayB v.1 v.2 = true := by simp [okV] at ok; exact ok.1
      obtain ⟨a, b⟩ := v
      exact okV_val this e
  refine ⟨⟨⟨by omega, by have := oG.1.rl; omega, hs.a, hs.b, hs.c, hs.d, fun y hy => ?_, fun v hv => ?_⟩, ?_⟩, ?_⟩
  · obtain ⟨i, hi, e1, e2, e3⟩ := hev y hy
    have ox := oG.1.each _ (getD_mem (d := default) (valN_mem (h.lt i hi)))
    obtain ⟨a, b, c, d⟩ := hs.each y hy
    refine ⟨by rw [e1]; exact ox.kind, by rw [e2, List.length_map]; exact ox.fl, by rw [e3]; exact ox.rl, a, b, c, d, fun v hv => ?_, by rw [e3]; exact ox.rv⟩
    rw [e2] at hv
    obtain ⟨u, hu, rfl⟩ := List.mem_map.1 hv
    exact turned_bd (by omega) (ox.fv u hu)
  · rw [h2] at hv
    obtain ⟨u, hu, rfl⟩ := List.mem_map.1 hv
    exact turned_bd (by omega) (oG.1.rv u hu)
  · have hb : bulk H.ns ≤ bulk G.ns := by
      rw [bulk_sum, bulk_sum]
      have e1 : ((H.ns.map nodeV).map wgt) = o.map fun i => wgt ((valN G).getD i (0, [], [])) := by
        change (valN H).map wgt = _
        rw [h1]
        unfold canN
        rw [List.map_map]
        refine List.map_congr_left fun i hi => ?_
        show wgt (turnV (valN G) o i) = _
        simp [wgt, turnV]
      have e2 : ((G.ns.map nodeV).map wgt) = (List.range G.ns.length).map fun i => wgt ((valN G).getD i (0, [], [])) := by
        refine List.ext_getElem (by simp) fun i h1 h2 => ?_
        have hi : i < G.ns.length := by simpa using h1
        simp only [List.getElem_map, List.getElem_range]
        rw [valN_get hi, getD_get hi]
      rw [e1, e2]
      have := sum_sub (f := fun i => wgt ((valN G).getD i (0, [], []))) G.ns.length o h.nd (fun i hi => valN_mem (h.lt i hi))
      omega
    have : ¬ (60 < H.ns.length ∨ 100 < H.rs.length ∨ 9000 < bulk H.ns) := by omega
    simpa [largeG] using this
  · simp only [rightG, Bool.and_eq_true, List.all_eq_true]
    refine ⟨fun y hy => ?_, fun v hv => ?_⟩
    · obtain ⟨i, hi, e1, e2, e3⟩ := hev y hy
      have hlt := valN_mem (h.lt i hi)
      obtain ⟨a, b⟩ := r1 _ (getD_mem (d := default) hlt)
      refine ⟨by simp only [okN, e1, e2, e3, List.length_map] at a ⊢; exact a, fun v hv => ?_⟩
      rw [e2] at hv
      obtain ⟨u, hu, rfl⟩ := List.mem_map.1 hv
      have hn := h.nodes i hi
      rw [valN_get hlt] at hn
      exact hokv u (b u hu) (hn u hu)
    · rw [h2] at hv
      obtain ⟨u, hu, rfl⟩ := List.mem_map.1 hv
      exact hokv u (r2 u hu) (h.roots u hu)
/-- Whether two graphs are alike. -/
def alikeG (A B : GraphD) : Bool := rightG A && rightG B && (decide (canQ A = canQ B) && decide (canV A = canV B))
theorem alikeG_iff {A B : GraphD} : alikeG A B = true ↔ rightG A = true ∧ rightG B = true ∧ canQ A = canQ B ∧ canV A = canV B := by
  simp [alikeG, and_assoc]
theorem alikeG_comm (A B : GraphD) : alikeG A B = alikeG B A := by
  rw [Bool.eq_iff_iff, alikeG_iff, alikeG_iff]
  constructor
  · rintro ⟨a, b, c, d⟩; exact ⟨b, a, c.symm, d.symm⟩
  · rintro ⟨a, b, c, d⟩; exact ⟨b, a, c.symm, d.symm⟩
theorem alikeG_self (A : GraphD) : alikeG A A = rightG A := by
  rw [Bool.eq_iff_iff, alikeG_iff]
  exact ⟨fun h => h.1, fun h => ⟨h, h, rfl, rfl⟩⟩
theorem alikeG_trans {A B C : GraphD} (h : alikeG A B = true) : alikeG B C = alikeG A C := by
  obtain ⟨a, b, c, d⟩ := alikeG_iff.1 h
  rw [Bool.eq_iff_iff, alikeG_iff, alikeG_iff, a, b, c, d]
/-- A graph in an order looks the same. -/
theorem turned_can {G H : GraphD} {o : List Nat} (oG : GOk G) (hR : rightG G = true) (h : OrdOk (valN G) G.rs o) (h1 : valN H = canN (valN G) o) (h2 : H.rs = canR G.rs o) (hs : Shp H) : canV H = canV G ∧ canQ H = canQ G := by
  obtain ⟨oH, rH⟩ := turned_ok oG hR h h1 h2 hs
  have hI := h.turned_iso
  rw [← h1, ← h2] at hI
  obtain ⟨-, a, b⟩ := hI.canon (blk := 1) (blk2 := 1) (small_of oG hR) (small_of oH rH) (pgOk_of oG hR) (pgOk_of oH rH)
  unfold canV canQ
  rw [hR, rH, if_pos rfl, if_pos rfl, if_pos rfl, if_pos rfl]
  exact ⟨a.symm, b.symm⟩
/-- What the document's pairing comes to. -/
theorem match_alike {A B : GraphD} (oA : GOk A) (oB : GOk B) (rA : rightG A = true) (rB : rightG B = true) :
    ((matchM (valN A) A.rs (valN B) B.rs).bad = !alikeG A B) ∧ (alikeG A B = true → (matchM (valN A) A.rs (valN B) B.rs).to = partP A.ns.length (ordG A) (ordG B) ∧ (ordG A).length = (ordG B).length) := by
  obtain ⟨h1, h2⟩ := match_bfs (lim := 1000000) (blk := 1) (pgOk_of oA rA) (pgOk_of oB rB) (small_of oA rA) (small_of oB rB)
  have hiff : (matchM (valN A) A.rs (valN B) B.rs).bad = false ↔ alikeG A B = true := by
    rw [h1, alikeG_iff]
    unfold canV canQ
    rw [rA, rB, if_pos rfl, if_pos rfl, if_pos rfl, if_pos rfl]
    exact ⟨fun ⟨a, b⟩ => ⟨rfl, rfl, b, a⟩, fun ⟨_, _, a, b⟩ => ⟨b, a⟩⟩
  refine ⟨?_, fun h => ?_⟩
  · cases hb : (matchM (valN A) A.rs (valN B) B.rs).bad with
    | false => rw [hiff.1 hb]; rfl
    | true =>
      cases ha : alikeG A B with
      | false => rfl
      | true => rw [hiff.2 ha] at hb; cases hb
  · have := h2 (hiff.2 h)
    rw [show (valN A).length = A.ns.length by simp [valN]] at this
    exact this
end Go.Proofs.Ytphpppjfogpohaa

