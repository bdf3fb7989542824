/- Merged by program (merge.py) out of: RchB, RchC, GraW, GraX, GraZ, GraPl, GraMo, OwnO. -/
import Derived.OwnWalk
import Derived.Test.YtphpppjfogpohaaMc15
import Derived.Test.YtphpppjfogpohaaMc6
/- The reference's plan: in; meet. -/
set_option linter.unusedSimpArgs false
set_option linter.unusedVariables false
namespace Go.Proofs.Ytphpppjfogpohaa
open Go.RowKit Go.Shelf

theorem blk_grown {α : Type} {e : TypeId} {n : Nat} {f : α → List Value} {w w' : World} {B : Nat} {v : Value} {xs : List α} (h : Own e n f w B v xs) {g : Nat} {cs : Array Value} {t : TypeId} {r : Nat × Nat} (hb : w.heap[g]? = some (.cells cs t r)) (hg : w.grownBy w' v.ownBlock) (hne : t ≠ e) : w'.heap[g]? = some (.cells cs t r) :=
  (hg.block g (lt_of_heap hb) (h.ne_block hb hne)).trans hb
theorem ordZ_snoc (l : List Nat) (x : Nat) : ordZ l ++ [(x : Int)] = ordZ (l ++ [x]) := by simp [ordZ]
theorem rmem_none {l : List Int} {x : Int} (h : ∀ i, i < l.length → l.getD i 0 ≠ x) : decide (x ∈ l) = false := by
  rw [decide_eq_false_iff_not]
  intro hm
  obtain ⟨i, hi, e⟩ := List.getElem_of_mem hm
  exact h i hi (by rw [getD_get hi]; exact e)
theorem rmem_at {l : List Int} {x : Int} {k : Nat} (hk : k < l.length) (h : l.getD k 0 = x) : decide (x ∈ l) = true := by
  rw [decide_eq_true_eq, ← h]
  exact getD_mem hk
theorem rin_any (A : Option Addr) (cap : Nat) (zs : List Int) (v : Int) (W : World) (hlen : zs.length ≤ 9223372036854775807) (hl : IntsAt W A zs) :
    Calls Try.prog 51 #[.slice A zs.length cap, .int .i64 v] W fun e w' => e = .returned (.bool (decide (v ∈ zs))) ∧ Ext W w' := by
  have HL := Lib.hid hl
  clear hl
  go_enter Try.func51, Try.ntmps51
  go_wp2_with fail
  go_loopw [5] (fun i wr => ∃ k : Nat, k ≤ zs.length ∧ i = .int .i64 k ∧ Ext W wr ∧ Hid (∀ i, i < k → zs.getD i 0 ≠ v)) (fun i _ => zs.length - (intOf i).toNat)
  case atStart => exact ⟨0, by omega, rfl, Ext.refl _, Lib.hid (by omega)⟩
  case round =>
    obtain ⟨k, hk, rfl, hxr, hq⟩ := hrel
    by_cases hlt : k < zs.length
    rotate_left
    · have HR := Lib.hid (rmem_none fun i hi => hq.out i (by omega))
      clear hq
      go_wp2_with fail
      go_ret
      exact ⟨ret_bool HR.out.symm, hxr⟩
    obtain ⟨lb, off, rfl, hc⟩ := HL.out.get (by omega)
    have c1 := hxr.cell (ints_cell hc hlt)
    have HS := Lib.hid (fun (h : zs.getD k 0 ≠ v) => (fun i (hi : i < k + 1) => by
      rcases Nat.lt_or_ge i k with h' | h'
      · exact hq.out i h'
      · obtain rfl : i = k := by omega
        exact h : ∀ i, i < k + 1 → zs.getD i 0 ≠ v))
    have HD := Lib.hid (fun (h : zs.getD k 0 = v) => rmem_at hlt h)
    clear hc HL hq
    generalize zs.getD k 0 = x at *
    have ib1 : (k : Int) < (zs.length : Int) := by omega
    by_cases he : x = v
    · have HE := Lib.hid (HD.out he)
      have hb : (x == v) = true := by rw [beq_iff_eq]; exact he
      clear he HD HS
      go_wp2_with fail
      go_ret
      exact ⟨ret_bool HE.out.symm, hxr⟩
    · have hb : (x == v) = false := by rw [beq_eq_false_iff_ne]; exact he
      have HE := Lib.hid (HS.out he)
      clear he HD HS
      go_wp2_with fail
      go_roundw
      case rel => exact ⟨k + 1, by omega, by go_num, hxr, HE⟩
      case measure => simp [intOf]; omega
theorem rin_is (A : Option Addr) (n cap : Nat) (zs : List Nat) (hn : zs.length = n) (x : Nat) (b : Bool) (hb : decide (x ∈ zs) = b) (W : World) (B : Nat) (hlen : n ≤ 1000000) (hl : Own 3 1 intC W B (.slice A n cap) (ordZ zs)) :
    Calls Try.prog 51 #[.slice A n cap, .int .i64 x] W fun e w' => e = .returned (.bool b) ∧ Ext W w' := by
  subst hn
  rw [← ordZ_len] at hl
  have Z := rin_any A cap (ordZ zs) x W (by rw [ordZ_len]; omega) (own_row hl intCells (by decide)).1
  rw [ordZ_len] at Z
  rw [← hb, show decide (x ∈ zs) = decide ((x : Int) ∈ ordZ zs) from decide_eq_decide.2 ⟨fun h => List.mem_map.2 ⟨x, h, rfl⟩, fun h => by obtain ⟨y, hy, e⟩ := List.mem_map.1 h; rwa [← show y = x by omega]⟩]
  exact Z
/-- What a plan needs of its graph. -/
structure RchG (G : GraphD) (lim blk : Nat) : Prop where
  at_ : GraphOk G
  n : G.ns.length ≤ 60
  r : G.rs.length ≤ 100
  f : ∀ x ∈ G.ns, x.fields.length ≤ 4096 ∧ x.raws.length ≤ 4096
  pg : PgOk (G.ns.map nodeV) G.rs
  bk : 1 ≤ blk ∧ blk ≤ 9223372036854775807
  lm : 1 ≤ lim ∧ lim ≤ 9223372036854775807
def envG (G : GraphD) (lim blk : Nat) : PlE := envP (G.ns.map nodeV) lim blk
def TopOk (p : PlD) : Prop := p.top ≤ 9000 * p.small.length ∧ p.pile.length ≤ p.large.length ∧ ∀ x ∈ p.begins, x ≤ p.top
section
variable {G : GraphD} {lim blk : Nat} {p : PlD} {mk : Bool} {v : Int × Int}
theorem node_at (i : Nat) (h : i < G.ns.length) : (G.ns.map nodeV).getD i (0, [], []) = nodeV (G.ns.getD i default) := map_getD h
theorem envG_sz (i : Nat) (h : i < G.ns.length) : (envG G lim blk).sz i = 1 + (G.ns.getD i default).fields.length + (G.ns.getD i default).raws.length := by
  simp only [envG, envP, node_at i h]; rfl
theorem envG_fs (i : Nat) (h : i < G.ns.length) : (envG G lim blk).fs i = (G.ns.getD i default).fields := by
  simp only [envG, envP, node_at i h]; rfl
theorem envG_n : (envG G lim blk).n = G.ns.length := by simp [envG, envP]
theorem RchG.sz (h : RchG G lim blk) (i : Nat) (hi : i < G.ns.length) : (envG G lim blk).sz i ≤ 9000 ∧ sizeN (G.ns.getD i default) = ((envG G lim blk).sz i : Nat) := by
  rw [envG_sz i hi]
  have := h.f _ (getD_mem (d := default) hi)
  refine ⟨by omega, ?_⟩
  unfold sizeN wrap64
  omega
theorem RchG.env (h : RchG G lim blk) : (envG G lim blk).Ok := h.pg.env
theorem TopOk.meet (h : RchG G lim blk) (hv : v.1 = 2 → 0 ≤ v.2 ∧ v.2 < G.ns.length) (ht : TopOk p) : TopOk (meetP (envG G lim blk) mk p v) := by
  unfold meetP
  split
  · rename_i hf
    have h1 := hv (PlD.fresh_iff.1 hf).1
    have h2 := (h.sz v.2.toNat (by omega)).1
    split
    · obtain ⟨t1, t2, t3⟩ := ht
      refine ⟨t1, ?_, t3⟩
      simp only [PlD.addL, List.length_append, List.length_singleton]
      omega
    · obtain ⟨t1, t2, t3⟩ := ht
      refine ⟨?_, t2, fun x hx => ?_⟩
      · simp only [PlD.addS, List.length_append, List.length_singleton]
        omega
      · simp only [PlD.addS] at hx ⊢
        rcases List.mem_append.1 hx with hx | hx
        · have := t3 x hx; omega
        · simp at hx; omega
  · exact ht
end
section
variable {G : GraphD} {lim blk : Nat} {p : PlD} {mk : Bool}
theorem TopOk.deep (hG : RchG G lim blk) : ∀ (f : Nat) (p : PlD) (l : List (Int × Int)), TopOk p → valsOk G.ns.length l → TopOk (deepP (envG G lim blk) mk f p l) := by
  intro f
  induction f with
  | zero => exact fun p l h _ => h
  | succ f ih =>
    intro p l h hl
    refine fold_keep (f := oneP (envG G lim blk) mk f) (I := TopOk) l p (fun v hv q hq => ?_) h
    have hm := hq.meet (mk := mk) hG (hl v hv)
    by_cases hn : newP (envG G lim blk) q v = true
    · rw [oneP, if_pos hn]
      refine ih _ _ hm ?_
      have hlt := new_lt (by rw [envG_n]; exact hl v hv) hn
      have := hG.env _ hlt
      rw [envG_n] at this
      exact this
    · rw [oneP, if_neg hn]
      exact hm
theorem TopOk.all (hG : RchG G lim blk) (h : TopOk p) {l : List (Int × Int)} (hl : valsOk G.ns.length l) : TopOk (allP (envG G lim blk) mk p l) :=
  fold_keep (f := meetP (envG G lim blk) mk) (I := TopOk) l p (fun v hv q hq => hq.meet hG (hl v hv)) h
end
/-- The reference's plan in memory. -/
def RP (V0 : World) (G : GraphD) (lim blk b : Nat) (p : PlD) (w : World) : Prop := ∃ sA sc bA bc kA kc lA lc pA pc, RQ V0 G lim blk b sA sc bA bc kA kc lA lc pA pc p w
theorem RP.grow {V0 w w' : World} {G : GraphD} {lim blk b : Nat} {p : PlD} (h : RP V0 G lim blk b p w) (hx : Ext w w') : RP V0 G lim blk b p w' := by
  obtain ⟨sA, sc, bA, bc, kA, kc, lA, lc, pA, pc, h⟩ := h
  exact ⟨sA, sc, bA, bc, kA, kc, lA, lc, pA, pc, h.grow hx⟩
theorem RP.ext {V0 w : World} {G : GraphD} {lim blk b : Nat} {p : PlD} (h : RP V0 G lim blk b p w) : Ext V0 w := by
  obtain ⟨sA, sc, bA, bc, kA, kc, lA, lc, pA, pc, h⟩ := h
  exact h.ext
end Go.Proofs.Ytphpppjfogpohaa

/- The reference's plan: meet. -/
set_option linter.unusedSimpArgs false
set_option linter.unusedVariables false
namespace Go.Proofs.Ytphpppjfogpohaa
open Go.RowKit Go.Shelf
set_option maxRecDepth 100000
set_option maxHeartbeats 2000000
section
variable {V0 : World} {G : GraphD} {lim blk b : Nat} {p : PlD} {V : World}
def MeetPost (V0 : World) (G : GraphD) (lim blk b : Nat) (p : PlD) (v : Int × Int) (e : Ending) (w' : World) : Prop := e = .returned (.bool (newP (envG G lim blk) p v)) ∧ RP V0 G lim blk b (meetP (envG G lim blk) false p v) w'
theorem rmeet_val (h : RP V0 G lim blk b p V) (v : Int × Int) (hv : v.1 ≠ 2) :
    Calls Try.prog 85 #[.pointer (some ⟨b, 0, none⟩), .agg #[.int .i64 v.1, .int .i64 v.2]] V (MeetPost V0 G lim blk b p v) := by
  obtain ⟨k, x⟩ := v
  have hf : p.fresh (k, x) = false := by simp [PlD.fresh]; exact fun e => absurd e hv
  have e1 : newP (envG G lim blk) p (k, x) = false := by simp [newP, hf]
  have e2 : meetP (envG G lim blk) false p (k, x) = p := by simp [meetP, hf]
  have d0 : (k != 2) = true := by simpa using hv
  have HR := Lib.hid (h.grow ((Ext.refl V).alloc (.cells #[.int .i64 k, .int .i64 x] 53)))
  unfold MeetPost
  rw [e1, e2]
  clear h hv hf e1 e2
  go_enter Try.func85, Try.ntmps85
  go_wp2_with fail
  go_ret
  exact ⟨rfl, HR.out⟩
theorem rmeet_old (h : RP V0 G lim blk b p V) (x : Nat) (ho : PlOk (envG G lim blk) p) (hG : RchG G lim blk) (hm : x ∈ p.small ++ p.large) :
    Calls Try.prog 85 #[.pointer (some ⟨b, 0, none⟩), .agg #[.int .i64 2, .int .i64 x]] V (MeetPost V0 G lim blk b p (2, x)) := by
  have hf : p.fresh (2, (x : Int)) = false := by
    cases hc : p.fresh (2, (x : Int)) with
    | false => rfl
    | true => exact absurd hm (by have := (PlD.fresh_iff.1 hc).2; simpa using this)
  have e1 : newP (envG G lim blk) p (2, (x : Int)) = false := by simp [newP, hf]
  have e2 : meetP (envG G lim blk) false p (2, (x : Int)) = p := by simp [meetP, hf]
  have hmet := ho.met_le
  have hn := hG.n
  rw [envG_n] at hmet
  unfold PlD.met at hmet
  have hx0 := (Ext.refl V).alloc (.cells #[.int .i64 2, .int .i64 x] 53)
  obtain ⟨sA, sc, bA, bc, kA, kc, lA, lc, pA, pc, hq⟩ := h
  have hB := pers_new V #[.int .i64 2, .int .i64 x] 53 _ rfl
  have HQ : Pers V (fun w => RQ V0 G lim blk b sA sc bA bc kA kc lA lc pA pc p w) := fun w k => hq.grow k
  replace HQ := HQ.re hx0
  unfold MeetPost
  rw [e1, e2]
  have k1 := (cells_of HQ.here.blk).1
  by_cases hs : x ∈ p.small
  · have HI := Lib.hid (fun w (hw : Own 3 1 intC w V0.heap.size (.slice sA p.small.length sc) (ordZ p.small)) => rin_is sA p.small.length sc p.small rfl x true (by simpa using hs) w V0.heap.size (by omega) hw)
    clear hf e1 e2 hmet hn hx0 hq ho hG hm hs
    go_enter Try.func85, Try.ntmps85
    go_wp2_with fail
    refine (HI.out _ HQ.here.os).mono ?_
    rintro e w1 ⟨rfl, hx⟩
    (replace HQ := HQ.re hx; replace hB := hB.re hx)
    clear hx k1
    have k1 := (cells_of HQ.here.blk).1
    go_wp2_with fail
    go_ret
    exact ⟨rfl, _, _, _, _, _, _, _, _, _, _, HQ.here⟩
  · have hl : x ∈ p.large := by
      rcases List.mem_append.1 hm with h | h
      · exact absurd h hs
      · exact h
    have HI := Lib.hid (fun w (hw : Own 3 1 intC w V0.heap.size (.slice sA p.small.length sc) (ordZ p.small)) => rin_is sA p.small.length sc p.small rfl x false (by simpa using hs) w V0.heap.size (by omega) hw)
    have HI2 := Lib.hid (fun w (hw : Own 3 1 intC w V0.heap.size (.slice lA p.large.length lc) (ordZ p.large)) => rin_is lA p.large.length lc p.large rfl x true (by simpa using hl) w V0.heap.size (by omega) hw)
    clear hf e1 e2 hmet hn hx0 hq ho hG hm hs hl
    go_enter Try.func85, Try.ntmps85
    go_wp2_with fail
    refine (HI.out _ HQ.here.os).mono ?_
    rintro e w1 ⟨rfl, hx⟩
    (replace HQ := HQ.re hx; replace hB := hB.re hx)
    clear hx k1
    have k1 := (cells_of HQ.here.blk).1
    go_wp2_with fail
    refine (HI2.out _ HQ.here.ol).mono ?_
    rintro e w2 ⟨rfl, hx⟩
    (replace HQ := HQ.re hx; replace hB := hB.re hx)
    clear hx k1
    go_wp2_with fail
    go_ret
    exact ⟨rfl, _, _, _, _, _, _, _, _, _, _, HQ.here⟩
theorem rmeet_new (h : RP V0 G lim blk b p V) (hV : GraphAt V0 G) (x : Nat) (ho : PlOk (envG G lim blk) p) (ht : TopOk p) (hG : RchG G lim blk) (hxn : x < G.ns.length) (hm : x ∉ p.small ++ p.large) :
    Calls Try.prog 85 #[.pointer (some ⟨b, 0, none⟩), .agg #[.int .i64 2, .int .i64 x]] V (MeetPost V0 G lim blk b p (2, x)) := by
  have hf : p.fresh (2, (x : Int)) = true := PlD.fresh_iff.2 ⟨rfl, by simpa using hm⟩
  have hmet := ho.met_le
  have hn := hG.n
  rw [envG_n] at hmet
  unfold PlD.met at hmet
  have hs : x ∉ p.small := fun h => hm (List.mem_append_left _ h)
  have hl : x ∉ p.large := fun h => hm (List.mem_append_right _ h)
  obtain ⟨z1, z2⟩ := hG.sz x hxn
  have e1 : newP (envG G lim blk) p (2, (x : Int)) = decide ((envG G lim blk).sz x ≤ lim) := by simp [newP, hf]; rfl
  have e2 : meetP (envG G lim blk) false p (2, (x : Int)) = if lim < (envG G lim blk).sz x then p.addL x else p.addS false x ((envG G lim blk).sz x) := by simp only [meetP, hf, if_true]; rfl
  have hx0 := (Ext.refl V).alloc (.cells #[.int .i64 2, .int .i64 x] 53)
  obtain ⟨sA, sc, bA, bc, kA, kc, lA, lc, pA, pc, hq⟩ := h
  have hB := pers_new V #[.int .i64 2, .int .i64 x] 53 _ rfl
  have HQ : Pers V (fun w => RQ V0 G lim blk b sA sc bA bc kA kc lA lc pA pc p w) := fun w k => hq.grow k
  have HV := Lib.hid (hq.ext.trans hx0)
  replace HQ := HQ.re hx0
  have k1 := (cells_of HQ.here.blk).1
  have HI := Lib.hid (fun w (hw : Own 3 1 intC w V0.heap.size (.slice sA p.small.length sc) (ordZ p.small)) => rin_is sA p.small.length sc p.small rfl x false (by simpa using hs) w V0.heap.size (by omega) hw)
  have HI2 := Lib.hid (fun w (hw : Own 3 1 intC w V0.heap.size (.slice lA p.large.length lc) (ordZ p.large)) => rin_is lA p.large.length lc p.large rfl x false (by simpa using hl) w V0.heap.size (by omega) hw)
  obtain ⟨nb, noff, hA, hcn⟩ := hV.nodes.row.get (by omega)
  obtain ⟨d0, d1, d2⟩ := nodes_cell hcn hxn
  have D0 := Lib.hid d0
  have D1 := Lib.hid d1
  have D2 := Lib.hid d2
  generalize (envG G lim blk).sz x = z at *
  have HS := Lib.hid (fun W => refsize_any (G.ns.getD x default) W)
  rw [z2] at HS
  have ib0 : (0 : Int) ≤ (x : Int) := by omega
  have ib1 : (x : Int) < (G.ns.length : Int) := by omega
  rw [hA] at k1
  clear hcn d0 d1 d2 hV hs hl hm hxn
  generalize G.ns.getD x default = y at *
  have hpl : p.pile.length ≤ 60 := by have := ht.2.1; omega
  have htp : p.top ≤ 600000 := by have := ht.1; omega
  have hbl : p.begins.length ≤ 60 := by have := ho.bl; omega
  have hll : p.lk.length ≤ 60 := by have := ho.ll; omega
  clear ht ho hG
  by_cases hz : lim < z
  · have dz : decide (lim < z) = true := by simpa using hz
    have dz2 : decide (z ≤ lim) = false := by simpa using hz
    rw [if_pos hz] at e2
    rw [dz2] at e1
    clear hz dz2
    unfold MeetPost
    rw [e1, e2]
    clear e1 e2 hf hx0 hq
    go_enter Try.func85, Try.ntmps85
    go_wp2_with fail
    refine (HI.out _ HQ.here.os).mono ?_
    rintro e w1 ⟨rfl, hx⟩
    (replace HQ := HQ.re hx; replace hB := hB.re hx)
    replace HV := Lib.hid (HV.out.trans hx)
    clear hx k1
    have k1 := (cells_of HQ.here.blk).1
    go_wp2_with fail
    refine (HI2.out _ HQ.here.ol).mono ?_
    rintro e w2 ⟨rfl, hx⟩
    (replace HQ := HQ.re hx; replace hB := hB.re hx)
    replace HV := Lib.hid (HV.out.trans hx)
    clear hx k1
    have k1 := (cells_of HQ.here.blk).1
    rw [hA] at k1
    have g0 := HV.out.cell D0.out
    have g1 := HV.out.cell D1.out
    have g2 := HV.out.cell D2.out
    go_wp2_with fail
    refine (HS.out w2).mono ?_
    rintro e w3 ⟨rfl, hx⟩
    (replace HQ := HQ.re hx; replace hB := hB.re hx)
    replace HV := Lib.hid (HV.out.trans hx)
    clear hx k1 g0 g1 g2 HI HI2 D0 D1 D2 HS hB
    have k1 := (cells_of HQ.here.blk).1
    rw [hA] at k1
    go_wp2_with (first
      | (at_builtin; refine wpList_app_lit rfl (.tmp 45) (.tmp 47) 28 rfl intInfo intCells rfl (by exact HQ.here.ol) [(x : Int)] 1 _ rfl (p.large.length + 1) 1 (by simp [ordZ]) rfl _ rfl (by first | rfl | exact hsz | simp) (by omega) (by simp [maxLen]; omega) (HQ.here.ext.size) ?_; intro A2 c2 W2 hown2 hgr2 hat2; rw [ordZ_snoc] at hown2; have HX2 := Lib.hid (HQ.here.grow ((Ext.refl _).alloc (.cells #[.int .i64 x] 3))); have hb2 := blk_grown HX2.out.ol HX2.out.blk hgr2 (by decide); clear k1; have k1 := (cells_of hb2).1; have f1 := (cells_of hb2).2; have q1 := lt_of_heap hb2; have ho2 := Lib.hid hown2; have hg2 := Lib.hid hgr2; have ht2 := Lib.hid hat2; clear hown2 hgr2 hat2 hb2)
      | (at_builtin; have HQ2 := Lib.hid (HX2.out.turn_l (by simp) ho2.out hg2.out (ht2.out.imp id fun h => .inr ⟨_, by simp, h⟩)); refine wpList_app_lit rfl (.tmp 55) (.tmp 57) 28 rfl intInfo intCells rfl (by exact HQ2.out.op) [(x : Int)] 1 _ rfl (p.pile.length + 1) 1 (by simp [ordZ]) rfl _ rfl (by first | rfl | exact hsz | simp) (by omega) (by simp [maxLen]; omega) (HQ2.out.ext.size) ?_; intro A3 c3 W3 hown3 hgr3 hat3; rw [ordZ_snoc] at hown3; have HX3 := Lib.hid (HQ2.out.grow ((Ext.refl _).alloc (.cells #[.int .i64 x] 3))); have hb3 := blk_grown HX3.out.op HX3.out.blk hgr3 (by decide); clear k1; have k1 := (cells_of hb3).1; have f1 := (cells_of hb3).2; have q1 := lt_of_heap hb3; have ho3 := Lib.hid hown3; have hg3 := Lib.hid hgr3; have ht3 := Lib.hid hat3; clear hown3 hgr3 hat3 hb3))
    go_ret
    have HQ3 := HX3.out.turn_p (by simp) ho3.out hg3.out (ht3.out.imp id fun h => .inr ⟨_, by simp, h⟩)
    exact ⟨rfl, _, _, _, _, _, _, _, _, _, _, HQ3⟩
  · have dz : decide (lim < z) = false := by simpa using hz
    have dz2 : decide (z ≤ lim) = true := by simpa using hz
    rw [if_neg hz] at e2
    rw [dz2] at e1
    clear hz dz2
    unfold MeetPost
    rw [e1, e2]
    clear e1 e2 hf hx0 hq
    go_enter Try.func85, Try.ntmps85
    go_wp2_with fail
    refine (HI.out _ HQ.here.os).mono ?_
    rintro e w1 ⟨rfl, hx⟩
    (replace HQ := HQ.re hx; replace hB := hB.re hx)
    replace HV := Lib.hid (HV.out.trans hx)
    clear hx k1
    have k1 := (cells_of HQ.here.blk).1
    go_wp2_with fail
    refine (HI2.out _ HQ.here.ol).mono ?_
    rintro e w2 ⟨rfl, hx⟩
    (replace HQ := HQ.re hx; replace hB := hB.re hx)
    replace HV := Lib.hid (HV.out.trans hx)
    clear hx k1
    have k1 := (cells_of HQ.here.blk).1
    rw [hA] at k1
    have g0 := HV.out.cell D0.out
    have g1 := HV.out.cell D1.out
    have g2 := HV.out.cell D2.out
    go_wp2_with fail
    refine (HS.out w2).mono ?_
    rintro e w3 ⟨rfl, hx⟩
    (replace HQ := HQ.re hx; replace hB := hB.re hx)
    replace HV := Lib.hid (HV.out.trans hx)
    clear hx k1 g0 g1 g2 HI HI2 D0 D1 D2 HS hB
    have k1 := (cells_of HQ.here.blk).1
    rw [hA] at k1
    go_wp2_with (first
      | (at_builtin; refine wpList_app_lit rfl (.tmp 65) (.tmp 67) 28 rfl intInfo intCells rfl (by exact HQ.here.os) [(x : Int)] 1 _ rfl (p.small.length + 1) 1 (by simp [ordZ]) rfl _ rfl (by first | rfl | exact hsz | simp) (by omega) (by simp [maxLen]; omega) (HQ.here.ext.size) ?_; intro A2 c2 W2 hown2 hgr2 hat2; rw [ordZ_snoc] at hown2; have HX2 := Lib.hid (HQ.here.grow ((Ext.refl _).alloc (.cells #[.int .i64 x] 3))); have hb2 := blk_grown HX2.out.os HX2.out.blk hgr2 (by decide); clear k1; have k1 := (cells_of hb2).1; have f1 := (cells_of hb2).2; have q1 := lt_of_heap hb2; have ho2 := Lib.hid hown2; have hg2 := Lib.hid hgr2; have ht2 := Lib.hid hat2; clear hown2 hgr2 hat2 hb2))
    have HQ3 := Lib.hid (HX2.out.turn_s (by simp) ho2.out hg2.out (ht2.out.imp id fun h => .inr ⟨_, by simp, h⟩))
    clear ho2 hg2 ht2 k1 f1 q1 HX2 HQ HV
    generalize W2.setCell ⟨b, 4, none⟩ _ = W3 at *
    have hb3 : BoxK b #[.slice G.nA G.ns.length G.ncap, .slice G.rA G.rs.length G.rcap, .int .i64 lim, .int .i64 blk, .slice A2 (p.small.length + 1) c2, .slice bA p.begins.length bc, .slice kA p.lk.length kc, .slice lA p.large.length lc, .slice pA p.pile.length pc, .int .i64 p.top] 83 W3 := by
      have := HQ3.out.blk
      unfold BoxK
      simpa using this
    have hyd := (Ext.refl W3).drew
    have hGP := hb3.ext hyd
    have gB := hGP.cells
    (refine wp_region_gp (w := W3) (fun _ => True) (.rd [0] (.wk [10, 11, 12, 13] (.rd [1, 2, 3, 4, 5, 6, 7, 8] (.one 9 .tl)))) [] (by kernel_rfl) (by kernel_rfl) (by intro c a d v w h; first | exact h | (cases d <;> first | exact h | (cases h; done) | cases h.1.1 | cases h.1)) trivial ?_; (refine gp_rd ?_; (try simp only [opsOf, List.map_cons, List.map_nil, List.getD_cons_zero, List.getD_cons_succ]); (repeat (go_big_quiet_step (fail))); refine wpQuiet_nil ?_); refine gp_wk (fun _ => trivial) (fun w' => ∃ u : KeptOf (W3).drew (BoxK b #[.slice G.nA G.ns.length G.ncap, .slice G.rA G.rs.length G.rcap, .int .i64 lim, .int .i64 blk, .slice A2 (p.small.length + 1) c2, .slice bA p.begins.length bc, .slice kA p.lk.length kc, .slice lA p.large.length lc, .slice pA p.pile.length pc, .int .i64 p.top] 83), w' = u.1) (kept_mk hGP) ?_)
    (refine gp_rd ?_; (try simp only [opsOf, List.map_cons, List.map_nil, List.getD_cons_zero, List.getD_cons_succ]); (repeat (go_big_quiet_step (fail))); refine wpQuiet_nil ?_)
    (refine gp_one (by (try simp only [List.getD_cons_succ, List.getD_cons_zero]); rfl) (by rfl) ?_; intro K hK; go_simp)
    refine hK _ _ _ (fun _ h => h) (kept_mk (hGP.ext ((Ext.refl _).alloc _))) ?_
    clear hK K gB
    (refine gp_tl ?_; (try simp only [opsOf, List.map_cons, List.map_nil, List.getD_cons_zero, List.getD_cons_succ]))
    have HQ4 := Lib.hid (HQ3.out.grow hyd)
    clear hyd hGP hb3 HQ3
    have edr : ∀ o, (W3.alloc o).drew = W3.drew.alloc o := fun _ => rfl
    rw [edr]
    clear edr
    have hsz : W3.drew.heap.size = W3.heap.size := rfl
    generalize W3.drew = W4 at *
    have k1 := (cells_of (HQ4.out.grow ((Ext.refl _).alloc (.cells #[.int .i64 p.top] 3))).blk).1
    go_wp2_with (first
      | (at_builtin; refine wpList_app_lit rfl (.tmp 75) (.tmp 80) 28 rfl intInfo intCells rfl (by exact HQ4.out.ob) [(p.top : Int)] 1 _ rfl (p.begins.length + 1) 1 (by simp [ordZ]) rfl _ rfl (by first | rfl | exact hsz | simp) (by omega) (by simp [maxLen]; omega) (HQ4.out.ext.size) ?_; intro A5 c5 W5 hown5 hgr5 hat5; rw [ordZ_snoc] at hown5; have HX5 := Lib.hid (HQ4.out.grow ((Ext.refl _).alloc (.cells #[.int .i64 p.top] 3))); have hb5 := blk_grown HX5.out.ob HX5.out.blk hgr5 (by decide); clear k1; have k1 := (cells_of hb5).1; have f1 := (cells_of hb5).2; have q1 := lt_of_heap hb5; have ho5 := Lib.hid hown5; have hg5 := Lib.hid hgr5; have ht5 := Lib.hid hat5; clear hown5 hgr5 hat5 hb5)
      | (at_builtin; have HQ5 := Lib.hid (HX5.out.turn_b (by simp) ho5.out hg5.out (ht5.out.imp id fun h => .inr ⟨_, by simp, h⟩)); refine wpList_app_lit rfl (.tmp 88) (.tmp 89) 76 rfl boolInfo boolCells rfl (by exact HQ5.out.ok) [false] 1 _ rfl (p.lk.length + 1) 1 (by simp [ordZ]) rfl _ rfl (by first | rfl | exact hsz | simp) (by omega) (by simp [maxLen]; omega) (HQ5.out.ext.size) ?_; intro A7 c7 W7 hown7 hgr7 hat7; have HX7 := Lib.hid (HQ5.out.grow ((Ext.refl _).alloc (.cells #[.bool false] 4))); have hb7 := blk_grown HX7.out.ok HX7.out.blk hgr7 (by decide); clear k1; have k1 := (cells_of hb7).1; have f1 := (cells_of hb7).2; have q1 := lt_of_heap hb7; have ho7 := Lib.hid hown7; have hg7 := Lib.hid hgr7; have ht7 := Lib.hid hat7; clear hown7 hgr7 hat7 hb7))
    have HQ8 := (HX7.out.turn_k (by simp) ho7.out hg7.out (ht7.out.imp id fun h => .inr ⟨_, by simp, h⟩)).top (p.top + z)
    go_ret
    exact ⟨rfl, _, _, _, _, _, _, _, _, _, _, HQ8⟩
theorem rmeet_any (h : RP V0 G lim blk b p V) (hV : GraphAt V0 G) (v : Int × Int) (hv : v.1 = 2 → 0 ≤ v.2 ∧ v.2 < G.ns.length) (ho : PlOk (envG G lim blk) p) (ht : TopOk p) (hG : RchG G lim blk) :
    Calls Try.prog 85 #[.pointer (some ⟨b, 0, none⟩), .agg #[.int .i64 v.1, .int .i64 v.2]] V (MeetPost V0 G lim blk b p v) := by
  by_cases h2 : v.1 = 2
  rotate_left
  · exact rmeet_val h v h2
  obtain ⟨h0, h1⟩ := hv h2
  obtain ⟨k, y⟩ := v
  obtain ⟨x, rfl⟩ := Int.eq_ofNat_of_zero_le h0
  simp only at h2 h1
  subst h2
  by_cases hm : x ∈ p.small ++ p.large
  · exact rmeet_old h x ho hG hm
  · exact rmeet_new h hV x ho ht hG (by omega) hm
end
end Go.Proofs.Ytphpppjfogpohaa

/- awake of the laws of graphs, walked. -/
set_option linter.unusedSimpArgs false
set_option linter.unusedVariables false
namespace Go.Proofs.Ytphpppjfogpohaa
open Go.RowKit Go.Shelf

theorem aw16_lit (V : World) : GraphAt ((((((V.alloc (.cells #[.int .i64 2, .int .i64 1] 53)).alloc (.cells #[.int .i64 2, .int .i64 0] 53)).alloc (.cells #[.int .u64 7] 68)).alloc (.cells #[.int .i64 0, .slice (some ⟨V.heap.size, 0, none⟩) 1 1, .slice none 0 0, .int .i64 3, .slice (some ⟨V.heap.size + 1, 0, none⟩) 1 1, .slice (some ⟨V.heap.size + 1 + 1, 0, none⟩) 1 1] 51)).alloc (.cells #[.int .i64 2, .int .i64 0] 53)).alloc (.cells #[.slice (some ⟨V.heap.size + 1 + 1 + 1, 0, none⟩) 2 2, .slice (some ⟨V.heap.size + 1 + 1 + 1 + 1, 0, none⟩) 1 1] 25)) (awG (some ⟨V.heap.size + 1 + 1 + 1, 0, none⟩) 2 (some ⟨V.heap.size, 0, none⟩) 1 none 0 (some ⟨V.heap.size + 1, 0, none⟩) 1 (some ⟨V.heap.size + 1 + 1, 0, none⟩) 1 (some ⟨V.heap.size + 1 + 1 + 1 + 1, 0, none⟩) 1 1) ∧ ((((((V.alloc (.cells #[.int .i64 2, .int .i64 1] 53)).alloc (.cells #[.int .i64 2, .int .i64 0] 53)).alloc (.cells #[.int .u64 7] 68)).alloc (.cells #[.int .i64 0, .slice (some ⟨V.heap.size, 0, none⟩) 1 1, .slice none 0 0, .int .i64 3, .slice (some ⟨V.heap.size + 1, 0, none⟩) 1 1, .slice (some ⟨V.heap.size + 1 + 1, 0, none⟩) 1 1] 51)).alloc (.cells #[.int .i64 2, .int .i64 0] 53)).alloc (.cells #[.slice (some ⟨V.heap.size + 1 + 1 + 1, 0, none⟩) 2 2, .slice (some ⟨V.heap.size + 1 + 1 + 1 + 1, 0, none⟩) 1 1] 25)).heap[V.heap.size + 1 + 1 + 1 + 1 + 1]? = some (.cells #[.slice (some ⟨V.heap.size + 1 + 1 + 1, 0, none⟩) 2 2, .slice (some ⟨V.heap.size + 1 + 1 + 1 + 1, 0, none⟩) 1 1] 25 (0, 0)) ∧ ((((((V.alloc (.cells #[.int .i64 2, .int .i64 1] 53)).alloc (.cells #[.int .i64 2, .int .i64 0] 53)).alloc (.cells #[.int .u64 7] 68)).alloc (.cells #[.int .i64 0, .slice (some ⟨V.heap.size, 0, none⟩) 1 1, .slice none 0 0, .int .i64 3, .slice (some ⟨V.heap.size + 1, 0, none⟩) 1 1, .slice (some ⟨V.heap.size + 1 + 1, 0, none⟩) 1 1] 51)).alloc (.cells #[.int .i64 2, .int .i64 0] 53)).alloc (.cells #[.slice (some ⟨V.heap.size + 1 + 1 + 1, 0, none⟩) 2 2, .slice (some ⟨V.heap.size + 1 + 1 + 1 + 1, 0, none⟩) 1 1] 25)).heap[V.heap.size + 1 + 1 + 1]? = some (.cells #[.int .i64 0, .slice (some ⟨V.heap.size, 0, none⟩) 1 1, .slice none 0 0, .int .i64 3, .slice (some ⟨V.heap.size + 1, 0, none⟩) 1 1, .slice (some ⟨V.heap.size + 1 + 1, 0, none⟩) 1 1] 51 (0, 0)) ∧ Ext V ((((((V.alloc (.cells #[.int .i64 2, .int .i64 1] 53)).alloc (.cells #[.int .i64 2, .int .i64 0] 53)).alloc (.cells #[.int .u64 7] 68)).alloc (.cells #[.int .i64 0, .slice (some ⟨V.heap.size, 0, none⟩) 1 1, .slice none 0 0, .int .i64 3, .slice (some ⟨V.heap.size + 1, 0, none⟩) 1 1, .slice (some ⟨V.heap.size + 1 + 1, 0, none⟩) 1 1] 51)).alloc (.cells #[.int .i64 2, .int .i64 0] 53)).alloc (.cells #[.slice (some ⟨V.heap.size + 1 + 1 + 1, 0, none⟩) 2 2, .slice (some ⟨V.heap.size + 1 + 1 + 1 + 1, 0, none⟩) 1 1] 25)) ∧ ((((((V.alloc (.cells #[.int .i64 2, .int .i64 1] 53)).alloc (.cells #[.int .i64 2, .int .i64 0] 53)).alloc (.cells #[.int .u64 7] 68)).alloc (.cells #[.int .i64 0, .slice (some ⟨V.heap.size, 0, none⟩) 1 1, .slice none 0 0, .int .i64 3, .slice (some ⟨V.heap.size + 1, 0, none⟩) 1 1, .slice (some ⟨V.heap.size + 1 + 1, 0, none⟩) 1 1] 51)).alloc (.cells #[.int .i64 2, .int .i64 0] 53)).alloc (.cells #[.slice (some ⟨V.heap.size + 1 + 1 + 1, 0, none⟩) 2 2, .slice (some ⟨V.heap.size + 1 + 1 + 1 + 1, 0, none⟩) 1 1] 25)).heap.size = V.heap.size + 1 + 1 + 1 + 1 + 1 + 1 := by
  have h0 := blk_new V #[.int .i64 2, .int .i64 1] 53 (V.heap.size) (by simp)
  have g0 := (blk_old (o2 := .cells #[.slice (some ⟨V.heap.size + 1 + 1 + 1, 0, none⟩) 2 2, .slice (some ⟨V.heap.size + 1 + 1 + 1 + 1, 0, none⟩) 1 1] 25) (blk_old (o2 := .cells #[.int .i64 2, .int .i64 0] 53) (blk_old (o2 := .cells #[.int .i64 0, .slice (some ⟨V.heap.size, 0, none⟩) 1 1, .slice none 0 0, .int .i64 3, .slice (some ⟨V.heap.size + 1, 0, none⟩) 1 1, .slice (some ⟨V.heap.size + 1 + 1, 0, none⟩) 1 1] 51) (blk_old (o2 := .cells #[.int .u64 7] 68) (blk_old (o2 := .cells #[.int .i64 2, .int .i64 0] 53) h0)))))
  clear h0
  have h1 := blk_new (V.alloc (.cells #[.int .i64 2, .int .i64 1] 53)) #[.int .i64 2, .int .i64 0] 53 (V.heap.size + 1) (by simp)
  have g1 := (blk_old (o2 := .cells #[.slice (some ⟨V.heap.size + 1 + 1 + 1, 0, none⟩) 2 2, .slice (some ⟨V.heap.size + 1 + 1 + 1 + 1, 0, none⟩) 1 1] 25) (blk_old (o2 := .cells #[.int .i64 2, .int .i64 0] 53) (blk_old (o2 := .cells #[.int .i64 0, .slice (some ⟨V.heap.size, 0, none⟩) 1 1, .slice none 0 0, .int .i64 3, .slice (some ⟨V.heap.size + 1, 0, none⟩) 1 1, .slice (some ⟨V.heap.size + 1 + 1, 0, none⟩) 1 1] 51) (blk_old (o2 := .cells #[.int .u64 7] 68) h1))))
  clear h1
  have h2 := blk_new ((V.alloc (.cells #[.int .i64 2, .int .i64 1] 53)).alloc (.cells #[.int .i64 2, .int .i64 0] 53)) #[.int .u64 7] 68 (V.heap.size + 1 + 1) (by simp)
  have g2 := (blk_old (o2 := .cells #[.slice (some ⟨V.heap.size + 1 + 1 + 1, 0, none⟩) 2 2, .slice (some ⟨V.heap.size + 1 + 1 + 1 + 1, 0, none⟩) 1 1] 25) (blk_old (o2 := .cells #[.int .i64 2, .int .i64 0] 53) (blk_old (o2 := .cells #[.int .i64 0, .slice (some ⟨V.heap.size, 0, none⟩) 1 1, .slice none 0 0, .int .i64 3, .slice (some ⟨V.heap.size + 1, 0, none⟩) 1 1, .slice (some ⟨V.heap.size + 1 + 1, 0, none⟩) 1 1] 51) h2)))
  clear h2
  have h3 := blk_new (((V.alloc (.cells #[.int .i64 2, .int .i64 1] 53)).alloc (.cells #[.int .i64 2, .int .i64 0] 53)).alloc (.cells #[.int .u64 7] 68)) #[.int .i64 0, .slice (some ⟨V.heap.size, 0, none⟩) 1 1, .slice none 0 0, .int .i64 3, .slice (some ⟨V.heap.size + 1, 0, none⟩) 1 1, .slice (some ⟨V.heap.size + 1 + 1, 0, none⟩) 1 1] 51 (V.heap.size + 1 + 1 + 1) (by simp)
  have g3 := (blk_old (o2 := .cells #[.slice (some ⟨V.heap.size + 1 + 1 + 1, 0, none⟩) 2 2, .slice (some ⟨V.heap.size + 1 + 1 + 1 + 1, 0, none⟩) 1 1] 25) (blk_old (o2 := .cells #[.int .i64 2, .int .i64 0] 53) h3))
  clear h3
  have h4 := blk_new ((((V.alloc (.cells #[.int .i64 2, .int .i64 1] 53)).alloc (.cells #[.int .i64 2, .int .i64 0] 53)).alloc (.cells #[.int .u64 7] 68)).alloc (.cells #[.int .i64 0, .slice (some ⟨V.heap.size, 0, none⟩) 1 1, .slice none 0 0, .int .i64 3, .slice (some ⟨V.heap.size + 1, 0, none⟩) 1 1, .slice (some ⟨V.heap.size + 1 + 1, 0, none⟩) 1 1] 51)) #[.int .i64 2, .int .i64 0] 53 (V.heap.size + 1 + 1 + 1 + 1) (by simp)
  have g4 := (blk_old (o2 := .cells #[.slice (some ⟨V.heap.size + 1 + 1 + 1, 0, none⟩) 2 2, .slice (some ⟨V.heap.size + 1 + 1 + 1 + 1, 0, none⟩) 1 1] 25) h4)
  clear h4
  have h5 := blk_new (((((V.alloc (.cells #[.int .i64 2, .int .i64 1] 53)).alloc (.cells #[.int .i64 2, .int .i64 0] 53)).alloc (.cells #[.int .u64 7] 68)).alloc (.cells #[.int .i64 0, .slice (some ⟨V.heap.size, 0, none⟩) 1 1, .slice none 0 0, .int .i64 3, .slice (some ⟨V.heap.size + 1, 0, none⟩) 1 1, .slice (some ⟨V.heap.size + 1 + 1, 0, none⟩) 1 1] 51)).alloc (.cells #[.int .i64 2, .int .i64 0] 53)) #[.slice (some ⟨V.heap.size + 1 + 1 + 1, 0, none⟩) 2 2, .slice (some ⟨V.heap.size + 1 + 1 + 1 + 1, 0, none⟩) 1 1] 25 (V.heap.size + 1 + 1 + 1 + 1 + 1) (by simp)
  have g5 := h5
  refine ⟨⟨⟨row_block g3 rfl nodeCells (by decide), fun x hx => ?_⟩, row_block g4 rfl spanCells (by decide)⟩, g5, g3, ((((((Ext.refl V).alloc _).alloc _).alloc _).alloc _).alloc _).alloc _, by simp⟩
  simp only [awG, List.mem_cons, List.not_mem_nil, or_false] at hx
  rcases hx with rfl | rfl
  · exact ⟨row_block g0 rfl spanCells (by decide), RowAt.none _ _ _⟩
  · exact ⟨row_block g1 rfl spanCells (by decide), row_block g2 rfl u64Cells (by decide)⟩
end Go.Proofs.Ytphpppjfogpohaa

/- The law GraphTells. -/
set_option linter.unusedSimpArgs false
set_option linter.unusedVariables false
namespace Go.Proofs.Ytphpppjfogpohaa
open Go.RowKit Go.Shelf

theorem large_is (G : GraphD) (b : Bool) (h : largeG G = b) (V : World) (hG : GraphAt V G) (oG : GraphOk G) :
    Calls Try.prog 9 #[.agg #[.slice G.nA G.ns.length G.ncap, .slice G.rA G.rs.length G.rcap]] V fun e w' => e = .returned (.bool b) ∧ Ext V w' := by
  rw [← h]; exact glarge_any G V hG (by have := oG.nl; omega) (by have := oG.rl; omega) (fun x hx => ⟨by have := (oG.each x hx).fl; omega, by have := (oG.each x hx).rl; omega⟩)
theorem refsize_is (x : NodeD) (n : Int) (W : World) (h : sizeN x = n) : Calls Try.prog 78 #[.agg #[.int .i64 x.kind, .slice x.fA x.fields.length x.fcap, .slice x.rA x.raws.length x.rcap]] W fun e w' => e = .returned (.int .i64 n) ∧ Ext W w' := by
  rw [← h]; exact refsize_any x W
theorem sums_is (G : GraphD) (A : Option Addr) (cap : Nat) (l : List Int) (n m : Int) (V : World) (h : addS sizeN G.ns l = n) (h2 : addS (fun x => x.fields.length) G.ns l = m) (hG : GraphAt V G) (hl : IntsAt V A l) (hlen : l.length ≤ 9223372036854775807) (hn : G.ns.length ≤ 9223372036854775807) :
    Calls Try.prog 54 #[.agg #[.slice G.nA G.ns.length G.ncap, .slice G.rA G.rs.length G.rcap], .slice A l.length cap] V fun e w' => e = .returned (.tuple #[.int .i64 n, .int .i64 m]) ∧ Ext V w' := by
  rw [← h, ← h2]; exact grefsums_any G A cap l V hG hl hlen hn
theorem ints_is (A A2 : Option Addr) (cap cap2 : Nat) (xs ys : List Int) (b : Bool) (hb : decide (xs = ys) = b) (W : World) (hlen : xs.length ≤ 9223372036854775807) (hlen2 : ys.length ≤ 9223372036854775807) (hl : IntsAt W A xs) (hl2 : IntsAt W A2 ys) :
    Calls Try.prog 15 #[.slice A xs.length cap, .slice A2 ys.length cap2] W fun e w' => e = .returned (.bool b) ∧ Ext W w' := by
  subst hb; exact ints_any A A2 cap cap2 xs ys W hlen hlen2 hl hl2
theorem leadG_len (ns : List NodeD) (i : Int) (h : ∀ x ∈ ns, x.fields.length ≤ 8796093022208) : (leadG ns i).length ≤ 8796093022208 := by
  unfold leadG
  split
  · rename_i hi
    have h1 := h _ (getD_mem (d := default) (show i.toNat < ns.length by omega))
    have h2 : (leadsL (ns.getD i.toNat default).fields).length ≤ (ns.getD i.toNat default).fields.length := by
      unfold leadsL; simp only [List.length_map]; exact List.length_filter_le _ _
    omega
  · simp

set_option maxRecDepth 100000
set_option maxHeartbeats 2000000
end Go.Proofs.Ytphpppjfogpohaa

/- The law GraphTurns. -/
set_option linter.unusedSimpArgs false
set_option linter.unusedVariables false
namespace Go.Proofs.Ytphpppjfogpohaa
open Go.RowKit Go.Shelf

/-- What a renumbering lays is not too large. -/
theorem ren_nodeB {G : GraphD} (oG : GraphOk G) (o : List Int) {ns : List NodeD} (h : ns.map nodeV = renN G o) : ∀ x ∈ ns, NodeB x := by
  intro x hx
  have h1 : nodeV x ∈ ns.map nodeV := List.mem_map.2 ⟨x, hx, rfl⟩
  rw [h, renN] at h1
  split at h1
  · obtain ⟨j, hj, e⟩ := List.mem_map.1 h1
    have bd : ∀ k : Nat, (G.ns.getD k default).fields.length ≤ 8796093022208 ∧ (G.ns.getD k default).raws.length ≤ 17592186044416 := fun k => by
      by_cases hk : k < G.ns.length
      · have := oG.each _ (getD_mem (d := default) hk); exact ⟨this.fl, this.rl⟩
      · rw [List.getD_eq_getElem?_getD, List.getElem?_eq_none (by omega)]; exact ⟨by decide, by decide⟩
    have := bd j.toNat
    have e1 := congrArg (fun y : Int × List (Int × Int) × List Int => y.2.1.length) e
    have e2 := congrArg (fun y : Int × List (Int × Int) × List Int => y.2.2.length) e
    simp only [turnN, nodeV, List.length_map] at e1 e2
    exact ⟨by omega, by omega⟩
  · cases h1
theorem ren_len {G : GraphD} (o : List Int) {ns : List NodeD} (h : ns.map nodeV = renN G o) : ns.length ≤ o.length := by
  have := congrArg List.length h
  rw [List.length_map, renN] at this
  split at this
  · simp only [List.length_map] at this; omega
  · simp only [List.length_nil] at this; omega
theorem ren_rs {G : GraphD} (o : List Int) {rs : List (Int × Int)} (h : rs = renR G o) : rs.length ≤ G.rs.length := by
  rw [h, renR]
  split <;> simp
theorem refsame_b (G H : GraphD) (b : Bool) (W : World) (hb : sameG G H = b) (hG : GraphAt W G) (hH : GraphAt W H) (g1 : G.ns.length ≤ 9223372036854775807) (g2 : G.rs.length ≤ 9223372036854775807) (h1 : H.ns.length ≤ 9223372036854775807) (h2 : H.rs.length ≤ 9223372036854775807)
    (bG : ∀ x ∈ G.ns, NodeB x) (bH : ∀ x ∈ H.ns, NodeB x) : Calls Try.prog 17 #[.agg #[.slice G.nA G.ns.length G.ncap, .slice G.rA G.rs.length G.rcap], .agg #[.slice H.nA H.ns.length H.ncap, .slice H.rA H.rs.length H.rcap]] W fun e w' => e = .returned (.bool b) ∧ Ext W w' := by
  rw [← hb]
  exact refsame_x _ _ _ _ _ _ _ _ _ _ _ _ W hG.nodes hH.nodes hG.roots hH.roots g1 g2 h1 h2 bG bH
theorem grefsame_is (G H : GraphD) (b : Bool) (W : World) (h : sameG G H = b) (hG : GraphAt W G) (hH : GraphAt W H) (oG : GraphOk G) (oH : GraphOk H) :
    Calls Try.prog 17 #[.agg #[.slice G.nA G.ns.length G.ncap, .slice G.rA G.rs.length G.rcap], .agg #[.slice H.nA H.ns.length H.ncap, .slice H.rA H.rs.length H.rcap]] W fun e w' => e = .returned (.bool b) ∧ Ext W w' := by
  rw [← h]; exact grefsame_any G H W hG hH oG oH

set_option maxRecDepth 100000
set_option maxHeartbeats 2000000
end Go.Proofs.Ytphpppjfogpohaa

/- A graph put in another order, and back: plain. Of no program. -/
set_option linter.unusedSimpArgs false
set_option linter.unusedVariables false
namespace Go.Proofs.Ytphpppjfogpohaa
open Go.RowKit Go.Shelf

theorem nodup_short : ∀ (n : Nat) (l : List Nat), l.Nodup → (∀ x ∈ l, x < n) → l.length ≤ n := by
  intro n
  induction n with
  | zero =>
    intro l _ h
    cases l with
    | nil => simp
    | cons x l => exact absurd (h x (by simp)) (by omega)
  | succ n ih =>
    intro l hd h
    have h1 := ih (l.filter (fun x => decide (x ≠ n))) (hd.sublist List.filter_sublist) (fun x hx => by
      obtain ⟨h2, h3⟩ := List.mem_filter.1 hx
      have := h x h2
      have : x ≠ n := by simpa using h3
      omega)
    have h2 : ∀ (m : List Nat), m.Nodup → m.length ≤ (m.filter (fun x => decide (x ≠ n))).length + 1 := by
      intro m
      induction m with
      | nil => simp
      | cons x m ihm =>
        intro hm
        rw [List.nodup_cons] at hm
        by_cases hx : x = n
        · subst hx
          have e : m.filter (fun y => decide (y ≠ x)) = m := by
            rw [List.filter_eq_self]
            intro y hy
            have : y ≠ x := fun e => hm.1 (e ▸ hy)
            simpa using this
          rw [List.filter_cons_of_neg (by simp), e]
          simp
        · rw [List.filter_cons_of_pos (by simpa using hx)]
          have := ihm hm.2
          simp only [List.length_cons]
          omega
    have := h2 l hd
    omega
/-- An order that is one of all nodes. -/
structure Perm (o : List Int) (n : Nat) : Prop where
  len : o.length = n
  in_ : ∀ i, i < n → 0 ≤ o.getD i 0 ∧ o.getD i 0 < n
  pl : ∀ i, i < n → placeZ o (o.getD i 0) = i
theorem Perm.of_bad {o : List Int} {n : Nat} (h : badO o n = false) (hl : o.length = n) : Perm o n := by
  have h1 : ∀ i, i < n → 0 ≤ o.getD i 0 ∧ o.getD i 0 < n ∧ placeZ o (o.getD i 0) = i := fun i hi => by
    apply Classical.byContradiction
    intro hn
    rw [badO_yes (by omega) hn] at h
    cases h
  exact ⟨hl, fun i hi => ⟨(h1 i hi).1, (h1 i hi).2.1⟩, fun i hi => (h1 i hi).2.2⟩
section
variable {o : List Int} {n : Nat}
theorem Perm.inj (h : Perm o n) {i j : Nat} (hi : i < n) (hj : j < n) (he : o.getD i 0 = o.getD j 0) : i = j := by
  have h1 := h.pl i hi
  rw [he, h.pl j hj] at h1
  omega
theorem Perm.all (h : Perm o n) {x : Nat} (hx : x < n) : ∃ k : Nat, k < n ∧ placeZ o x = k ∧ o.getD k 0 = x := by
  rcases place_cases o x with ⟨_, h2⟩ | ⟨k, h1, h2, h3, _⟩
  · exfalso
    have hn : ((x : Nat) :: o.map Int.toNat).Nodup := by
      rw [List.nodup_cons]
      constructor
      · intro hm
        obtain ⟨y, hy, e⟩ := List.mem_map.1 hm
        obtain ⟨i, hi, rfl⟩ := List.mem_iff_getElem.1 hy
        have := h.in_ i (by have := h.len; omega)
        rw [List.getD_eq_getElem?_getD, List.getElem?_eq_getElem hi, Option.getD_some] at this
        exact h2 _ hy (by omega)
      · rw [List.nodup_iff_pairwise_ne, List.pairwise_iff_getElem]
        intro i j hi hj hij he
        simp only [List.length_map] at hi hj
        have a := h.in_ i (by have := h.len; omega)
        have b := h.in_ j (by have := h.len; omega)
        have := h.inj (i := i) (j := j) (by have := h.len; omega) (by have := h.len; omega) (by
          rw [List.getD_eq_getElem?_getD, List.getElem?_eq_getElem hi, Option.getD_some] at a ⊢
          rw [List.getD_eq_getElem?_getD, List.getElem?_eq_getElem hj, Option.getD_some] at b ⊢
          simp only [List.getElem_map] at he
          omega)
        omega
    have := nodup_short n _ hn (fun y hy => by
      rcases List.mem_cons.1 hy with rfl | hy
      · exact hx
      · obtain ⟨z, hz, rfl⟩ := List.mem_map.1 hy
        obtain ⟨i, hi, rfl⟩ := List.mem_iff_getElem.1 hz
        have := h.in_ i (by have := h.len; omega)
        rw [List.getD_eq_getElem?_getD, List.getElem?_eq_getElem hi, Option.getD_some] at this
        omega)
    simp only [List.length_cons, List.length_map, h.len] at this
    omega
  · exact ⟨k, by have := h.len; omega, h2, h3⟩
/-- The order back. -/
def backO (o : List Int) (n : Nat) : List Int := (List.range n).map fun x => placeZ o (x : Nat)
theorem back_len : (backO o n).length = n := by simp [backO]
theorem back_get {x : Nat} (hx : x < n) : (backO o n).getD x 0 = placeZ o x := by simp [backO, hx]
theorem Perm.back_place (h : Perm o n) {p : Nat} (hp : p < n) : placeZ (backO o n) p = o.getD p 0 := by
  obtain ⟨h1, h2⟩ := h.in_ p hp
  obtain ⟨y, hy⟩ := Int.eq_ofNat_of_zero_le h1
  have hyn : y < n := by omega
  have e : placeZ (backO o n) (p : Int) = (y : Nat) := by
    refine place_hit (by rw [back_len]; exact hyn) ?_ (fun i hi => ?_)
    · rw [back_get hyn, ← hy, h.pl p hp]
    · rw [back_get (by omega)]
      intro he
      obtain ⟨k, hk, h3, h4⟩ := h.all (x := i) (by omega)
      rw [h3] at he
      have : k = p := by omega
      subst this
      omega
  rw [e, hy]
theorem Perm.back_bad (h : Perm o n) : badO (backO o n) n = false := by
  refine badO_no fun i hi => ?_
  rw [back_len] at hi
  obtain ⟨k, hk, h1, h2⟩ := h.all (x := i) hi
  rw [back_get hi, h1]
  refine ⟨by omega, by omega, ?_⟩
  rw [h.back_place hk, h2]
theorem Perm.turn_back (h : Perm o n) {v : Int × Int} (hv : v.1 = 2 → 0 ≤ v.2 ∧ v.2 < n) : turned (backO o n) (turned o v) = v := by
  by_cases h2 : v.1 = 2
  · obtain ⟨h3, h4⟩ := hv h2
    obtain ⟨x, hx⟩ := Int.eq_ofNat_of_zero_le h3
    obtain ⟨k, hk, h5, h6⟩ := h.all (x := x) (by omega)
    have e : turned o v = (2, (k : Int)) := by rw [turned, if_pos h2, hx, h5]
    rw [e, turned, if_pos rfl, h.back_place hk, h6, ← hx, ← h2]
  · rw [turned, turned, if_neg h2, if_neg h2]
theorem Perm.not_lost (h : Perm o n) {v : Int × Int} (hv : v.1 = 2 → 0 ≤ v.2 ∧ v.2 < n) : lostV (backO o n) (turned o v) = false := by
  by_cases h2 : v.1 = 2
  · obtain ⟨h3, h4⟩ := hv h2
    obtain ⟨x, hx⟩ := Int.eq_ofNat_of_zero_le h3
    obtain ⟨k, hk, h5, h6⟩ := h.all (x := x) (by omega)
    have e : turned o v = (2, (k : Int)) := by rw [turned, if_pos h2, hx, h5]
    rw [e, lostV, h.back_place hk, h6]
    simp
  · rw [turned, if_neg h2, lostV]
    simp [h2]
theorem okV_turn (h : Perm o n) (hn : n ≤ 1099511627776) {v : Int × Int} (hv : okV n v = true) : okV n (turned o v) = true := by
  by_cases h2 : v.1 = 2
  · have h3 : 0 ≤ v.2 ∧ v.2 < n := by simp [okV, vmayB, h2] at hv; omega
    obtain ⟨x, hx⟩ := Int.eq_ofNat_of_zero_le h3.1
    obtain ⟨k, hk, h5, h6⟩ := h.all (x := x) (by omega)
    have e : turned o v = (2, (k : Int)) := by rw [turned, if_pos h2, hx, h5]
    rw [e]
    simp [okV, vmayB]
    omega
  · rw [turned, if_neg h2]; exact hv
theorem okV_ref2 {v : Int × Int} (hv : okV n v = true) : v.1 = 2 → 0 ≤ v.2 ∧ v.2 < n := by
  intro h2
  simp [okV, vmayB, h2] at hv; omega
end
section
variable {G H : GraphD} {o : List Int}
/-- What a graph is that is G in the order o. -/
structure TurnedBy (G H : GraphD) (o : List Int) : Prop where
  ns : H.ns.map nodeV = o.map (turnN o G.ns)
  rs : H.rs = G.rs.map (turned o)
theorem TurnedBy.len (h : TurnedBy G H o) (hp : Perm o G.ns.length) : H.ns.length = G.ns.length := by
  have := congrArg List.length h.ns
  simp only [List.length_map] at this
  rw [this, hp.len]
theorem TurnedBy.node (h : TurnedBy G H o) (hp : Perm o G.ns.length) {j : Nat} (hj : j < G.ns.length) : nodeV (H.ns.getD j default) = turnN o G.ns (o.getD j 0) := by
  have hl := h.len hp
  have e := congrArg (fun l => l.getD j (0, [], [])) h.ns
  have hj1 : j < H.ns.length := by omega
  have hj2 : j < o.length := by rw [hp.len]; exact hj
  simp only [List.getD_eq_getElem?_getD, List.getElem?_map] at e ⊢
  rw [List.getElem?_eq_getElem hj1] at e ⊢
  rw [List.getElem?_eq_getElem hj2] at e ⊢
  exact e
theorem right_parts (hR : rightG G = true) : (∀ x ∈ G.ns, okN x = true ∧ ∀ v ∈ x.fields, okV G.ns.length v = true) ∧ ∀ v ∈ G.rs, okV G.ns.length v = true := by
  simp only [rightG, Bool.and_eq_true, List.all_eq_true] at hR
  exact hR
theorem turnN_eq (j : Int) (ns : List NodeD) : turnN o ns j = ((ns.getD j.toNat default).kind, (ns.getD j.toNat default).fields.map (turned o), (ns.getD j.toNat default).raws) := rfl
/-- Each node of H is a turned one of G. -/
theorem TurnedBy.each (h : TurnedBy G H o) (hp : Perm o G.ns.length) : ∀ y ∈ H.ns, ∃ x ∈ G.ns, y.kind = x.kind ∧ y.fields = x.fields.map (turned o) ∧ y.raws = x.raws := by
  intro y hy
  obtain ⟨j, hj, rfl⟩ := List.mem_iff_getElem.1 hy
  have hl := h.len hp
  have e := h.node hp (j := j) (by omega)
  have hb := hp.in_ j (by omega)
  rw [List.getD_eq_getElem?_getD, List.getElem?_eq_getElem hj, Option.getD_some, turnN_eq] at e
  simp only [nodeV, Prod.mk.injEq] at e
  exact ⟨_, getD_mem (d := default) (by omega), e⟩
theorem TurnedBy.right (h : TurnedBy G H o) (hp : Perm o G.ns.length) (hR : rightG G = true) (hn : G.ns.length ≤ 1000) : rightG H = true := by
  obtain ⟨h1, h2⟩ := right_parts hR
  have hl := h.len hp
  simp only [rightG, Bool.and_eq_true, List.all_eq_true, hl]
  refine ⟨fun y hy => ?_, fun v hv => ?_⟩
  · obtain ⟨x, hx, e1, e2, e3⟩ := h.each hp y hy
    obtain ⟨a, b⟩ := h1 x hx
    refine ⟨?_, fun v hv => ?_⟩
    · simp only [okN, e1, e2, e3, List.length_map] at a ⊢; exact a
    · rw [e2] at hv
      obtain ⟨u, hu, rfl⟩ := List.mem_map.1 hv
      exact okV_turn hp (by omega) (b u hu)
  · rw [h.rs] at hv
    obtain ⟨u, hu, rfl⟩ := List.mem_map.1 hv
    exact okV_turn hp (by omega) (h2 u hu)
theorem TurnedBy.back (h : TurnedBy G H o) (hp : Perm o G.ns.length) (hR : rightG G = true) (hn : G.ns.length ≤ 1000) :
    renE H (backO o G.ns.length) = 0 ∧ renN H (backO o G.ns.length) = G.ns.map nodeV ∧ renR H (backO o G.ns.length) = G.rs := by
  obtain ⟨h1, h2⟩ := right_parts hR
  have hl := h.len hp
  have e0 : renE H (backO o G.ns.length) = 0 := by
    refine renE_ok (h.right hp hR hn) (by rw [hl]; exact hp.back_bad) ?_
    simp only [lostO, Bool.or_eq_false_iff, List.any_eq_false]
    refine ⟨fun j hj => ?_, fun v hv => ?_⟩
    · simp only [backO, List.mem_map, List.mem_range] at hj
      obtain ⟨x, hx, rfl⟩ := hj
      obtain ⟨k, hk, e1, e2⟩ := hp.all hx
      rw [e1, Int.toNat_natCast]
      have := h.each hp (H.ns.getD k default) (getD_mem (by omega))
      obtain ⟨z, hz, _, e3, _⟩ := this
      rw [e3, Bool.not_eq_true, List.any_eq_false]
      intro v hv
      obtain ⟨u, hu, rfl⟩ := List.mem_map.1 hv
      rw [hp.not_lost (okV_ref2 ((h1 z hz).2 u hu))]
      simp
    · rw [h.rs] at hv
      obtain ⟨u, hu, rfl⟩ := List.mem_map.1 hv
      rw [hp.not_lost (okV_ref2 (h2 u hu))]
      simp
  have tb : ∀ l : List (Int × Int), (∀ v ∈ l, okV G.ns.length v = true) → (l.map (turned o)).map (turned (backO o G.ns.length)) = l := fun l hl => by
    rw [List.map_map]
    conv => rhs; rw [← List.map_id l]
    refine List.map_congr_left fun v hv => ?_
    exact hp.turn_back (okV_ref2 (hl v hv))
  refine ⟨e0, ?_, ?_⟩
  · rw [renN, if_pos e0]
    have em : (backO o G.ns.length).map (turnN (backO o G.ns.length) H.ns) = (List.range G.ns.length).map (fun x => turnN (backO o G.ns.length) H.ns (placeZ o (x : Nat))) := by
      show List.map _ (List.map _ _) = _
      rw [List.map_map]
      rfl
    rw [em]
    refine List.ext_getElem (by simp) fun i hi1 hi2 => ?_
    have hi : i < G.ns.length := by simpa using hi2
    simp only [List.getElem_map, List.getElem_range]
    obtain ⟨k, hk, e1, e2⟩ := hp.all hi
    have hnode := h.node hp hk
    rw [e2] at hnode
    rw [show turnN (backO o G.ns.length) H.ns (placeZ o ↑i) = turnN (backO o G.ns.length) H.ns (k : Int) by rw [e1]]
    rw [turnN_eq] at hnode ⊢
    simp only [nodeV, Prod.mk.injEq, Int.toNat_natCast] at hnode ⊢
    obtain ⟨a, b, c⟩ := hnode
    have gi : G.ns.getD i default = G.ns[i] := by simp [hi]
    rw [a, b, c, gi]
    refine ⟨rfl, tb _ fun v hv => (h1 _ (List.getElem_mem hi)).2 v hv, rfl⟩
  · rw [renR, if_pos e0, h.rs]
    exact tb _ h2
end
end Go.Proofs.Ytphpppjfogpohaa

/- A graph of the call's own whose values are turned in place, whatever they are; a slice of numbers that is made and written. -/
set_option linter.unusedSimpArgs false
set_option linter.unusedVariables false
namespace Go.Proofs.Ytphpppjfogpohaa
open Go.RowKit Go.Shelf

def AnyV (w : World) (B : Nat) (A : Option Addr) (cap n : Nat) : Prop := ∃ xs : List (Int × Int), xs.length = n ∧ Own 53 2 spanC w B (.slice A n cap) xs
def AnyU (w : World) (B : Nat) (A : Option Addr) (cap n : Nat) : Prop := ∃ xs : List Int, xs.length = n ∧ Own 68 1 u64C w B (.slice A n cap) xs
theorem span_set : ∀ (xs : List (Int × Int)) (k : Nat) (z : Int), (xs.flatMap spanC).set (k * 2 + 1) (.int .i64 z) = (xs.set k ((xs.getD k (0, 0)).1, z)).flatMap spanC
  | [], k, z => by simp
  | x :: xs, 0, z => by simp [spanC]
  | x :: xs, k + 1, z => by
    have h := span_set xs k z
    rw [show (k + 1) * 2 + 1 = (k * 2 + 1) + 2 by omega]
    simp only [List.flatMap_cons, List.set_cons_succ, List.getD_cons_succ]
    rw [← h]
    simp [spanC]
section
variable {w w' : World} {B : Nat} {A : Option Addr} {cap n : Nat}
theorem AnyV.ext (h : AnyV w B A cap n) (hx : Ext w w') : AnyV w' B A cap n := by obtain ⟨xs, h1, h2⟩ := h; exact ⟨xs, h1, h2.ext hx⟩
theorem AnyU.ext (h : AnyU w B A cap n) (hx : Ext w w') : AnyU w' B A cap n := by obtain ⟨xs, h1, h2⟩ := h; exact ⟨xs, h1, h2.ext hx⟩
theorem AnyV.set (h : AnyV w B A cap n) {g k : Nat} {z : Int} : AnyV (w.setCell ⟨g, k * 2 + 1, none⟩ (.int .i64 z)) B A cap n := by
  obtain ⟨xs, h1, h2⟩ := h
  by_cases hb : (Value.slice A n cap).ownBlock = some g
  · have hA : A = some ⟨g, 0, none⟩ := by
      rcases h2.2 with ⟨hv, _⟩ | ⟨b2, cap2, cur2, hv, _⟩
      · rw [hv] at hb; cases hb
      · rw [hv] at hb
        have : b2 = g := by simpa [Value.ownBlock] using hb
        injection hv with e1 e2 e3
        rw [e1, this]
    subst hA
    refine ⟨xs.set k ((xs.getD k (0, 0)).1, z), by simpa using h1, ?_⟩
    unfold Own at h2 ⊢
    rw [List.length_set, ← span_set]
    rw [h1] at h2 ⊢
    exact (World.ownsRow.stored h2 (k * 2 + 1) (.int .i64 z)).1
  · exact ⟨xs, h1, h2.setNe hb⟩
theorem AnyU.set (h : AnyU w B A cap n) {g k : Nat} {z : Int} : AnyU (w.setCell ⟨g, k, none⟩ (.int .u64 z)) B A cap n := by
  obtain ⟨xs, h1, h2⟩ := h
  by_cases hb : (Value.slice A n cap).ownBlock = some g
  · have hA : A = some ⟨g, 0, none⟩ := by
      rcases h2.2 with ⟨hv, _⟩ | ⟨b2, cap2, cur2, hv, _⟩
      · rw [hv] at hb; cases hb
      · rw [hv] at hb
        have : b2 = g := by simpa [Value.ownBlock] using hb
        injection hv with e1 e2 e3
        rw [e1, this]
    subst hA
    refine ⟨xs.set k z, by simpa using h1, ?_⟩
    unfold Own at h2 ⊢
    rw [List.length_set, ← u64_set]
    rw [h1] at h2 ⊢
    exact (World.ownsRow.stored h2 k (.int .u64 z)).1
  · exact ⟨xs, h1, h2.setNe hb⟩
theorem AnyV.at (h : AnyV w B A cap n) {k : Nat} (hk : k < n) : ∃ (g : Nat) (cur : Array Value) (z : Int), A = some ⟨g, 0, none⟩ ∧ w.heap[g]? = some (.cells cur 53 (0, 0)) ∧ w.cell? ⟨g, k * 2 + 1, none⟩ = some (.int .i64 z) ∧ w.frozen? ⟨g, k * 2 + 1, none⟩ = false ∧ B ≤ g := by
  obtain ⟨xs, h1, h2⟩ := h
  obtain ⟨g, rfl, hB, -⟩ := own_some h2 (by intro e; rw [e] at h1; simp at h1; omega)
  obtain ⟨cur, hg⟩ := own_heap h2
  have h3 : Own 53 2 spanC w B (.slice (some ⟨g, 0, none⟩) xs.length cap) xs := by rw [h1]; exact h2
  obtain ⟨b, off, e, hc⟩ := (own_row h3 spanCells (by decide)).1.get (by omega)
  injection e with e
  injection e with e1 e2
  subst e1 e2
  obtain ⟨-, c1⟩ := spans_cell hc (k := k) (by omega)
  exact ⟨g, cur, _, rfl, hg, by simpa using c1, frozen_of_row _ _ _ _ _ hg, hB⟩
theorem AnyU.at (h : AnyU w B A cap n) {k : Nat} (hk : k < n) : ∃ (g : Nat) (cur : Array Value) (z : Int), A = some ⟨g, 0, none⟩ ∧ w.heap[g]? = some (.cells cur 68 (0, 0)) ∧ w.cell? ⟨g, k, none⟩ = some (.int .u64 z) ∧ w.frozen? ⟨g, k, none⟩ = false ∧ B ≤ g := by
  obtain ⟨xs, h1, h2⟩ := h
  obtain ⟨g, rfl, hB, -⟩ := own_some h2 (by intro e; rw [e] at h1; simp at h1; omega)
  obtain ⟨cur, hg⟩ := own_heap h2
  have h3 : Own 68 1 u64C w B (.slice (some ⟨g, 0, none⟩) xs.length cap) xs := by rw [h1]; exact h2
  obtain ⟨b, off, e, hc⟩ := (own_row h3 u64Cells (by decide)).1.get (by omega)
  injection e with e
  injection e with e1 e2
  subst e1 e2
  have c1 := words_cell hc (k := k) (by omega)
  exact ⟨g, cur, _, rfl, hg, by simpa using c1, frozen_of_row _ _ _ _ _ hg, hB⟩
theorem AnyV.setOther (h : AnyV w B A cap n) {Bo i : Nat} {u : Value} {ws : Array Value} {t : TypeId} {r : Nat × Nat} (hb : w.heap[Bo]? = some (.cells ws t r)) (hne : t ≠ 53) : AnyV (w.setCell ⟨Bo, i, none⟩ u) B A cap n := by
  obtain ⟨xs, h1, h2⟩ := h; exact ⟨xs, h1, h2.setOther hb hne⟩
theorem AnyU.setOther (h : AnyU w B A cap n) {Bo i : Nat} {u : Value} {ws : Array Value} {t : TypeId} {r : Nat × Nat} (hb : w.heap[Bo]? = some (.cells ws t r)) (hne : t ≠ 68) : AnyU (w.setCell ⟨Bo, i, none⟩ u) B A cap n := by
  obtain ⟨xs, h1, h2⟩ := h; exact ⟨xs, h1, h2.setOther hb hne⟩
end
/-- What the loops keep that turn a copy's values. -/
structure ModI (W1 : World) (X6 : Nat) (box : Array Value) (nA : Option Addr) (ncap : Nat) (cs : List NodeD) (wr : World) : Prop where
  own : Own 51 3 nodeC wr W1.heap.size (.slice nA cs.length ncap) cs
  f : ∀ c ∈ cs, AnyV wr W1.heap.size c.fA c.fcap c.fields.length
  r : ∀ c ∈ cs, AnyU wr W1.heap.size c.rA c.rcap c.raws.length
  box : wr.heap[X6]? = some (.cells box 25 (0, 0))
  ext : Ext W1 wr
section
variable {W1 wr w' : World} {X6 : Nat} {box : Array Value} {nA : Option Addr} {ncap : Nat} {cs : List NodeD}
theorem ModI.start {G : GraphD} (h : OwnG wr W1.heap.size G) (hb : wr.heap[X6]? = some (.cells box 25 (0, 0))) (hx : Ext W1 wr) : ModI W1 X6 box G.nA G.ncap G.ns wr :=
  ⟨h.nodes, fun c hc => ⟨c.fields, rfl, (h.each c hc).f⟩, fun c hc => ⟨c.raws, rfl, (h.each c hc).r⟩, hb, hx⟩
theorem ModI.setV (h : ModI W1 X6 box nA ncap cs wr) {g k : Nat} {z : Int} {cur : Array Value} (hg : wr.heap[g]? = some (.cells cur 53 (0, 0))) (hB : W1.heap.size ≤ g) : ModI W1 X6 box nA ncap cs (wr.setCell ⟨g, k * 2 + 1, none⟩ (.int .i64 z)) :=
  ⟨h.own.setOther hg (by decide), fun c hc => (h.f c hc).set, fun c hc => (h.r c hc).setOther hg (by decide),
    (Below.heap_setCell wr ⟨g, k * 2 + 1, none⟩ _ X6 (fun e => by simp only at e; subst e; have := h.box; rw [hg] at this; cases this)).trans h.box, h.ext.setCell hB _⟩
theorem ModI.setU (h : ModI W1 X6 box nA ncap cs wr) {g k : Nat} {z : Int} {cur : Array Value} (hg : wr.heap[g]? = some (.cells cur 68 (0, 0))) (hB : W1.heap.size ≤ g) : ModI W1 X6 box nA ncap cs (wr.setCell ⟨g, k, none⟩ (.int .u64 z)) :=
  ⟨h.own.setOther hg (by decide), fun c hc => (h.f c hc).setOther hg (by decide), fun c hc => (h.r c hc).set,
    (Below.heap_setCell wr ⟨g, k, none⟩ _ X6 (fun e => by simp only at e; subst e; have := h.box; rw [hg] at this; cases this)).trans h.box, h.ext.setCell hB _⟩
end
theorem ModI.node {W1 wr : World} {X6 : Nat} {box : Array Value} {nb noff ncap : Nat} {cs : List NodeD} (h : ModI W1 X6 box (some ⟨nb, noff, none⟩) ncap cs wr) {k : Nat} (hk : k < cs.length) :
    wr.cell? ⟨nb, noff + k * 3 + 1, none⟩ = some (.slice (cs.getD k default).fA (cs.getD k default).fields.length (cs.getD k default).fcap) ∧ wr.cell? ⟨nb, noff + k * 3 + 2, none⟩ = some (.slice (cs.getD k default).rA (cs.getD k default).raws.length (cs.getD k default).rcap) := by
  have := nodes_cell (row_here (own_row h.own nodeCells (by decide)).1 (Nat.lt_of_le_of_lt (Nat.zero_le k) hk)) hk
  exact ⟨this.2.1, this.2.2⟩
/-- What a renumbering that does not err lays. -/
theorem RetN.ok {G H : GraphD} {o : List Int} (oG : GraphOk G) (hol : o.length ≤ 1000) (h : TurnedBy G H o) (hp : Perm o G.ns.length)
    (hc : ∀ x ∈ H.ns, (x.fA = none → x.fcap = 0) ∧ (x.rA = none → x.rcap = 0) ∧ x.fields.length ≤ x.fcap ∧ x.raws.length ≤ x.rcap) (h1 : H.nA = none → H.ncap = 0) (h2 : H.rA = none → H.rcap = 0) (h3 : H.ns.length ≤ H.ncap) (h4 : H.rs.length ≤ H.rcap) : GraphOk H := by
  have tv : ∀ v : Int × Int, ((-9223372036854775808 ≤ v.1 ∧ v.1 ≤ 9223372036854775807) ∧ (-9223372036854775808 ≤ v.2 ∧ v.2 ≤ 9223372036854775807)) → ((-9223372036854775808 ≤ (turned o v).1 ∧ (turned o v).1 ≤ 9223372036854775807) ∧ (-9223372036854775808 ≤ (turned o v).2 ∧ (turned o v).2 ≤ 9223372036854775807)) := fun v hv => by
    unfold turned
    split
    · have : -1 ≤ placeZ o v.2 ∧ placeZ o v.2 < 1000 := by
        rcases place_cases o v.2 with ⟨e, _⟩ | ⟨k, hk, e, _⟩ <;> omega
      exact ⟨by simp, by simp only; omega⟩
    · exact hv
  have hl := h.len hp
  have hrl : H.rs.length = G.rs.length := by rw [h.rs]; simp
  refine ⟨by have := oG.nl; omega, by have := oG.rl; omega, h1, h2, h3, h4, fun y hy => ?_, fun v hv => ?_⟩
  · obtain ⟨x, hx, e1, e2, e3⟩ := h.each hp y hy
    have ox := oG.each x hx
    obtain ⟨a, b, c, d⟩ := hc y hy
    refine ⟨by rw [e1]; exact ox.kind, by rw [e2, List.length_map]; exact ox.fl, by rw [e3]; exact ox.rl, a, b, c, d, fun v hv => ?_, by rw [e3]; exact ox.rv⟩
    rw [e2] at hv
    obtain ⟨u, hu, rfl⟩ := List.mem_map.1 hv
    exact tv u (ox.fv u hu)
  · rw [h.rs] at hv
    obtain ⟨u, hu, rfl⟩ := List.mem_map.1 hv
    exact tv u (oG.rv u hu)
theorem renE_zero {G : GraphD} {o : List Int} (h : renE G o = 0) : rightG G = true ∧ badO o G.ns.length = false := by
  unfold renE at h
  cases hr : rightG G <;> simp [hr] at h
  cases hb : badO o G.ns.length <;> simp [hb] at h
  exact ⟨rfl, rfl⟩
theorem turnedBy_of {G H : GraphD} {o : List Int} (h : renE G o = 0) (h1 : H.ns.map nodeV = renN G o) (h2 : H.rs = renR G o) : TurnedBy G H o := by
  rw [renN, if_pos h] at h1
  rw [renR, if_pos h] at h2
  exact ⟨h1, h2⟩
theorem back_bd {o : List Int} {n : Nat} (hl : o.length ≤ 1000) : ∀ x ∈ backO o n, -9223372036854775808 ≤ x ∧ x ≤ 9223372036854775807 := by
  intro x hx
  simp only [backO, List.mem_map] at hx
  obtain ⟨y, -, rfl⟩ := hx
  rcases place_cases o (y : Int) with ⟨e, _⟩ | ⟨k, hk, e, _⟩ <;> omega
/-- The order back, as it is written number by number. -/
def bkO (o : List Int) (n k : Nat) : List Int := (List.range n).map fun x => (pf o k (x : Nat)).getD 0
theorem bkO_zero {o : List Int} {n : Nat} : bkO o n 0 = List.replicate n 0 := by
  refine List.ext_getElem (by simp [bkO]) fun i h1 h2 => ?_
  simp [bkO, pf_zero]
theorem bkO_step {o : List Int} {n k : Nat} (hp : Perm o n) (hk : k < n) : (bkO o n k).set (o.getD k 0).toNat k = bkO o n (k + 1) := by
  have hs := pf_step (o := o) (k := k) (by rw [hp.len]; exact hk) (hp.pl k hk)
  have hb := hp.in_ k hk
  refine List.ext_getElem (by simp [bkO]) fun i h1 h2 => ?_
  have hi : i < n := by simpa [bkO] using h2
  rw [List.getElem_set]
  simp only [bkO, List.getElem_map, List.getElem_range]
  rw [← hs]
  by_cases he : (o.getD k 0).toNat = i
  · have : (i : Int) = o.getD k 0 := by omega
    rw [if_pos he]
    show (k : Int) = (if (i : Int) = o.getD k 0 then some (k : Int) else pf o k i).getD 0
    rw [if_pos this]
    rfl
  · have : ¬ (i : Int) = o.getD k 0 := by omega
    rw [if_neg he]
    show (pf o k i).getD 0 = (if (i : Int) = o.getD k 0 then some (k : Int) else pf o k i).getD 0
    rw [if_neg this]
theorem bkO_all {o : List Int} {n : Nat} (hp : Perm o n) : bkO o n n = backO o n := by
  refine List.ext_getElem (by simp [bkO, backO]) fun i h1 h2 => ?_
  have hi : i < n := by simpa [bkO] using h1
  obtain ⟨k, hk, e, _⟩ := hp.all hi
  simp only [bkO, backO, List.getElem_map, List.getElem_range]
  have := pf_all (o := o) (i : Int)
  rw [hp.len] at this
  rw [this, e, if_neg (by omega)]
  rfl
end Go.Proofs.Ytphpppjfogpohaa

/- Slices of numbers that begin anywhere in a block of the call's own; a map of values of the call's own. -/
set_option linter.unusedSimpArgs false
set_option linter.unusedVariables false
namespace Go.Proofs.Ytphpppjfogpohaa
open Go.RowKit Go.Shelf Go.Maps
set_option maxRecDepth 100000

/-- v is a slice of numbers of the call's own (its block lies from B on), wherever it begins. -/
def OwnO (w : World) (B : Nat) (v : Value) (xs : List Int) : Prop :=
  (v = .slice none 0 0 ∧ xs = []) ∨ ∃ g off cap cur, v = .slice (some ⟨g, off, none⟩) xs.length cap ∧ B ≤ g ∧ w.heap[g]? = some (.cells cur 3 (0, 0)) ∧ xs.length ≤ cap ∧ cap ≤ maxLen ∧ off + cap ≤ cur.size ∧ (cur.toList.drop off).take xs.length = xs.flatMap intC
section
variable {w w' : World} {B : Nat} {v : Value} {xs : List Int}
theorem OwnO.nil (w : World) (B : Nat) : OwnO w B (.slice none 0 0) [] := .inl ⟨rfl, rfl⟩
theorem OwnO.of (h : Own 3 1 intC w B v xs) : OwnO w B v xs := by
  obtain ⟨h1, h2⟩ := h
  rcases h2 with ⟨rfl, h0⟩ | ⟨g, cap, cur, rfl, hb, hg, hc, hcm, hcs, ht⟩
  · exact .inl ⟨rfl, List.eq_nil_of_length_eq_zero h0⟩
  · exact .inr ⟨g, 0, cap, cur, rfl, hb, hg, hc, hcm, by omega, by simpa using ht⟩
theorem OwnO.lt (h : OwnO w B v xs) {g : Nat} (hv : v.ownBlock = some g) : B ≤ g ∧ g < w.heap.size := by
  rcases h with ⟨rfl, _⟩ | ⟨g', off, cap, cur, rfl, hb, hg, _⟩
  · cases hv
  · injection hv with hv
    simp only at hv
    subst hv
    exact ⟨hb, lt_of_heap hg⟩
theorem OwnO.same (h : OwnO w B v xs) (hs : ∀ g, v.ownBlock = some g → w'.heap[g]? = w.heap[g]?) : OwnO w' B v xs := by
  rcases h with h | ⟨g, off, cap, cur, rfl, hb, hg, r⟩
  · exact .inl h
  · exact .inr ⟨g, off, cap, cur, rfl, hb, (hs g rfl).trans hg, r⟩
theorem OwnO.ext (h : OwnO w B v xs) (hx : Ext w w') : OwnO w' B v xs := h.same fun g hv => hx.block (h.lt hv).2
theorem OwnO.kept {row : Option Nat} (h : OwnO w B v xs) (hg : w.grownBy w' row) (hne : ∀ g, v.ownBlock = some g → some g ≠ row) : OwnO w' B v xs := h.same fun g hv => hg.block g (h.lt hv).2 (hne g hv)
theorem OwnO.setNe (h : OwnO w B v xs) {b i : Nat} {u : Value} (hne : v.ownBlock ≠ some b) : OwnO (w.setCell ⟨b, i, none⟩ u) B v xs := h.same fun g hv => Below.heap_setCell w ⟨b, i, none⟩ u g (fun e => hne (by rw [hv, e]))
theorem OwnO.setOther (h : OwnO w B v xs) {b i : Nat} {u : Value} {cs : Array Value} {t : TypeId} {r : Nat × Nat} (hb : w.heap[b]? = some (.cells cs t r)) (hne : t ≠ 3) : OwnO (w.setCell ⟨b, i, none⟩ u) B v xs := h.setNe fun hv => by
  rcases h with ⟨rfl, _⟩ | ⟨g, off, cap, cur, rfl, _, hg, _⟩
  · cases hv
  · injection hv with hv
    simp only at hv
    rw [hv, hb] at hg
    injection hg with hg
    injection hg with _ hg _
    exact hne hg
/-- Its form. -/
theorem OwnO.form (h : OwnO w B v xs) : ∃ A cap, v = .slice A xs.length cap ∧ xs.length ≤ cap ∧ (∀ k, k < xs.length → ∃ g off, A = some ⟨g, off, none⟩ ∧ w.cell? ⟨g, off + k, none⟩ = some (.int .i64 (xs.getD k 0))) := by
  rcases h with ⟨rfl, rfl⟩ | ⟨g, off, cap, cur, rfl, hb, hg, hc, hcm, hcs, ht⟩
  · exact ⟨none, 0, rfl, by simp, fun k hk => by simp at hk⟩
  · refine ⟨_, cap, rfl, hc, fun k hk => ⟨g, off, rfl, ?_⟩⟩
    have h1 : cur.toList[off + k]? = some (.int .i64 (xs.getD k 0)) := by
      have h2 : ((cur.toList.drop off).take xs.length)[k]? = (xs.flatMap intC)[k]? := by rw [ht]
      rw [List.getElem?_take_of_lt hk, List.getElem?_drop] at h2
      rw [h2]
      have := flat_get intCells (by decide) (l := xs) (i := k) (j := 0) (x := xs.getD k 0) (u := .int .i64 (xs.getD k 0)) (by simp [hk]) rfl
      simpa using this
    rw [(cells_of hg).1 (off + k)]
    simpa using h1
/-- The first one is struck. -/
theorem OwnO.tail {A : Option Addr} {n cap : Nat} {x : Int} {g off : Nat} (h : OwnO w B (.slice (some ⟨g, off, none⟩) n cap) (x :: xs)) : OwnO w B (.slice (if cap = 1 then some ⟨g, off, none⟩ else some ⟨g, off + 1, none⟩) (n - 1) (cap - 1)) xs ∧ n = xs.length + 1 ∧ n ≤ cap := by
  rcases h with ⟨h, _⟩ | ⟨g', off', cap', cur, hv, hb, hg, hc, hcm, hcs, ht⟩
  · cases h
  · injection hv with e1 e2 e3
    injection e1 with e1
    injection e1 with e1 e4 _
    subst e1 e2 e3 e4
    simp only [List.length_cons] at hc ht ⊢
    refine ⟨?_, by first | rfl | trivial, hc⟩
    by_cases hc1 : cap = 1
    · have hx0 : xs = [] := List.eq_nil_of_length_eq_zero (by omega)
      subst hx0
      rw [if_pos hc1]
      exact .inr ⟨g, off, cap - 1, cur, by simp, hb, hg, by simp, by omega, by omega, by simp⟩
    rw [if_neg hc1]
    refine .inr ⟨g, off + 1, cap - 1, cur, by simp, hb, hg, by omega, by omega, by omega, ?_⟩
    have h1 : cap ≤ (cur.toList.drop off).length := by simp; omega
    cases hd : cur.toList.drop off with
    | nil => rw [hd] at h1; simp at h1; omega
    | cons y ys =>
      have h2 : cur.toList.drop (off + 1) = ys := by rw [← List.drop_drop, hd]; rfl
      rw [h2]
      rw [hd, List.take_succ_cons] at ht
      simp only [List.flatMap_cons, intC, List.singleton_append] at ht
      injection ht
end
section
variable {P : Program} (w : World)
theorem run_append_roomO (t ty e : TypeId) (i : TypeInfo) (ht : P.underlying t = some (.slice e)) (hi : P.info? e = some i)
    (g off sLen sCap : Nat) (cur : Array Value) (hg : w.heap[g]? = some (.cells cur e (0, 0)))
    (a : Addr) (m c : Nat) (news : List Value) (hl : news.length = m * i.size) (hnews : ∀ j u, news[j]? = some u → w.cell? (a.add j) = some u) (h1 : ∀ u ∈ news, u.oneCell' = true)
    (hroom : sLen + m ≤ sCap) (hfit : off + sLen * i.size + news.length ≤ cur.size) :
    (Builtin.append_ #[t, t] ty #[.slice (some ⟨g, off, none⟩) sLen sCap, .slice (some a) m c]).run P w =
      .ok (.slice (some ⟨g, off, none⟩) (sLen + m) sCap) (w.setRow g (cur.toList.take (off + sLen * i.size) ++ news ++ cur.toList.drop (off + sLen * i.size + news.length)).toArray) := by
  have hf := run_firstCells_some (P := P) w i.size m a m c news hl hnews
  have hst := run_storeCells_at P g (off + sLen * i.size) e news 0 cur w hg (by simpa using hfit) h1
  simp only [Nat.add_zero] at hst
  have ha : (⟨g, off, none⟩ : Addr).add (sLen * i.size) = ⟨g, off + sLen * i.size, none⟩ := by unfold Addr.add; split <;> simp_all
  simp [Builtin.append_, run_underlying ht, sizeOf, typeInfo, hi, Builtin.lenOf, hroom, hf, ha, hst]
end
section
variable {w : World} {B : Nat} {v : Value} {xs : List Int}
/-- One number more. -/
theorem run_app_ownO (ty : TypeId) (h : OwnO w B v xs) (x : Int) (ad : Addr) (c : Nat) (hr : w.cell? (ad.add 0) = some (.int .i64 x)) (hlen : xs.length ≤ 10000000) (hB : B ≤ w.heap.size) :
    ∃ v' w', (Builtin.append_ #[28, 28] ty #[v, .slice (some ad) 1 c]).run Try.prog w = .ok v' w' ∧ OwnO w' B v' (xs ++ [x]) ∧ w.grownBy w' v.ownBlock ∧ (v'.ownBlock = v.ownBlock ∨ v'.ownBlock = some w.heap.size) := by
  obtain ⟨i, z, hi, hz, hs, hby, hzs⟩ := intInfo.inf
  have ht := intInfo.und
  have hnews : ∀ (j : Nat) (u : Value), [Value.int .i64 x][j]? = some u → w.cell? (ad.add j) = some u := by
    intro j u hj
    cases j with
    | zero => simp at hj; subst hj; exact hr
    | succ j => simp at hj
  have h1 : ∀ u ∈ [Value.int .i64 x], u.oneCell' = true := by simp; rfl
  rcases h with ⟨rfl, rfl⟩ | ⟨g, off, cap, cur, rfl, hb, hg, hc, hcm, hcs, htk⟩
  · have hr' := run_append_own_at (P := Try.prog) w B 28 ty 3 i z 1 8 ht hi hz hs hby hzs (by decide) (.slice none 0 0) 0 [] (World.ownsRow_nil w B 3 1) ad 1 c [.int .i64 x] rfl hnews h1 (by simp [maxLen]) (by omega) hB
    obtain ⟨v', w', h2, h3, h4, h5⟩ := hr'
    refine ⟨v', w', h2, OwnO.of ?_, h4, h5.2⟩
    exact h3
  · by_cases hroom : xs.length + 1 ≤ cap
    · have hr' := run_append_roomO (P := Try.prog) w 28 ty 3 i ht hi g off xs.length cap cur hg ad 1 c [.int .i64 x] (by rw [hs]; rfl) hnews h1 hroom (by rw [hs]; simp; omega)
      rw [hs, Nat.mul_one] at hr'
      refine ⟨_, _, hr', .inr ⟨g, off, cap, _, by simp, hb, setRow_heap w g cur _ 3 _ hg, by simpa using hroom, hcm, ?_, ?_⟩, ⟨rfl, rfl, rfl, by simp, fun k _ hk => setRow_other w g k _ (fun e => hk (by simp [Value.ownBlock, e]))⟩, .inl rfl⟩
      · simp only [List.size_toArray, List.length_append, List.length_take, List.length_drop, Array.length_toList, List.length_singleton]
        omega
      · simp only [List.length_append, List.length_singleton, List.flatMap_append]
        have hlt : (cur.toList.take (off + xs.length)).length = off + xs.length := by simp; omega
        rw [List.append_assoc, List.drop_append_of_le_length (by rw [hlt]; omega), List.drop_take, show off + xs.length - off = xs.length by omega, htk]
        have hfl : (xs.flatMap intC).length = xs.length := by have := flat_len intCells xs; omega
        rw [List.take_append, hfl, List.take_of_length_le (by omega), show xs.length + 1 - xs.length = 1 by omega]
        rfl
    · have holds : ∀ j u, (xs.flatMap intC)[j]? = some u → w.cell? ((⟨g, off, none⟩ : Addr).add j) = some u := by
        intro j u hj
        have ha : (⟨g, off, none⟩ : Addr).add j = ⟨g, off + j, none⟩ := by unfold Addr.add; split <;> simp_all
        rw [ha, (cells_of hg).1 (off + j)]
        rw [← htk] at hj
        have hjl : j < xs.length := by
          have h3 := (List.getElem?_eq_some_iff.1 hj).1
          simp only [List.length_take] at h3
          omega
        rw [List.getElem?_take_of_lt hjl, List.getElem?_drop] at hj
        simpa using hj
      have hfl : (xs.flatMap intC).length = xs.length := by have := flat_len intCells xs; omega
      have hr' := run_append_grow (P := Try.prog) w 28 ty 3 i z ht hi hz ⟨g, off, none⟩ xs.length cap (xs.flatMap intC) (by rw [hfl, hs]; omega) holds ad 1 c [.int .i64 x] (by rw [hs]; rfl) hnews (by omega) (by omega) (by rw [hby]; exact growslice_fits (by omega) (by omega))
      have hge := grownCap_ge w (xs.length + 1) cap 3
      have hcm' : grownCap w (xs.length + 1) cap 3 ≤ maxLen := grownCap_le_maxLen w (xs.length + 1) cap 3 (by simp [maxLen]; omega)
      refine ⟨_, _, hr', OwnO.of ⟨?_, .inr ⟨w.heap.size, _, _, by simp, hB, heap_alloc_new w.drew _, by simpa using hge, hcm', ?_, ?_⟩⟩, ⟨rfl, rfl, rfl, by simp, fun k hk _ => RowKit.Below.heap_alloc w.drew _ k hk⟩, .inr rfl⟩
      · have := flat_len intCells (xs ++ [x]); omega
      · simp only [Array.size_append, List.size_toArray, size_zeroCells, hzs, hfl, List.length_singleton]
        omega
      · simp only [Array.toList_append, List.append_assoc, List.flatMap_append]
        rw [← List.append_assoc, show ((xs ++ [x]).length * 1) = (xs.flatMap intC ++ [x].flatMap intC).length by simp [hfl, intC]]
        exact List.take_left
theorem wp_app_ownO {o : Oper} {a : Act} {K : Act → World → Prop} {Q : Exit → Act → World → Prop} (s y : Operand)
    (ho : o.op = .call { callee := .builtin .append, args := #[s, y], argTypes := #[28, 28] }) (hs : a.eval s = v) (h : OwnO w B v xs) (x : Int) (ad : Addr) (c : Nat) (hy : a.eval y = .slice (some ad) 1 c) (hr : w.cell? (ad.add 0) = some (.int .i64 x)) (hlen : xs.length ≤ 10000000) (hB : B ≤ w.heap.size)
    (hk : ∀ v' w', OwnO w' B v' (xs ++ [x]) → w.grownBy w' v.ownBlock → (v'.ownBlock = v.ownBlock ∨ v'.ownBlock = some w.heap.size) → K (a.put o.dst v') w') : o.wp Try.prog a w K Q := by
  obtain ⟨v', w', hr', h2, h3, h4⟩ := run_app_ownO o.type h x ad c hr hlen hB
  unfold Oper.wp execOp
  simp only [ho, resolve, invoke, builtin, Sem.run_bind, Sem.run_pure, Result.andThen_ok, List.map_toArray, List.map_cons, List.map_nil, hs, hy, hr']
  exact hk v' w' h2 h3 h4
end
/-- A map of numbers to slices of numbers, of the call's own: f tells what is where. -/
def heldR (v : Value) : Option (DataW Value × List MemPlace) := some (.held v, [])
theorem zeroInts (w : World) : (zeroValue 28).run Try.prog w = .ok (.slice none 0 0) w := by kernel_rfl
def MapV (w : World) (b n : Nat) (f : Int → Value) : Prop :=
  ∃ D : DataW Value, w.ownsMap Try.prog 3 heldR b n D ∧ IsMap D ∧ ∀ x, D.atKey (keyI x) (.held (.slice none 0 0)) = .held (f x)
section
variable {w w' : World} {b n : Nat} {f : Int → Value}
theorem MapV.made (w : World) : MapV (w.alloc (.map #[] 0)) w.heap.size 0 (fun _ => .slice none 0 0) := ⟨.map [], World.ownsMap_made _ _ _ _, isMap_empty, fun x => rfl⟩
theorem MapV.lt (h : MapV w b n f) : b < w.heap.size := by obtain ⟨D, h1, _⟩ := h; exact h1.lt
theorem MapV.kept {row : Option Nat} (h : MapV w b n f) (hg : w.grownBy w' row) (hne : some b ≠ row) : MapV w' b n f := by
  obtain ⟨D, h1, h2⟩ := h; exact ⟨D, h1.kept hg hne, h2⟩
theorem MapV.same (h : MapV w b n f) (hs : w'.heap[b]? = w.heap[b]?) : MapV w' b n f := by
  obtain ⟨D, ⟨es, clock, hb, r⟩, h2⟩ := h
  exact ⟨D, ⟨es, clock, hs.trans hb, r⟩, h2⟩
theorem MapV.ext (h : MapV w b n f) (hx : Ext w w') : MapV w' b n f := h.same (hx.block h.lt)
theorem MapV.setCell (h : MapV w b n f) {a : Addr} (ha : b ≠ a.block) (u : Value) : MapV (w.setCell a u) b n f := by
  obtain ⟨D, h1, h2⟩ := h; exact ⟨D, h1.setCell ha u, h2⟩
theorem MapV.mono (h : MapV w b n f) {m : Nat} (hm : n ≤ m) : MapV w b m f := by
  obtain ⟨D, ⟨es, clock, hb, hf, hs, hd⟩, h2⟩ := h
  exact ⟨D, ⟨es, clock, hb, hf, Nat.le_trans hs hm, hd⟩, h2⟩
/-- Its block holds no cells. -/
theorem MapV.ne (h : MapV w b n f) {g : Nat} {cs : Array Value} {t : TypeId} {r : Nat × Nat} (hg : w.heap[g]? = some (.cells cs t r)) : b ≠ g := fun e => by
  obtain ⟨D, ⟨es, clock, hb, _⟩, _⟩ := h
  rw [e, hg] at hb
  cases hb
theorem MapV.look (h : MapV w b n f) {x : Int} (hk : (Lit.int .i64 x).wf = true) : (Instr.lookup 77 (.map (some b)) (.int .i64 x) false).run Try.prog w = .ok (f x) w := by
  obtain ⟨D, h1, h2, h3⟩ := h
  obtain ⟨v, ps, hrun, hv⟩ := h1.lookup intKeyed Try.underlying77 (zeroInts w) (zd := .held (.slice none 0 0)) (zp := []) rfl (keyOf_int_mk Try.underlying3 hk)
  have := h3 x
  unfold keyI at this
  rw [this] at hv
  simp only [heldR, Option.some.injEq, Prod.mk.injEq] at hv
  obtain ⟨hv, _⟩ := hv
  injection hv with hv
  rw [hrun, hv]
theorem wpList_mapv_put {ops : Array Oper} {rest : List Oper} {o : Oper} {a : Act} {Q : Exit → Act → World → Prop} (hg : o.guard = none) (m x y : Operand) (hop : o.op = Op.mapUpdate 77 m x y) (h : MapV w b n f) (hm : a.eval m = .map (some b)) (hn : n < maxLen) (k : Int) (v : Value) (hx : a.eval x = .int .i64 k) (hv : a.eval y = v) (hk : (Lit.int .i64 k).wf = true)
    (hK : ∀ w', MapV w' b (n + 1) (fun y => if y = k then v else f y) → w.grownBy w' (some b) → wpList Try.prog ops Q rest (a.put o.dst undef) w') : wpList Try.prog ops Q (o :: rest) a w := by
  obtain ⟨D, h1, h2, h3⟩ := h
  refine wpList_mapUpdate_own w hg m x y 77 hop 3 28 intKeyed Try.underlying77 heldR b n D hm h1 hn (.int .i64 k) v (keyI k) hx hv (keyOf_int_mk Try.underlying3 hk) (.held v) [] rfl ?_
  intro w' ho hgr
  refine hK w' ⟨_, ho, h2.put _ _, fun y => ?_⟩ hgr
  by_cases hy : y = k
  · subst hy
    simp only [if_true]
    exact atKey_put_same h2 (show WideAt.IsKeyLit (keyI y) from trivial) _ _
  · simp only [if_neg hy]
    have hne : keyI y ≠ keyI k := fun e => hy (by injection e)
    rw [atKey_put_other hne]
    exact h3 y
end
end Go.Proofs.Ytphpppjfogpohaa

