/- Merged by program (merge.py) out of: Flu, Flv, AwQ, AwR. -/
import Derived.Laws.OwnMore
import Derived.Test.YtphpppjfogpohaaMr21
import Derived.Test.YtphpppjfogpohaaMr15
import Derived.Test.YtphpppjfogpohaaMr16
import Derived.Test.YtphpppjfogpohaaMr3
import Derived.Test.YtphpppjfogpohaaMr6
/- What is met, rising, by the document; how many words and fields it has. -/
set_option linter.unusedSimpArgs false
set_option linter.unusedVariables false
namespace Go.Proofs.Ytphpppjfogpohaa
open Go.RowKit Go.Shelf
set_option maxRecDepth 100000
set_option maxHeartbeats 2000000
section
variable {α : Type} {e : TypeId} {n bytes : Nat} {f : α → List Value} {w : World} {B B2 : Nat} {v u : Value} {xs ys : List α} {P : Program}
/-- append of one own slice onto another. -/
theorem wp_app_own2 {o : Oper} {a : Act} {K : Act → World → Prop} {Q : Exit → Act → World → Prop} (s x : Operand) (t : TypeId)
    (ho : o.op = .call { callee := .builtin .append, args := #[s, x], argTypes := #[t, t] }) (hI : Info P t e n bytes) (hf : Cells n f)
    (hs : a.eval s = v) (hown : Own e n f w B v xs) (hx : a.eval x = u) (hown2 : Own e n f w B2 u ys) (r : Nat) (hk : xs.length + ys.length = r)
    (hlen : r * bytes ≤ 140737488355328) (h63 : r ≤ maxLen) (hB : B ≤ w.heap.size)
    (h : ∀ A cap w', Own e n f w' B (.slice A r cap) (xs ++ ys) → w.grownBy w' v.ownBlock →
      ((Value.slice A r cap).ownBlock = v.ownBlock ∨ (Value.slice A r cap).ownBlock = some w.heap.size) →
      K (a.put o.dst (.slice A r cap)) w') : o.wp P a w K Q := by
  obtain ⟨A2, cap2, rfl, hr, hA2, -⟩ := hown2.form hf hI.pos
  cases A2 with
  | some ad => exact wp_app s x t ho hI hf hs hown ad cap2 ys r _ hk rfl hx hr hlen h63 hB h
  | none =>
    have hys : ys = [] := by
      obtain ⟨b, off, hA, _⟩ := hr
      cases ys with
      | nil => rfl
      | cons y ys => exact absurd (hA (by simp)) (by simp)
    subst hys
    obtain rfl := hA2 rfl
    obtain ⟨A0, cap0, rfl, _⟩ := hown.form hf hI.pos
    simp only [List.length_nil, Nat.add_zero] at hk
    subst hk
    obtain ⟨i, z, hi, _⟩ := hI.inf
    have hrun := run_append_owned_none (P := P) (w := w) B t o.type e i n hI.und hi _ xs.length _ hown
    unfold Oper.wp
    simp [execOp, ho, resolve, invoke, builtin, hs, hx, hrun, Result.andThen]
    exact h A0 cap0 w (by simpa using hown) (World.grownBy.refl _ _) (.inl rfl)
end
theorem refreach_is (G : GraphD) (S R : List Int) (c : Int) (hS : planS G 1000000 0 1 = S) (hR : ordZ (riseL G.ns.length S) = R) (hc : planE G 1000000 0 1 = c) (V : World) (hG : GraphAt V G) (oG : GOk G) : Calls Try.prog 27 #[.agg #[.slice G.nA G.ns.length G.ncap, .slice G.rA G.rs.length G.rcap]] V (RetFl V R c) := by
  have hx0 := (Ext.refl V).alloc (.cells #[.slice G.nA G.ns.length G.ncap, .slice G.rA G.rs.length G.rcap] 25)
  have hBx := pers_new V #[.slice G.nA G.ns.length G.ncap, .slice G.rA G.rs.length G.rcap] 25 _ rfl
  have HPL := Lib.hid (refflat_is G 0 S c hS hc _ (hG.ext hx0) oG)
  have HLE : Hid (S.length ≤ 60) := Lib.hid (by have := planS_len oG (lim := 1000000) (ord := 0) (blk := 1) ⟨by decide, by decide⟩ ⟨by decide, by decide⟩; rw [hS] at this; omega)
  have HN : Hid (G.ns.length ≤ 60) := Lib.hid (by have := oG.2; simp [largeG] at this; omega)
  have HR := Lib.hid hR
  have HX := Lib.hid hx0
  have kB := (cells_of hBx.here).1
  have HBX := Lib.hid hBx
  clear hx0 hG oG hS hc hR hBx
  go_enter Try.func27, Try.ntmps27
  go_wp2_with fail
  refine HPL.out.mono ?_
  rintro e w1 ⟨A1, c1, rfl, h1, hx⟩
  have H1 := Lib.hid (own_ints h1)
  have HX1 := Lib.hid (HX.out.trans hx)
  have HB1 := Lib.hid (HBX.out.re hx)
  clear h1 hx kB HPL HBX
  obtain ⟨wa, rfl⟩ : ∃ wa : World, wa = w1 := ⟨_, rfl⟩
  go_wp2_with fail
  go_loopw [6, 7] (fun o i wr => ∃ (k : Nat) (A : Option Addr) (cap : Nat), k ≤ G.ns.length ∧ i = .int .i64 k ∧ o = .slice A (riseL k S).length cap ∧ Hid (Own 3 1 intC wr wa.heap.size (.slice A (riseL k S).length cap) (ordZ (riseL k S))) ∧ Hid (Ext wa wr)) (fun o i _ => G.ns.length - (intOf i).toNat)
  case atStart => exact ⟨0, none, 0, by omega, rfl, rfl, Lib.hid (Own.nil _ _ _ _ _), Lib.hid (Ext.refl _)⟩
  case round =>
    obtain ⟨k, A, cap, hk, rfl, rfl, HO, HXR⟩ := hrel
    have kB := (cells_of (HB1.out.re HXR.out).here).1
    by_cases hlt : k < G.ns.length
    rotate_left
    · obtain rfl : k = G.ns.length := by omega
      go_wp2_with fail
      ((try simp only [Exit.inBlock, Exit.then]); refine bodyPost_ret (v := .tuple #[.slice A (riseL G.ns.length S).length cap, .int .i64 c]) (by simp only [results, Try.results27]; go_simp) rfl ?_)
      rw [← HR.out]
      exact ⟨A, cap, by rw [ordZ_len], by rw [ordZ_len]; exact HO.out.mono HX1.out.size, HX1.out.trans HXR.out⟩
    have HI := Lib.hid (H1.out.ext HXR.out)
    go_wp2_with fail
    refine (rin_any A1 c1 S (k : Int) _ (by have := HLE.out; omega) HI.out).mono ?_
    rintro e w2 ⟨rfl, hx2⟩
    have HX2 := Lib.hid (HXR.out.trans hx2)
    have HO2 := Lib.hid (HO.out.ext hx2)
    have HRS := Lib.hid (riseL_succ k S)
    have HRL := Lib.hid (riseL_len k S)
    have HNN : Hid (k < 60) := Lib.hid (by have := HN.out; omega)
    have HSZ := Lib.hid HX2.out.size
    have hk60 := HNN.out
    clear hx2 HI kB
    cases hin : decide ((k : Int) ∈ S) with
    | true =>
      have HRT : Hid (riseL (k + 1) S = riseL k S ++ [k]) := Lib.hid (by rw [HRS.out, hin]; rfl)
      clear hin HRS
      have hlen : (riseL k S).length ≤ 60 := by have := HRL.out; have := HNN.out; omega
      go_wp2_with (at_builtin; refine wpList_app_lit rfl (.tmp 23) (.tmp 25) 28 rfl intInfo intCells rfl HO2.out [(k : Int)] 1 _ rfl ((riseL k S).length + 1) 1 (by rw [ordZ_len]; rfl) rfl _ rfl (by first | rfl | simp) (by omega) (by simp [maxLen]; try omega) HSZ.out ?_; intro A4 cap4 w4 hown4 hgr4 hat4; have HX4 := Lib.hid ((HO2.out.ext ((Ext.refl _).alloc _)).grown hgr4 (Nat.le_refl _) (HX2.out.alloc _)); have HO4 := Lib.hid hown4; clear hown4 hgr4 hat4)
      go_roundw
      case rel => exact ⟨k + 1, A4, cap4, by omega, by go_num, by rw [HRT.out]; simp, Lib.hid (by have := HO4.out; rw [HRT.out]; simpa [ordZ] using this), HX4⟩
      case measure => simp [intOf]; omega
    | false =>
      have HRT : Hid (riseL (k + 1) S = riseL k S) := Lib.hid (by rw [HRS.out, hin]; simp)
      clear hin HRS
      go_wp2_with fail
      go_roundw
      case rel => exact ⟨k + 1, A, cap, by omega, by go_num, by rw [HRT.out], by rw [HRT.out]; exact HO2, HX2⟩
      case measure => simp [intOf]; omega
end Go.Proofs.Ytphpppjfogpohaa

/- How many words and fields are met. -/
set_option linter.unusedSimpArgs false
set_option linter.unusedVariables false
namespace Go.Proofs.Ytphpppjfogpohaa
open Go.RowKit Go.Shelf
set_option maxRecDepth 100000
set_option maxHeartbeats 2000000
theorem refsums_is2 (G : GraphD) (A : Option Addr) (cap : Nat) (l : List Int) (n m : Int) (V : World) (h : addS sizeN G.ns l = n) (h2 : addS (fun x => x.fields.length) G.ns l = m) (hG : GraphAt V G) (hl : IntsAt V A l) (hlen : l.length ≤ 9223372036854775807) (hn : G.ns.length ≤ 9223372036854775807) :
    Calls Try.prog 54 #[.agg #[.slice G.nA G.ns.length G.ncap, .slice G.rA G.rs.length G.rcap], .slice A l.length cap] V fun e w' => e = .returned (.tuple #[.int .i64 n, .int .i64 m]) ∧ Ext V w' := by
  rw [← h, ← h2]; exact grefsums_any G A cap l V hG hl hlen hn
/-- What Live comes to: words of the small ones, of the large ones, fields, the error. -/
def fieldsN (x : NodeD) : Int := x.fields.length
theorem reflive_is (G : GraphD) (lim : Int) (x y f1 f2 c : Int) (hx : addS sizeN G.ns (planS G lim 0 1) = x) (hy : addS sizeN G.ns (planL G lim 0 1) = y) (hf1 : addS fieldsN G.ns (planS G lim 0 1) = f1) (hf2 : addS fieldsN G.ns (planL G lim 0 1) = f2) (hc : planE G lim 0 1 = c) (V : World) (hG : GraphAt V G) (oG : GOk G) (hl : -9223372036854775808 ≤ lim ∧ lim ≤ 9223372036854775807) :
    Calls Try.prog 29 #[.agg #[.slice G.nA G.ns.length G.ncap, .slice G.rA G.rs.length G.rcap], .int .i64 lim] V fun e w' => e = .returned (.tuple #[.int .i64 x, .int .i64 y, .int .i64 (wrap64 (f1 + f2)), .int .i64 c]) ∧ Ext V w' := by
  have hx0 := (Ext.refl V).alloc (.cells #[.slice G.nA G.ns.length G.ncap, .slice G.rA G.rs.length G.rcap] 25)
  have hBx := pers_new V #[.slice G.nA G.ns.length G.ncap, .slice G.rA G.rs.length G.rcap] 25 _ rfl
  have HPL := Lib.hid (refplan_is G lim 0 1 _ _ c rfl rfl hc _ (hG.ext hx0) oG hl ⟨by decide, by decide⟩)
  have hle := planS_len oG (lim := lim) (ord := 0) (blk := 1) hl ⟨by decide, by decide⟩
  have HLE := Lib.hid hle
  have HN := Lib.hid oG.bd.1
  have HXX := Lib.hid hx
  have HYY := Lib.hid hy
  have HF1 := Lib.hid hf1
  have HF2 := Lib.hid hf2
  have HX := Lib.hid hx0
  have HG := Lib.hid (hG.ext hx0)
  have kB := (cells_of hBx.here).1
  have HBX := Lib.hid hBx
  clear hx0 hG oG hx hy hf1 hf2 hc hBx hle
  generalize planS G lim 0 1 = S at *
  generalize planL G lim 0 1 = L at *
  go_enter Try.func29, Try.ntmps29
  go_wp2_with fail
  refine HPL.out.mono ?_
  rintro e w1 ⟨A1, c1, A2, c2, rfl, h1, h2, -, hx⟩
  have H1 := Lib.hid (own_ints h1)
  have H2 := Lib.hid (own_ints h2)
  have HX1 := Lib.hid (HX.out.trans hx)
  have HG1 := Lib.hid (HG.out.ext hx)
  have HB1 := Lib.hid (HBX.out.re hx)
  have k1 := (cells_of HB1.out.here).1
  clear h1 h2 hx kB HPL HBX
  go_wp2_with fail
  refine (refsums_is2 G A1 c1 S x f1 _ HXX.out HF1.out HG1.out H1.out (by have := HLE.out; omega) HN.out).mono ?_
  rintro e w2 ⟨rfl, hx2⟩
  have k2 := (cells_of (HB1.out.re hx2).here).1
  have HX2 := Lib.hid hx2
  clear k1 hx2
  go_wp2_with fail
  refine (refsums_is2 G A2 c2 L y f2 _ HYY.out HF2.out (HG1.out.ext HX2.out) (H2.out.ext HX2.out) (by have := HLE.out; omega) HN.out).mono ?_
  rintro e w3 ⟨rfl, hx3⟩
  have HX3 := Lib.hid ((HX1.out.trans HX2.out).trans hx3)
  clear k2 hx3
  go_wp2_with fail
  ((try simp only [Exit.inBlock, Exit.then]); refine bodyPost_ret (v := .tuple #[.int .i64 x, .int .i64 y, .int .i64 (wrap64 (f1 + f2)), .int .i64 c]) (by simp only [results, Try.results29]; go_simp) rfl ?_)
  exact ⟨rfl, HX3.out⟩
theorem live_is (G : GraphD) (lim : Int) (x y f3 c : Int) (hx : addS sizeN G.ns (planS G lim 0 1) = x) (hy : addS sizeN G.ns (planL G lim 0 1) = y) (hf3 : addS fieldsN G.ns (planS G lim 0 1 ++ planL G lim 0 1) = f3) (hc : planE G lim 0 1 = c) (V : World) (hG : GraphAt V G) (oG : GOk G) (hl : -9223372036854775808 ≤ lim ∧ lim ≤ 9223372036854775807) :
    Calls Try.prog 28 #[.agg #[.slice G.nA G.ns.length G.ncap, .slice G.rA G.rs.length G.rcap], .int .i64 lim] V fun e w' => e = .returned (.tuple #[.int .i64 x, .int .i64 y, .int .i64 f3, .int .i64 c]) ∧ Ext V w' := by
  have hx0 := (Ext.refl V).alloc (.cells #[.slice G.nA G.ns.length G.ncap, .slice G.rA G.rs.length G.rcap] 25)
  have hBx := pers_new V #[.slice G.nA G.ns.length G.ncap, .slice G.rA G.rs.length G.rcap] 25 _ rfl
  have HPL := Lib.hid (plan_is G lim 0 1 _ _ c rfl rfl hc _ (hG.ext hx0) oG hl ⟨by decide, by decide⟩)
  have hle := planS_len oG (lim := lim) (ord := 0) (blk := 1) hl ⟨by decide, by decide⟩
  have HLE := Lib.hid hle
  have HN := Lib.hid oG.bd.1
  have HXX := Lib.hid hx
  have HYY := Lib.hid hy
  have HF3 := Lib.hid hf3
  have HX := Lib.hid hx0
  have HG := Lib.hid (hG.ext hx0)
  have HG0 := Lib.hid hG
  have kB := (cells_of hBx.here).1
  have HBX := Lib.hid hBx
  have HZ : Hid (c ≠ 0 → x = 0 ∧ y = 0 ∧ f3 = 0) := Lib.hid (fun h => by
    rw [← hc] at h
    have e1 : planS G lim 0 1 = [] := by unfold planS; rw [if_neg h]
    have e2 : planL G lim 0 1 = [] := by unfold planL; rw [if_neg h]
    rw [e1] at hx hf3
    rw [e2] at hy hf3
    exact ⟨hx.symm, hy.symm, hf3.symm⟩)
  clear hx0 hG oG hx hy hf3 hc hBx hle
  generalize planS G lim 0 1 = S at *
  generalize planL G lim 0 1 = L at *
  by_cases hc0 : c = 0
  rotate_left
  · obtain ⟨rfl, rfl, rfl⟩ := HZ.out hc0
    have dc : (c == 0) = false := by simpa using hc0
    have dd : (!c == 0) = true := by rw [dc]; rfl
    go_enter Try.func28, Try.ntmps28
    go_wp2_with fail
    refine HPL.out.mono ?_
    rintro e w1 ⟨A1, c1, A2, c2, rfl, h1, h2, -, hx⟩
    have HX1 := Lib.hid (HX.out.trans hx)
    clear h1 h2 hx kB HPL HBX
    go_wp2_with fail
    ((try simp only [Exit.inBlock, Exit.then]); refine bodyPost_ret (v := .tuple #[.int .i64 0, .int .i64 0, .int .i64 0, .int .i64 c]) (by simp only [results, Try.results28]; go_simp) rfl ?_)
    exact ⟨rfl, HX1.out⟩
  subst hc0
  go_enter Try.func28, Try.ntmps28
  go_wp2_with fail
  refine HPL.out.mono ?_
  rintro e w1 ⟨A1, c1, A2, c2, rfl, h1, h2, hne, hx⟩
  have H1 := Lib.hid (h1.mono HX.out.size)
  have H2 := Lib.hid (h2.mono HX.out.size)
  have HX1 := Lib.hid (HX.out.trans hx)
  have HG1 := Lib.hid (HG.out.ext hx)
  have HB1 := Lib.hid ((HBX.out.re hx).here)
  have HLS : Hid (S.length + L.length ≤ 60) := HLE
  clear h1 h2 hx kB HPL HBX hne HZ
  go_wp2_with fail
  have hyd := (Ext.refl w1).drew
  have hGP : BoxK V.heap.size #[.slice G.nA G.ns.length G.ncap, .slice G.rA G.rs.length G.rcap] 25 w1.drew := BoxK.ext HB1.out hyd
  have gB := hGP.cells
  (refine wp_region_gp (w := w1) (fun w' => ∃ u : KeptOf (w1).drew (BoxK V.heap.size #[.slice G.nA G.ns.length G.ncap, .slice G.rA G.rs.length G.rcap] 25), w' = u.1) (.rd [0, 1, 3, 4, 6, 7, 8] (.one 2 (.one 5 (.one 9 (.one 10 .tl))))) [11, 12, 13, 14] (by kernel_rfl) (by kernel_rfl) (by intro c a d v w h; first | exact h | (cases d <;> first | exact h | (cases h; done) | cases h.1.1 | cases h.1)) (kept_mk hGP) ?_)
  (refine gp_rd ?_; (try simp only [opsOf, List.map_cons, List.map_nil, List.getD_cons_zero, List.getD_cons_succ]); (repeat (go_big_quiet_step (fail))); refine wpQuiet_nil ?_)
  replace H1 := Lib.hid (H1.out.ext hyd)
  replace H2 := Lib.hid (H2.out.ext hyd)
  replace HX1 := Lib.hid (HX1.out.trans hyd)
  replace HG1 := Lib.hid (HG1.out.ext hyd)
  replace HB1 := Lib.hid hGP
  clear hyd hGP gB
  generalize w1.drew = wN at *
  (refine gp_one (by (try simp only [List.getD_cons_succ, List.getD_cons_zero]); rfl) (by rfl) ?_; intro K hK; go_simp)
  refine (words_is G A1 c1 S x _ HXX.out HG1.out (own_ints H1.out) (by have := HLE.out; omega) HN.out).mono ?_
  rintro e wa ⟨rfl, hxa⟩
  refine hK _ _ _ (fun _ h => h) (kept_mk (BoxK.ext HB1.out hxa)) ?_
  clear hK K
  replace H1 := Lib.hid (H1.out.ext hxa)
  replace H2 := Lib.hid (H2.out.ext hxa)
  replace HX1 := Lib.hid (HX1.out.trans hxa)
  replace HG1 := Lib.hid (HG1.out.ext hxa)
  replace HB1 := Lib.hid (BoxK.ext HB1.out hxa)
  clear hxa
  (refine gp_one (by (try simp only [List.getD_cons_succ, List.getD_cons_zero]); rfl) (by rfl) ?_; intro K hK; go_simp)
  refine (words_is G A2 c2 L y _ HYY.out HG1.out (own_ints H2.out) (by have := HLE.out; omega) HN.out).mono ?_
  rintro e wb ⟨rfl, hxa⟩
  refine hK _ _ _ (fun _ h => h) (kept_mk (BoxK.ext HB1.out hxa)) ?_
  clear hK K
  replace H1 := Lib.hid (H1.out.ext hxa)
  replace H2 := Lib.hid (H2.out.ext hxa)
  replace HX1 := Lib.hid (HX1.out.trans hxa)
  replace HG1 := Lib.hid (HG1.out.ext hxa)
  replace HB1 := Lib.hid (BoxK.ext HB1.out hxa)
  clear hxa
  refine gp_one (by (try simp only [List.getD_cons_succ, List.getD_cons_zero]); rfl) (by rfl) ?_
  intro K hK
  refine wp_app_own2 (.tmp 28) (.tmp 29) 28 rfl intInfo intCells (by rfl) H1.out (by rfl) H2.out (S ++ L).length (by rw [List.length_append]) (by have := HLE.out; rw [List.length_append]; omega) (by have := HLE.out; rw [List.length_append]; simp [maxLen]; omega) HX1.out.size ?_
  intro A3 c3 wc ho hg ht
  refine hK _ _ _ (fun _ h => h) (kept_mk (blk_grown H1.out HB1.out hg (by decide))) ?_
  clear hK K
  have H3 := Lib.hid ho
  have HX3 := Lib.hid (H1.out.grown hg (Nat.le_refl _) HX1.out)
  have HG3 : Hid (GraphAt wc G) := Lib.hid (HG0.out.ext HX3.out)
  have HB3 := Lib.hid (blk_grown H1.out HB1.out hg (by decide))
  clear ho hg ht H1 H2 HG1 HB1 HX1
  (refine gp_one (by (try simp only [List.getD_cons_succ, List.getD_cons_zero]); rfl) (by rfl) ?_; intro K hK; go_simp)
  have Z := fieldsG_is G A3 c3 (S ++ L) f3 _ HF3.out HG3.out (own_ints H3.out) (by have := HLE.out; rw [List.length_append]; omega) HN.out
  rw [List.length_append] at Z
  refine Z.mono ?_
  rintro e wd ⟨rfl, hxa⟩
  refine hK _ _ _ (fun _ h => h) (kept_mk (BoxK.ext HB3.out hxa)) ?_
  clear hK K Z
  have HX4 := Lib.hid (HX3.out.trans hxa)
  clear hxa
  (refine gp_tl ?_; (try simp only [opsOf, List.map_cons, List.map_nil, List.getD_cons_zero, List.getD_cons_succ]))
  go_wp2_with fail
  ((try simp only [Exit.inBlock, Exit.then]); refine bodyPost_ret (v := .tuple #[.int .i64 x, .int .i64 y, .int .i64 f3, .int .i64 0]) (by simp only [results, Try.results28]; go_simp) rfl ?_)
  exact ⟨rfl, HX4.out⟩
/-- A sum over two lists. -/
theorem wrap_wrap (a b : Int) : wrap64 (wrap64 a + b) = wrap64 (a + b) := by unfold wrap64; omega
theorem wrap_wrapR (a b : Int) : wrap64 (a + wrap64 b) = wrap64 (a + b) := by unfold wrap64; omega
theorem addS_from (f : NodeD → Int) (ns : List NodeD) : ∀ (l : List Int) (a : Int), wrap64 a = a → l.foldl (fun (n i : Int) => if 0 ≤ i ∧ i < ns.length then wrap64 (n + f (ns.getD i.toNat default)) else n) a = wrap64 (a + addS f ns l) := by
  intro l
  induction l with
  | nil => intro a ha; simp [addS, ha]
  | cons i l ih =>
    intro a ha
    rw [List.foldl_cons]
    unfold addS
    rw [List.foldl_cons]
    by_cases hi : 0 ≤ i ∧ i < (ns.length : Int)
    · rw [if_pos hi, if_pos hi, ih _ (by unfold wrap64; omega), ih _ (by unfold wrap64; omega), wrap_wrap, wrap_wrapR, Int.zero_add]
      rw [show a + (wrap64 (f (ns.getD i.toNat default)) + addS f ns l) = wrap64 (f (ns.getD i.toNat default)) + (a + addS f ns l) by omega, wrap_wrap]
      congr 1
      omega
    · rw [if_neg hi, if_neg hi, ih a ha]
      rfl
theorem addS_wrap (f : NodeD → Int) (ns : List NodeD) (l : List Int) : wrap64 (addS f ns l) = addS f ns l := by
  have := addS_from f ns l 0 (IntWalk.wrap64_in 0 ⟨by decide, by decide⟩)
  rw [Int.zero_add] at this
  exact this.symm
theorem addS_app (f : NodeD → Int) (ns : List NodeD) (s l : List Int) : addS f ns (s ++ l) = wrap64 (addS f ns s + addS f ns l) := by
  rw [← addS_from f ns l _ (addS_wrap f ns s)]
  unfold addS
  rw [List.foldl_append]
end Go.Proofs.Ytphpppjfogpohaa

/- The example of chapter 17: its numbers. -/
set_option linter.unusedSimpArgs false
set_option linter.unusedVariables false
namespace Go.Proofs.Ytphpppjfogpohaa
open Go.RowKit Go.Shelf
set_option maxRecDepth 100000
set_option maxHeartbeats 1000000
def aw17 (a0 a1 a2 a3 a4 : Nat) : GraphD := ⟨some ⟨a3, 0, none⟩, 5, [⟨0, some ⟨a0, 0, none⟩, 2, [(2, 1), (2, 2)], none, 0, []⟩, ⟨0, some ⟨a1, 0, none⟩, 1, [(2, 3)], none, 0, []⟩, ⟨0, none, 0, [], some ⟨a2, 0, none⟩, 3, [1, 2, 3]⟩, ⟨0, none, 0, [], none, 0, []⟩, ⟨0, none, 0, [], none, 0, []⟩], some ⟨a4, 0, none⟩, 1, [(2, 0)]⟩
def aw17e (a : Nat) : GraphD := ⟨none, 0, [], some ⟨a, 0, none⟩, 1, [(2, 0)]⟩
section
variable (a0 a1 a2 a3 a4 : Nat)
theorem aw17_ok : GOk (aw17 a0 a1 a2 a3 a4) := by
  refine ⟨⟨by simp [aw17], by simp [aw17], (fun h => by cases h), (fun h => by cases h), by simp [aw17], by simp [aw17], fun n hn => ?_, by simp [aw17]⟩, rfl⟩
  simp only [aw17, List.mem_cons, List.not_mem_nil, or_false] at hn
  rcases hn with rfl | rfl | rfl | rfl | rfl
  all_goals exact ⟨by simp, by simp, by simp, by simp, by simp, by simp, by simp, by simp, by simp⟩
theorem aw17e_ok : GOk (aw17e a0) := by
  refine ⟨⟨by simp [aw17e], by simp [aw17e], (fun h => rfl), (fun h => by cases h), by simp [aw17e], by simp [aw17e], fun n hn => ?_, by simp [aw17e]⟩, rfl⟩
  simp [aw17e] at hn
theorem aw17_b : planS (aw17 a0 a1 a2 a3 a4) 1048576 0 1 = [0, 1, 2, 3] := by kernel_rfl
theorem aw17_be : planE (aw17 a0 a1 a2 a3 a4) 1048576 0 1 = 0 := by kernel_rfl
theorem aw17_d : planS (aw17 a0 a1 a2 a3 a4) 1048576 1 1 = [0, 1, 3, 2] := by kernel_rfl
theorem aw17_de : planE (aw17 a0 a1 a2 a3 a4) 1048576 1 1 = 0 := by kernel_rfl
theorem aw17_s : planS (aw17 a0 a1 a2 a3 a4) 3 2 4 = [0, 1, 3] := by kernel_rfl
theorem aw17_l : planL (aw17 a0 a1 a2 a3 a4) 3 2 4 = [2] := by kernel_rfl
theorem aw17_se : planE (aw17 a0 a1 a2 a3 a4) 3 2 4 = 0 := by kernel_rfl
theorem aw17_s3 : planS (aw17 a0 a1 a2 a3 a4) 3 0 1 = [0, 1, 3] := by kernel_rfl
theorem aw17_l3 : planL (aw17 a0 a1 a2 a3 a4) 3 0 1 = [2] := by kernel_rfl
theorem aw17_x : addS sizeN (aw17 a0 a1 a2 a3 a4).ns (planS (aw17 a0 a1 a2 a3 a4) 3 0 1) = 6 := by rw [aw17_s3]; simp [addS, aw17, sizeN, wrap64]
theorem aw17_y : addS sizeN (aw17 a0 a1 a2 a3 a4).ns (planL (aw17 a0 a1 a2 a3 a4) 3 0 1) = 4 := by rw [aw17_l3]; simp [addS, aw17, sizeN, wrap64]
theorem aw17_z : addS fieldsN (aw17 a0 a1 a2 a3 a4).ns (planS (aw17 a0 a1 a2 a3 a4) 3 0 1 ++ planL (aw17 a0 a1 a2 a3 a4) 3 0 1) = 3 := by rw [aw17_s3, aw17_l3]; simp [addS, aw17, fieldsN, wrap64]
theorem aw17_ze : planE (aw17 a0 a1 a2 a3 a4) 3 0 1 = 0 := by kernel_rfl
theorem aw17_k : planE (aw17 a0 a1 a2 a3 a4) 3 3 4 = 1 := by kernel_rfl
theorem aw17_m : planE (aw17e a0) 1048576 0 1 = 4 := by kernel_rfl
end
end Go.Proofs.Ytphpppjfogpohaa

/- awake of the laws of plans, walked. -/
set_option linter.unusedSimpArgs false
set_option linter.unusedVariables false
namespace Go.Proofs.Ytphpppjfogpohaa
open Go.RowKit Go.Shelf
set_option maxRecDepth 100000
set_option maxHeartbeats 4000000
theorem lref_any (x : Int) (V : World) : Calls Try.prog 45 #[.int .i64 x] V fun e w' => e = .returned (.agg #[.int .i64 2, .int .i64 x]) ∧ Ext V w' := by
  have hx := (Ext.refl V).alloc (.cells #[.int .i64 2, .int .i64 x] 53)
  go_enter Try.func45, Try.ntmps45
  go_wp2_with fail
  go_returns
  exact ⟨rfl, hx⟩
theorem len_four {α : Type} {l : List α} (h : l.length = 4) : ((l.length : Int) == 4) = true := by rw [h]; rfl
theorem awake17_any (V : World) : Calls Try.prog 20 #[] V fun e w' => e = .returned (.bool true) ∧ Ext V w' := by
  go_enter Try.func20, Try.ntmps20
  go_wp2_with fail
  refine (lref_any 1 _).mono ?_
  rintro e w1 ⟨rfl, hx1⟩
  go_wp2_with fail
  refine (lref_any 2 _).mono ?_
  rintro e w2 ⟨rfl, hx2⟩
  have HX := Lib.hid (hx1.trans hx2)
  clear hx1 hx2
  go_wp2_with fail
  have P0 := Lib.hid (pers_new w2 #[.int .i64 2, .int .i64 1, .int .i64 2, .int .i64 2] 53 _ rfl)
  replace HX := Lib.hid (HX.out.alloc (.cells #[.int .i64 2, .int .i64 1, .int .i64 2, .int .i64 2] 53))
  generalize w2.alloc (.cells #[.int .i64 2, .int .i64 1, .int .i64 2, .int .i64 2] 53) = W2 at *
  generalize w2.heap.size = a0 at *
  refine (lref_any 3 _).mono ?_
  rintro e w3 ⟨rfl, hx⟩
  replace P0 := Lib.hid (P0.out.re hx)
  replace HX := Lib.hid (HX.out.trans hx)
  clear hx
  go_wp2_with fail
  have hy : Ext w3 (((w3.alloc (.cells #[.int .i64 2, .int .i64 3] 53)).alloc (.cells #[.int .u64 1, .int .u64 2, .int .u64 3] 68)).alloc (.cells #[.int .i64 0, .slice (some ⟨a0, 0, none⟩) 2 2, .slice none 0 0, .int .i64 0, .slice (some ⟨w3.heap.size, 0, none⟩) 1 1, .slice none 0 0, .int .i64 0, .slice none 0 0, .slice (some ⟨w3.heap.size + 1, 0, none⟩) 3 3, .int .i64 0, .slice none 0 0, .slice none 0 0, .int .i64 0, .slice none 0 0, .slice none 0 0] 51)) := (((Ext.refl w3).alloc _).alloc _).alloc _
  have P1 := Lib.hid ((pers_new w3 #[.int .i64 2, .int .i64 3] 53 _ rfl).re (((Ext.refl _).alloc (.cells #[.int .u64 1, .int .u64 2, .int .u64 3] 68)).alloc (.cells #[.int .i64 0, .slice (some ⟨a0, 0, none⟩) 2 2, .slice none 0 0, .int .i64 0, .slice (some ⟨w3.heap.size, 0, none⟩) 1 1, .slice none 0 0, .int .i64 0, .slice none 0 0, .slice (some ⟨w3.heap.size + 1, 0, none⟩) 3 3, .int .i64 0, .slice none 0 0, .slice none 0 0, .int .i64 0, .slice none 0 0, .slice none 0 0] 51)))
  have P2 := Lib.hid ((pers_new (w3.alloc (.cells #[.int .i64 2, .int .i64 3] 53)) #[.int .u64 1, .int .u64 2, .int .u64 3] 68 (w3.heap.size + 1) (by simp)).re ((Ext.refl _).alloc (.cells #[.int .i64 0, .slice (some ⟨a0, 0, none⟩) 2 2, .slice none 0 0, .int .i64 0, .slice (some ⟨w3.heap.size, 0, none⟩) 1 1, .slice none 0 0, .int .i64 0, .slice none 0 0, .slice (some ⟨w3.heap.size + 1, 0, none⟩) 3 3, .int .i64 0, .slice none 0 0, .slice none 0 0, .int .i64 0, .slice none 0 0, .slice none 0 0] 51)))
  have P3 := Lib.hid (pers_new ((w3.alloc (.cells #[.int .i64 2, .int .i64 3] 53)).alloc (.cells #[.int .u64 1, .int .u64 2, .int .u64 3] 68)) #[.int .i64 0, .slice (some ⟨a0, 0, none⟩) 2 2, .slice none 0 0, .int .i64 0, .slice (some ⟨w3.heap.size, 0, none⟩) 1 1, .slice none 0 0, .int .i64 0, .slice none 0 0, .slice (some ⟨w3.heap.size + 1, 0, none⟩) 3 3, .int .i64 0, .slice none 0 0, .slice none 0 0, .int .i64 0, .slice none 0 0, .slice none 0 0] 51 (w3.heap.size + 1 + 1) (by simp))
  replace P0 := Lib.hid (P0.out.re hy)
  replace HX := Lib.hid (HX.out.trans hy)
  clear hy
  generalize ((w3.alloc (.cells #[.int .i64 2, .int .i64 3] 53)).alloc (.cells #[.int .u64 1, .int .u64 2, .int .u64 3] 68)).alloc (.cells #[.int .i64 0, .slice (some ⟨a0, 0, none⟩) 2 2, .slice none 0 0, .int .i64 0, .slice (some ⟨w3.heap.size, 0, none⟩) 1 1, .slice none 0 0, .int .i64 0, .slice none 0 0, .slice (some ⟨w3.heap.size + 1, 0, none⟩) 3 3, .int .i64 0, .slice none 0 0, .slice none 0 0, .int .i64 0, .slice none 0 0, .slice none 0 0] 51) = W3 at *
  generalize w3.heap.size + 1 + 1 = a3 at *
  generalize w3.heap.size + 1 = a2 at *
  generalize w3.heap.size = a1 at *
  refine (lref_any 0 _).mono ?_
  rintro e w4 ⟨rfl, hx⟩
  replace P0 := Lib.hid (P0.out.re hx)
  replace P1 := Lib.hid (P1.out.re hx)
  replace P2 := Lib.hid (P2.out.re hx)
  replace P3 := Lib.hid (P3.out.re hx)
  replace HX := Lib.hid (HX.out.trans hx)
  clear hx
  go_wp2_with fail
  have hy : Ext w4 ((w4.alloc (.cells #[.int .i64 2, .int .i64 0] 53)).alloc (.cells #[.slice (some ⟨a3, 0, none⟩) 5 5, .slice (some ⟨w4.heap.size, 0, none⟩) 1 1] 25)) := ((Ext.refl w4).alloc _).alloc _
  have P4 := Lib.hid ((pers_new w4 #[.int .i64 2, .int .i64 0] 53 _ rfl).re ((Ext.refl _).alloc (.cells #[.slice (some ⟨a3, 0, none⟩) 5 5, .slice (some ⟨w4.heap.size, 0, none⟩) 1 1] 25)))
  have P5 := Lib.hid (pers_new (w4.alloc (.cells #[.int .i64 2, .int .i64 0] 53)) #[.slice (some ⟨a3, 0, none⟩) 5 5, .slice (some ⟨w4.heap.size, 0, none⟩) 1 1] 25 (w4.heap.size + 1) (by simp))
  replace P0 := Lib.hid (P0.out.re hy)
  replace P1 := Lib.hid (P1.out.re hy)
  replace P2 := Lib.hid (P2.out.re hy)
  replace P3 := Lib.hid (P3.out.re hy)
  replace HX := Lib.hid (HX.out.trans hy)
  clear hy
  generalize (w4.alloc (.cells #[.int .i64 2, .int .i64 0] 53)).alloc (.cells #[.slice (some ⟨a3, 0, none⟩) 5 5, .slice (some ⟨w4.heap.size, 0, none⟩) 1 1] 25) = W at *
  generalize w4.heap.size + 1 = a5 at *
  generalize w4.heap.size = a4 at *
  have HG : Hid (GraphAt W (aw17 a0 a1 a2 a3 a4)) := Lib.hid (by
    refine ⟨⟨row_block P3.out.here rfl nodeCells (by decide), fun x hx => ?_⟩, row_block P4.out.here rfl spanCells (by decide)⟩
    simp only [aw17, List.mem_cons, List.not_mem_nil, or_false] at hx
    rcases hx with rfl | rfl | rfl | rfl | rfl
    · exact ⟨row_block P0.out.here rfl spanCells (by decide), RowAt.none _ _ _⟩
    · exact ⟨row_block P1.out.here rfl spanCells (by decide), RowAt.none _ _ _⟩
    · exact ⟨RowAt.none _ _ _, row_block P2.out.here rfl u64Cells (by decide)⟩
    · exact ⟨RowAt.none _ _ _, RowAt.none _ _ _⟩
    · exact ⟨RowAt.none _ _ _, RowAt.none _ _ _⟩)
  have HK := Lib.hid (aw17_ok a0 a1 a2 a3 a4)
  clear P0 P1 P2 P3 P4
  have Z := breadth_is (aw17 a0 a1 a2 a3 a4) [0, 1, 2, 3] 0 (aw17_b a0 a1 a2 a3 a4) (aw17_be a0 a1 a2 a3 a4) _ HG.out HK.out
  refine Z.mono ?_
  rintro e w5 ⟨A1, c1, rfl, h1, hx⟩
  clear Z
  replace HG := Lib.hid (HG.out.ext hx)
  replace P5 := Lib.hid (P5.out.re hx)
  replace HX := Lib.hid (HX.out.trans hx)
  have I1 := Lib.hid (own_ints h1)
  clear hx
  have k5 := (cells_of P5.out.here).1
  go_wp2_with fail
  clear k5
  have Z := depth_is (aw17 a0 a1 a2 a3 a4) [0, 1, 3, 2] 0 (aw17_d a0 a1 a2 a3 a4) (aw17_de a0 a1 a2 a3 a4) _ HG.out HK.out
  refine Z.mono ?_
  rintro e w6 ⟨A2, c2, rfl, h2, hx⟩
  clear Z
  replace I1 := Lib.hid (I1.out.ext hx)
  replace HG := Lib.hid (HG.out.ext hx)
  replace P5 := Lib.hid (P5.out.re hx)
  replace HX := Lib.hid (HX.out.trans hx)
  have I2 := Lib.hid (own_ints h2)
  clear hx
  have k5 := (cells_of P5.out.here).1
  go_wp2_with fail
  clear k5
  have HRL : Hid ((sortZ (planS (aw17 a0 a1 a2 a3 a4) 1048576 1 1)).length = 4) := Lib.hid ((List.length_mergeSort ..).trans (by rw [aw17_d]; rfl))
  have Z := reach_is (aw17 a0 a1 a2 a3 a4) _ 0 rfl (aw17_de a0 a1 a2 a3 a4) _ HG.out HK.out
  refine Z.mono ?_
  rintro e w7 ⟨A3, c3, rfl, -, hx⟩
  clear Z
  replace I1 := Lib.hid (I1.out.ext hx)
  replace I2 := Lib.hid (I2.out.ext hx)
  replace HG := Lib.hid (HG.out.ext hx)
  replace P5 := Lib.hid (P5.out.re hx)
  replace HX := Lib.hid (HX.out.trans hx)
  clear hx
  generalize sortZ (planS (aw17 a0 a1 a2 a3 a4) 1048576 1 1) = R at *
  have k5 := (cells_of P5.out.here).1
  go_wp2_with fail
  clear k5
  have Z := plan_is (aw17 a0 a1 a2 a3 a4) 3 2 4 [0, 1, 3] [2] 0 (aw17_s a0 a1 a2 a3 a4) (aw17_l a0 a1 a2 a3 a4) (aw17_se a0 a1 a2 a3 a4) _ HG.out HK.out ⟨by decide, by decide⟩ ⟨by decide, by decide⟩
  refine Z.mono ?_
  rintro e w8 ⟨A4, c4, A5, c5, rfl, h4, h5, -, hx⟩
  clear Z
  replace I1 := Lib.hid (I1.out.ext hx)
  replace I2 := Lib.hid (I2.out.ext hx)
  replace HG := Lib.hid (HG.out.ext hx)
  replace P5 := Lib.hid (P5.out.re hx)
  replace HX := Lib.hid (HX.out.trans hx)
  have I4 := Lib.hid (own_ints h4)
  have I5 := Lib.hid (own_ints h5)
  clear hx
  have k5 := (cells_of P5.out.here).1
  go_wp2_with fail
  clear k5
  have Z := live_is (aw17 a0 a1 a2 a3 a4) 3 6 4 3 0 (aw17_x a0 a1 a2 a3 a4) (aw17_y a0 a1 a2 a3 a4) (aw17_z a0 a1 a2 a3 a4) (aw17_ze a0 a1 a2 a3 a4) _ HG.out HK.out ⟨by decide, by decide⟩
  refine Z.mono ?_
  rintro e w9 ⟨rfl, hx⟩
  clear Z
  replace I1 := Lib.hid (I1.out.ext hx)
  replace I2 := Lib.hid (I2.out.ext hx)
  replace I4 := Lib.hid (I4.out.ext hx)
  replace I5 := Lib.hid (I5.out.ext hx)
  replace HG := Lib.hid (HG.out.ext hx)
  replace P5 := Lib.hid (P5.out.re hx)
  replace HX := Lib.hid (HX.out.trans hx)
  clear hx
  have k5 := (cells_of P5.out.here).1
  go_wp2_with fail
  clear k5
  have Z := plan_is (aw17 a0 a1 a2 a3 a4) 3 3 4 _ _ 1 rfl rfl (aw17_k a0 a1 a2 a3 a4) _ HG.out HK.out ⟨by decide, by decide⟩ ⟨by decide, by decide⟩
  refine Z.mono ?_
  rintro e w10 ⟨A6, c6, A7, c7, rfl, -, -, -, hx⟩
  clear Z
  replace I1 := Lib.hid (I1.out.ext hx)
  replace I2 := Lib.hid (I2.out.ext hx)
  replace I4 := Lib.hid (I4.out.ext hx)
  replace I5 := Lib.hid (I5.out.ext hx)
  replace HG := Lib.hid (HG.out.ext hx)
  replace P5 := Lib.hid (P5.out.re hx)
  replace HX := Lib.hid (HX.out.trans hx)
  clear hx
  generalize (planS (aw17 a0 a1 a2 a3 a4) 3 3 4).length = n6 at *
  generalize (planL (aw17 a0 a1 a2 a3 a4) 3 3 4).length = n7 at *
  go_wp2_with fail
  refine (lref_any 0 _).mono ?_
  rintro e w11 ⟨rfl, hx⟩
  clear h1 h2 h4 h5 HG P5 HK
  replace I1 := Lib.hid (I1.out.ext hx)
  replace I2 := Lib.hid (I2.out.ext hx)
  replace I4 := Lib.hid (I4.out.ext hx)
  replace I5 := Lib.hid (I5.out.ext hx)
  replace HX := Lib.hid (HX.out.trans hx)
  clear hx
  go_wp2_with fail
  have P6 := Lib.hid (pers_new w11 #[.int .i64 2, .int .i64 0] 53 _ rfl)
  have hy := (Ext.refl w11).alloc (.cells #[.int .i64 2, .int .i64 0] 53)
  replace I1 := Lib.hid (I1.out.ext hy)
  replace I2 := Lib.hid (I2.out.ext hy)
  replace I4 := Lib.hid (I4.out.ext hy)
  replace I5 := Lib.hid (I5.out.ext hy)
  replace HX := Lib.hid (HX.out.trans hy)
  clear hy
  generalize w11.alloc (.cells #[.int .i64 2, .int .i64 0] 53) = W6 at *
  generalize w11.heap.size = a6 at *
  have HGE : Hid (GraphAt W6 (aw17e a6)) := Lib.hid ⟨⟨RowAt.none _ _ _, fun x hx => by cases hx⟩, row_block P6.out.here rfl spanCells (by decide)⟩
  have Z := breadth_is (aw17e a6) _ 4 rfl (aw17_m a6) _ HGE.out (aw17e_ok a6)
  refine Z.mono ?_
  rintro e w12 ⟨A8, c8, rfl, -, hx⟩
  clear Z HGE P6
  replace I1 := Lib.hid (I1.out.ext hx)
  replace I2 := Lib.hid (I2.out.ext hx)
  replace I4 := Lib.hid (I4.out.ext hx)
  replace I5 := Lib.hid (I5.out.ext hx)
  replace HX := Lib.hid (HX.out.trans hx)
  clear hx
  generalize (planS (aw17e a6) 1048576 0 1).length = n8 at *
  have dl := len_four HRL.out
  go_wp2_with fail
  have hy := (Ext.refl w12).alloc (.cells #[.int .i64 0, .int .i64 1, .int .i64 2, .int .i64 3] 3)
  have HL := Lib.hid (row_block (blk_new w12 #[.int .i64 0, .int .i64 1, .int .i64 2, .int .i64 3] 3 _ rfl) (xs := [0, 1, 2, 3]) rfl intCells (by decide))
  replace I1 := Lib.hid (I1.out.ext hy)
  replace I2 := Lib.hid (I2.out.ext hy)
  replace I4 := Lib.hid (I4.out.ext hy)
  replace I5 := Lib.hid (I5.out.ext hy)
  replace HX := Lib.hid (HX.out.trans hy)
  clear hy
  have Z := ints_is A1 (some ⟨w12.heap.size, 0, none⟩) c1 4 [0, 1, 2, 3] [0, 1, 2, 3] true (by decide) _ (by decide) (by decide) I1.out HL.out
  refine Z.mono ?_
  rintro e w13 ⟨rfl, hx⟩
  clear Z HL
  replace I1 := Lib.hid (I1.out.ext hx)
  replace I2 := Lib.hid (I2.out.ext hx)
  replace I4 := Lib.hid (I4.out.ext hx)
  replace I5 := Lib.hid (I5.out.ext hx)
  replace HX := Lib.hid (HX.out.trans hx)
  clear hx
  go_wp2_with fail
  have hy := (Ext.refl w13).alloc (.cells #[.int .i64 0, .int .i64 1, .int .i64 3, .int .i64 2] 3)
  have HL := Lib.hid (row_block (blk_new w13 #[.int .i64 0, .int .i64 1, .int .i64 3, .int .i64 2] 3 _ rfl) (xs := [0, 1, 3, 2]) rfl intCells (by decide))
  replace I1 := Lib.hid (I1.out.ext hy)
  replace I2 := Lib.hid (I2.out.ext hy)
  replace I4 := Lib.hid (I4.out.ext hy)
  replace I5 := Lib.hid (I5.out.ext hy)
  replace HX := Lib.hid (HX.out.trans hy)
  clear hy
  have Z := ints_is A2 (some ⟨w13.heap.size, 0, none⟩) c2 4 [0, 1, 3, 2] [0, 1, 3, 2] true (by decide) _ (by decide) (by decide) I2.out HL.out
  refine Z.mono ?_
  rintro e w14 ⟨rfl, hx⟩
  clear Z HL
  replace I1 := Lib.hid (I1.out.ext hx)
  replace I2 := Lib.hid (I2.out.ext hx)
  replace I4 := Lib.hid (I4.out.ext hx)
  replace I5 := Lib.hid (I5.out.ext hx)
  replace HX := Lib.hid (HX.out.trans hx)
  clear hx
  go_wp2_with fail
  have hy := (Ext.refl w14).alloc (.cells #[.int .i64 0, .int .i64 1, .int .i64 3] 3)
  have HL := Lib.hid (row_block (blk_new w14 #[.int .i64 0, .int .i64 1, .int .i64 3] 3 _ rfl) (xs := [0, 1, 3]) rfl intCells (by decide))
  replace I1 := Lib.hid (I1.out.ext hy)
  replace I2 := Lib.hid (I2.out.ext hy)
  replace I4 := Lib.hid (I4.out.ext hy)
  replace I5 := Lib.hid (I5.out.ext hy)
  replace HX := Lib.hid (HX.out.trans hy)
  clear hy
  have Z := ints_is A4 (some ⟨w14.heap.size, 0, none⟩) c4 3 [0, 1, 3] [0, 1, 3] true (by decide) _ (by decide) (by decide) I4.out HL.out
  refine Z.mono ?_
  rintro e w15 ⟨rfl, hx⟩
  clear Z HL
  replace I1 := Lib.hid (I1.out.ext hx)
  replace I2 := Lib.hid (I2.out.ext hx)
  replace I4 := Lib.hid (I4.out.ext hx)
  replace I5 := Lib.hid (I5.out.ext hx)
  replace HX := Lib.hid (HX.out.trans hx)
  clear hx
  go_wp2_with fail
  have hy := (Ext.refl w15).alloc (.cells #[.int .i64 2] 3)
  have HL := Lib.hid (row_block (blk_new w15 #[.int .i64 2] 3 _ rfl) (xs := [2]) rfl intCells (by decide))
  replace I1 := Lib.hid (I1.out.ext hy)
  replace I2 := Lib.hid (I2.out.ext hy)
  replace I4 := Lib.hid (I4.out.ext hy)
  replace I5 := Lib.hid (I5.out.ext hy)
  replace HX := Lib.hid (HX.out.trans hy)
  clear hy
  have Z := ints_is A5 (some ⟨w15.heap.size, 0, none⟩) c5 1 [2] [2] true (by decide) _ (by decide) (by decide) I5.out HL.out
  refine Z.mono ?_
  rintro e w16 ⟨rfl, hx⟩
  clear Z HL
  replace I1 := Lib.hid (I1.out.ext hx)
  replace I2 := Lib.hid (I2.out.ext hx)
  replace I4 := Lib.hid (I4.out.ext hx)
  replace I5 := Lib.hid (I5.out.ext hx)
  replace HX := Lib.hid (HX.out.trans hx)
  clear hx
  go_wp2_with fail
  go_returns
  exact ⟨rfl, HX.out⟩
end Go.Proofs.Ytphpppjfogpohaa

