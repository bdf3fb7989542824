/- Merged by program (merge.py) out of: Flu, CnA, CnB. -/
import Derived.Laws.OwnMore
import Derived.Test.YtphpppjfogpohaaMc22
import Derived.Test.YtphpppjfogpohaaMc8
import Derived.Test.YtphpppjfogpohaaMc16
import Derived.Test.YtphpppjfogpohaaMc18
/- What is met, rising, by the document; how many words and fields it has. -/
set_option linter.unusedSimpArgs false
set_option linter.unusedVariables false
namespace Go.Proofs.Ytphpppjfogpohaa
open Go.RowKit Go.Shelf
set_option maxRecDepth 100000
set_option maxHeartbeats 2000000
section
variable {α : Type} {e : TypeId} {n bytes : Nat} {f : α → List Value} {w : World} {B B2 : Nat} {v u : Value} {xs ys : List α} {P : Program}
/-- append of one own slice onto another. -/
theorem wp_app_own2 {o : Oper} {a : Act} {K : Act → World → Prop} {Q : Exit → Act → World → Prop} (s x : Operand) (t : TypeId)
    (ho : o.op = .call { callee := .builtin .append, args := #[s, x], argTypes := #[t, t] }) (hI : Info P t e n bytes) (hf : Cells n f)
    (hs : a.eval s = v) (hown : Own e n f w B v xs) (hx : a.eval x = u) (hown2 : Own e n f w B2 u ys) (r : Nat) (hk : xs.length + ys.length = r)
    (hlen : r * bytes ≤ 140737488355328) (h63 : r ≤ maxLen) (hB : B ≤ w.heap.size)
    (h : ∀ A cap w', Own e n f w' B (.slice A r cap) (xs ++ ys) → w.grownBy w' v.ownBlock →
      ((Value.slice A r cap).ownBlock = v.ownBlock ∨ (Value.slice A r cap).ownBlock = some w.heap.size) →
      K (a.put o.dst (.slice A r cap)) w') : o.wp P a w K Q := by
  obtain ⟨A2, cap2, rfl, hr, hA2, -⟩ := hown2.form hf hI.pos
  cases A2 with
  | some ad => exact wp_app s x t ho hI hf hs hown ad cap2 ys r _ hk rfl hx hr hlen h63 hB h
  | none =>
    have hys : ys = [] := by
      obtain ⟨b, off, hA, _⟩ := hr
      cases ys with
      | nil => rfl
      | cons y ys => exact absurd (hA (by simp)) (by simp)
    subst hys
    obtain rfl := hA2 rfl
    obtain ⟨A0, cap0, rfl, _⟩ := hown.form hf hI.pos
    simp only [List.length_nil, Nat.add_zero] at hk
    subst hk
    obtain ⟨i, z, hi, _⟩ := hI.inf
    have hrun := run_append_owned_none (P := P) (w := w) B t o.type e i n hI.und hi _ xs.length _ hown
    unfold Oper.wp
    simp [execOp, ho, resolve, invoke, builtin, hs, hx, hrun, Result.andThen]
    exact h A0 cap0 w (by simpa using hown) (World.grownBy.refl _ _) (.inl rfl)
end
theorem refreach_is (G : GraphD) (S R : List Int) (c : Int) (hS : planS G 1000000 0 1 = S) (hR : ordZ (riseL G.ns.length S) = R) (hc : planE G 1000000 0 1 = c) (V : World) (hG : GraphAt V G) (oG : GOk G) : Calls Try.prog 27 #[.agg #[.slice G.nA G.ns.length G.ncap, .slice G.rA G.rs.length G.rcap]] V (RetFl V R c) := by
  have hx0 := (Ext.refl V).alloc (.cells #[.slice G.nA G.ns.length G.ncap, .slice G.rA G.rs.length G.rcap] 25)
  have hBx := pers_new V #[.slice G.nA G.ns.length G.ncap, .slice G.rA G.rs.length G.rcap] 25 _ rfl
  have HPL := Lib.hid (refflat_is G 0 S c hS hc _ (hG.ext hx0) oG)
  have HLE : Hid (S.length ≤ 60) := Lib.hid (by have := planS_len oG (lim := 1000000) (ord := 0) (blk := 1) ⟨by decide, by decide⟩ ⟨by decide, by decide⟩; rw [hS] at this; omega)
  have HN : Hid (G.ns.length ≤ 60) := Lib.hid (by have := oG.2; simp [largeG] at this; omega)
  have HR := Lib.hid hR
  have HX := Lib.hid hx0
  have kB := (cells_of hBx.here).1
  have HBX := Lib.hid hBx
  clear hx0 hG oG hS hc hR hBx
  go_enter Try.func27, Try.ntmps27
  go_wp2_with fail
  refine HPL.out.mono ?_
  rintro e w1 ⟨A1, c1, rfl, h1, hx⟩
  have H1 := Lib.hid (own_ints h1)
  have HX1 := Lib.hid (HX.out.trans hx)
  have HB1 := Lib.hid (HBX.out.re hx)
  clear h1 hx kB HPL HBX
  obtain ⟨wa, rfl⟩ : ∃ wa : World, wa = w1 := ⟨_, rfl⟩
  go_wp2_with fail
  go_loopw [6, 7] (fun o i wr => ∃ (k : Nat) (A : Option Addr) (cap : Nat), k ≤ G.ns.length ∧ i = .int .i64 k ∧ o = .slice A (riseL k S).length cap ∧ Hid (Own 3 1 intC wr wa.heap.size (.slice A (riseL k S).length cap) (ordZ (riseL k S))) ∧ Hid (Ext wa wr)) (fun o i _ => G.ns.length - (intOf i).toNat)
  case atStart => exact ⟨0, none, 0, by omega, rfl, rfl, Lib.hid (Own.nil _ _ _ _ _), Lib.hid (Ext.refl _)⟩
  case round =>
    obtain ⟨k, A, cap, hk, rfl, rfl, HO, HXR⟩ := hrel
    have kB := (cells_of (HB1.out.re HXR.out).here).1
    by_cases hlt : k < G.ns.length
    rotate_left
    · obtain rfl : k = G.ns.length := by omega
      go_wp2_with fail
      ((try simp only [Exit.inBlock, Exit.then]); refine bodyPost_ret (v := .tuple #[.slice A (riseL G.ns.length S).length cap, .int .i64 c]) (by simp only [results, Try.results27]; go_simp) rfl ?_)
      rw [← HR.out]
      exact ⟨A, cap, by rw [ordZ_len], by rw [ordZ_len]; exact HO.out.mono HX1.out.size, HX1.out.trans HXR.out⟩
    have HI := Lib.hid (H1.out.ext HXR.out)
    go_wp2_with fail
    refine (rin_any A1 c1 S (k : Int) _ (by have := HLE.out; omega) HI.out).mono ?_
    rintro e w2 ⟨rfl, hx2⟩
    have HX2 := Lib.hid (HXR.out.trans hx2)
    have HO2 := Lib.hid (HO.out.ext hx2)
    have HRS := Lib.hid (riseL_succ k S)
    have HRL := Lib.hid (riseL_len k S)
    have HNN : Hid (k < 60) := Lib.hid (by have := HN.out; omega)
    have HSZ := Lib.hid HX2.out.size
    have hk60 := HNN.out
    clear hx2 HI kB
    cases hin : decide ((k : Int) ∈ S) with
    | true =>
      have HRT : Hid (riseL (k + 1) S = riseL k S ++ [k]) := Lib.hid (by rw [HRS.out, hin]; rfl)
      clear hin HRS
      have hlen : (riseL k S).length ≤ 60 := by have := HRL.out; have := HNN.out; omega
      go_wp2_with (at_builtin; refine wpList_app_lit rfl (.tmp 23) (.tmp 25) 28 rfl intInfo intCells rfl HO2.out [(k : Int)] 1 _ rfl ((riseL k S).length + 1) 1 (by rw [ordZ_len]; rfl) rfl _ rfl (by first | rfl | simp) (by omega) (by simp [maxLen]; try omega) HSZ.out ?_; intro A4 cap4 w4 hown4 hgr4 hat4; have HX4 := Lib.hid ((HO2.out.ext ((Ext.refl _).alloc _)).grown hgr4 (Nat.le_refl _) (HX2.out.alloc _)); have HO4 := Lib.hid hown4; clear hown4 hgr4 hat4)
      go_roundw
      case rel => exact ⟨k + 1, A4, cap4, by omega, by go_num, by rw [HRT.out]; simp, Lib.hid (by have := HO4.out; rw [HRT.out]; simpa [ordZ] using this), HX4⟩
      case measure => simp [intOf]; omega
    | false =>
      have HRT : Hid (riseL (k + 1) S = riseL k S) := Lib.hid (by rw [HRS.out, hin]; simp)
      clear hin HRS
      go_wp2_with fail
      go_roundw
      case rel => exact ⟨k + 1, A, cap, by omega, by go_num, by rw [HRT.out], by rw [HRT.out]; exact HO2, HX2⟩
      case measure => simp [intOf]; omega
end Go.Proofs.Ytphpppjfogpohaa

/- canon.Canon, and the document's. -/
set_option linter.unusedSimpArgs false
set_option linter.unusedVariables false
namespace Go.Proofs.Ytphpppjfogpohaa
open Go.RowKit Go.Shelf
set_option maxRecDepth 100000
set_option maxHeartbeats 2000000
theorem RetN.base {V W w : World} {c : Int} {vs : List (Int × List (Int × Int) × List Int)} {rs : List (Int × Int)} {e : Ending} (h : RetN W c vs rs e w) (hx : Ext V W) : RetN V c vs rs e w := by
  obtain ⟨H, h1, h2, h3, h4, h5, h6, h7, h8, h9, h10⟩ := h
  exact ⟨H, h1, h2, h3, h4, h5, h6, h7, h8, h9, hx.trans h10⟩
/-- A row of structs whose first cell is a number stands when a box of two slices is written. -/
theorem rowAt_box {α : Type} {n : Nat} {f : α → List Value} {w : World} {A : Option Addr} {xs : List α} (h : RowAt n f w A xs) (hf : ∀ x, ∃ k i, (f x)[0]? = some (Value.int k i)) {b : Nat} {s1 s2 : Value} {t : TypeId} (hb : w.heap[b]? = some (.cells #[s1, s2] t (0, 0)))
    (h1 : ∀ k i, s1 ≠ .int k i) (h2 : ∀ k i, s2 ≠ .int k i) (j : Nat) (u : Value) : RowAt n f (w.setCell ⟨b, j, none⟩ u) A xs := by
  obtain ⟨g, off, hA, hc⟩ := h
  refine ⟨g, off, hA, fun i x hx m v hv => ?_⟩
  have hne : g ≠ b := by
    intro e
    subst e
    obtain ⟨k, z, hz⟩ := hf x
    have h3 := hc i x hx 0 _ hz
    rw [(cells_of hb).1] at h3
    have hlt : off + i * n + 0 < 2 := by
      rcases Nat.lt_or_ge (off + i * n + 0) 2 with h4 | h4
      · exact h4
      · rw [Array.getElem?_eq_none (by simpa using h4)] at h3
        cases h3
    rcases Nat.lt_or_ge (off + i * n + 0) 1 with h4 | h4
    · have e0 : off + i * n + 0 = 0 := by omega
      rw [e0] at h3
      have h5 : some s1 = some (Value.int k z) := h3
      injection h5 with h5
      exact h1 _ _ h5
    · have e0 : off + i * n + 0 = 1 := by omega
      rw [e0] at h3
      have h5 : some s2 = some (Value.int k z) := h3
      injection h5 with h5
      exact h2 _ _ h5
  have h3 := hc i x hx m v hv
  unfold World.cell? at h3 ⊢
  have e := Below.heap_setCell w ⟨b, j, none⟩ u g hne
  simp only at e h3 ⊢
  rw [e]
  exact h3
theorem GraphAt.box {w : World} {H : GraphD} (h : GraphAt w H) {b : Nat} {s1 s2 : Value} {t : TypeId} (hb : w.heap[b]? = some (.cells #[s1, s2] t (0, 0))) (h1 : ∀ k i, s1 ≠ .int k i) (h2 : ∀ k i, s2 ≠ .int k i) (j : Nat) (u : Value) : GraphAt (w.setCell ⟨b, j, none⟩ u) H :=
  ⟨⟨rowAt_box h.nodes.row (fun x => ⟨_, _, rfl⟩) hb h1 h2 j u, fun x hx => ⟨rowAt_box (h.nodes.each x hx).fields (fun x => ⟨_, _, rfl⟩) hb h1 h2 j u, rowAt_box (h.nodes.each x hx).raws (fun x => ⟨_, _, rfl⟩) hb h1 h2 j u⟩⟩, rowAt_box h.roots (fun x => ⟨_, _, rfl⟩) hb h1 h2 j u⟩
theorem canon_any (G : GraphD) (V : World) (hG : GraphAt V G) (oG : GOk G) : Calls Try.prog 13 #[.agg #[.slice G.nA G.ns.length G.ncap, .slice G.rA G.rs.length G.rcap]] V (RetN V (canE G) (canV G) (canQ G)) := by
  have hx0 : Ext V ((V.alloc (.cells #[.slice G.nA G.ns.length G.ncap, .slice G.rA G.rs.length G.rcap] 25)).alloc (.cells #[.slice none 0 0, .slice none 0 0] 25)) := ((Ext.refl V).alloc _).alloc _
  have HBX := Lib.hid ((pers_new V #[.slice G.nA G.ns.length G.ncap, .slice G.rA G.rs.length G.rcap] 25 _ rfl).re ((Ext.refl _).alloc (.cells #[.slice none 0 0, .slice none 0 0] 25)))
  have HRX := Lib.hid (pers_new (V.alloc (.cells #[.slice G.nA G.ns.length G.ncap, .slice G.rA G.rs.length G.rcap] 25)) #[.slice none 0 0, .slice none 0 0] 25 (V.heap.size + 1) (by simp))
  have HX := Lib.hid hx0
  have HG := Lib.hid (hG.ext hx0)
  have HOG := Lib.hid oG
  have kB := (cells_of (pers_new V #[.slice G.nA G.ns.length G.ncap, .slice G.rA G.rs.length G.rcap] 25 _ rfl).here).1
  have kA := (cells_of HBX.out.here).1
  obtain ⟨p1, p2⟩ := flat_eq G
  obtain ⟨e1, s1, -⟩ := plan_great oG 0
  have HVV : Hid (V.heap.size ≤ V.heap.size + 1) := Lib.hid (by omega)
  cases hR : rightG G with
  | false =>
    have HB : Hid (∀ W, GraphAt W G → Calls Try.prog 23 #[.agg #[.slice G.nA G.ns.length G.ncap, .slice G.rA G.rs.length G.rcap]] W (RetFl W [] 4)) := Lib.hid (fun W h => breadth_is G [] 4 (by rw [s1, p2, flatG, hR]; rfl) (by rw [e1, p1, canE, hR]; rfl) W h oG)
    have HC : Hid (canE G = 4) := Lib.hid (by rw [canE, hR]; rfl)
    have HV : Hid (canV G = []) := Lib.hid (by rw [canV, hR]; rfl)
    have HQ : Hid (canQ G = []) := Lib.hid (by rw [canQ, hR]; rfl)
    rw [HC.out]
    clear hx0 hG oG p1 p2 e1 s1 hR
    go_enter Try.func13, Try.ntmps13
    go_wp2_with fail
    refine (HB.out _ HG.out).mono ?_
    rintro e w1 ⟨A1, c1, rfl, h1, hx⟩
    replace HX := Lib.hid (HX.out.trans hx)
    have kR := (cells_of (HRX.out.at hx)).1
    have fR := (cells_of (HRX.out.at hx)).2
    clear h1 hx kB kA HRX HBX
    go_wp2_with fail
    ((try simp only [Exit.inBlock, Exit.then]); refine bodyPost_ret (v := .tuple #[.agg #[.slice none 0 0, .slice none 0 0], .int .i64 4]) (by simp only [results, Try.results13]; go_simp) rfl ?_)
    exact retN_none HV.out HQ.out ((HX.out.setCell HVV.out _).setCell HVV.out _)
  | true =>
    have HO := Lib.hid (ordOk_of oG hR)
    have HOL := Lib.hid (ordG_len oG hR)
    have HN : Hid (G.ns.length ≤ 60) := Lib.hid (by have := oG.2; simp [largeG] at this; omega)
    have HB : Hid (∀ W, GraphAt W G → Calls Try.prog 23 #[.agg #[.slice G.nA G.ns.length G.ncap, .slice G.rA G.rs.length G.rcap]] W (RetFl W (ordZ (ordG G)) 0)) := Lib.hid (fun W h => breadth_is G (ordZ (ordG G)) 0 (by rw [s1, p2, flatG, hR]; rfl) (by rw [e1, p1, canE, hR]; rfl) W h oG)
    have HC : Hid (canE G = 0) := Lib.hid (by rw [canE, hR]; rfl)
    have HV : Hid (canV G = renN G (ordZ (ordG G))) := Lib.hid (by rw [canV, hR, if_pos rfl, (renN_ord hR (ordOk_of oG hR)).1])
    have HQ : Hid (canQ G = renR G (ordZ (ordG G))) := Lib.hid (by rw [canQ, hR, if_pos rfl, (renN_ord hR (ordOk_of oG hR)).2])
    have HE : Hid (renE G (ordZ (ordG G)) = 0) := Lib.hid (renE_ord hR (ordOk_of oG hR))
    have HBD : Hid (∀ x ∈ ordZ (ordG G), -9223372036854775808 ≤ x ∧ x ≤ 9223372036854775807) := Lib.hid (fun x hx => by
      obtain ⟨i, hi, rfl⟩ := ordZ_mem.1 hx
      have := HO.out.lt i hi
      rw [valN_len] at this
      have := HN.out
      omega)
    have HSZ : Hid ((ordZ (ordG G)).length ≤ 1000) := Lib.hid (by rw [ordZ_len]; have := HOL.out; have := HN.out; omega)
    rw [HC.out]
    clear hx0 hG oG p1 p2 e1 s1 hR
    generalize ordZ (ordG G) = l at *
    go_enter Try.func13, Try.ntmps13
    go_wp2_with fail
    refine (HB.out _ HG.out).mono ?_
    rintro e w1 ⟨A1, c1, rfl, h1, hx⟩
    replace HX := Lib.hid (HX.out.trans hx)
    replace HG := Lib.hid (HG.out.ext hx)
    replace HBX := Lib.hid (HBX.out.re hx)
    replace HRX := Lib.hid (HRX.out.re hx)
    have HI := Lib.hid (own_ints h1)
    have kA2 := (cells_of HBX.out.here).1
    clear h1 hx kB kA
    go_wp2_with fail
    clear kA2
    have Z := ren_any G A1 c1 l w1 HG.out HOG.out.1 HI.out HSZ.out HBD.out
    rw [HE.out] at Z
    refine Z.mono ?_
    clear Z
    rintro e w2 ⟨H, rfl, g1, g2, g3, g4, g5, g6, g7, g8, hx⟩
    replace HX := Lib.hid (HX.out.trans hx)
    have hr2 := HRX.out.at hx
    have kR := (cells_of hr2).1
    have fR := (cells_of hr2).2
    have hr3 := blk_set (i := 0) hr2 (.slice H.nA H.ns.length H.ncap)
    have HG1 := Lib.hid (g1.box hr2 (by simp) (by simp) 0 (.slice H.nA H.ns.length H.ncap))
    have HG2 := Lib.hid (HG1.out.box (s1 := .slice H.nA H.ns.length H.ncap) (s2 := .slice none 0 0) hr3 (by simp) (by simp) 1 (.slice H.rA H.rs.length H.rcap))
    have HF := Lib.hid (show H.ns.map nodeV = canV G ∧ H.rs = canQ G from ⟨g2.trans HV.out.symm, g3.trans HQ.out.symm⟩)
    have HSH := Lib.hid (show Shp H from ⟨g4, g5, g6, g7, g8⟩)
    clear g1 g2 g3 g4 g5 g6 g7 g8 hx hr2 hr3 HRX HBX HG1
    go_wp2_with fail
    ((try simp only [Exit.inBlock, Exit.then]); refine bodyPost_ret (v := .tuple #[.agg #[.slice H.nA H.ns.length H.ncap, .slice H.rA H.rs.length H.rcap], .int .i64 0]) (by simp only [results, Try.results13]; go_simp) rfl ?_)
    exact ⟨H, rfl, HG2.out, HF.out.1, HF.out.2, HSH.out.each, HSH.out.a, HSH.out.b, HSH.out.c, HSH.out.d, (HX.out.setCell HVV.out _).setCell HVV.out _⟩
theorem refcanon_any (G : GraphD) (V : World) (hG : GraphAt V G) (oG : GOk G) : Calls Try.prog 14 #[.agg #[.slice G.nA G.ns.length G.ncap, .slice G.rA G.rs.length G.rcap]] V (RetN V (canE G) (canV G) (canQ G)) := by
  have hx0 : Ext V ((V.alloc (.cells #[.slice G.nA G.ns.length G.ncap, .slice G.rA G.rs.length G.rcap] 25)).alloc (.cells #[.slice none 0 0, .slice none 0 0] 25)) := ((Ext.refl V).alloc _).alloc _
  have HBX := Lib.hid ((pers_new V #[.slice G.nA G.ns.length G.ncap, .slice G.rA G.rs.length G.rcap] 25 _ rfl).re ((Ext.refl _).alloc (.cells #[.slice none 0 0, .slice none 0 0] 25)))
  have HRX := Lib.hid (pers_new (V.alloc (.cells #[.slice G.nA G.ns.length G.ncap, .slice G.rA G.rs.length G.rcap] 25)) #[.slice none 0 0, .slice none 0 0] 25 (V.heap.size + 1) (by simp))
  have HX := Lib.hid hx0
  have HG := Lib.hid (hG.ext hx0)
  have HOG := Lib.hid oG
  have kB := (cells_of (pers_new V #[.slice G.nA G.ns.length G.ncap, .slice G.rA G.rs.length G.rcap] 25 _ rfl).here).1
  have kA := (cells_of HBX.out.here).1
  obtain ⟨p1, p2⟩ := flat_eq G
  obtain ⟨e1, s1, -⟩ := plan_great oG 0
  have HVV : Hid (V.heap.size ≤ V.heap.size + 1) := Lib.hid (by omega)
  cases hR : rightG G with
  | false =>
    have HB : Hid (∀ W, GraphAt W G → Calls Try.prog 24 #[.agg #[.slice G.nA G.ns.length G.ncap, .slice G.rA G.rs.length G.rcap], .int .i64 0] W (RetFl W [] 4)) := Lib.hid (fun W h => refflat_is G 0 [] 4 (by rw [p2, flatG, hR]; rfl) (by rw [p1, canE, hR]; rfl) W h oG)
    have HC : Hid (canE G = 4) := Lib.hid (by rw [canE, hR]; rfl)
    have HV : Hid (canV G = []) := Lib.hid (by rw [canV, hR]; rfl)
    have HQ : Hid (canQ G = []) := Lib.hid (by rw [canQ, hR]; rfl)
    rw [HC.out]
    clear hx0 hG oG p1 p2 e1 s1 hR
    go_enter Try.func14, Try.ntmps14
    go_wp2_with fail
    refine (HB.out _ HG.out).mono ?_
    rintro e w1 ⟨A1, c1, rfl, h1, hx⟩
    replace HX := Lib.hid (HX.out.trans hx)
    have kR := (cells_of (HRX.out.at hx)).1
    have fR := (cells_of (HRX.out.at hx)).2
    clear h1 hx kB kA HRX HBX
    go_wp2_with fail
    ((try simp only [Exit.inBlock, Exit.then]); refine bodyPost_ret (v := .tuple #[.agg #[.slice none 0 0, .slice none 0 0], .int .i64 4]) (by simp only [results, Try.results14]; go_simp) rfl ?_)
    exact retN_none HV.out HQ.out ((HX.out.setCell HVV.out _).setCell HVV.out _)
  | true =>
    have HO := Lib.hid (ordOk_of oG hR)
    have HOL := Lib.hid (ordG_len oG hR)
    have HN : Hid (G.ns.length ≤ 60) := Lib.hid (by have := oG.2; simp [largeG] at this; omega)
    have HB : Hid (∀ W, GraphAt W G → Calls Try.prog 24 #[.agg #[.slice G.nA G.ns.length G.ncap, .slice G.rA G.rs.length G.rcap], .int .i64 0] W (RetFl W (ordZ (ordG G)) 0)) := Lib.hid (fun W h => refflat_is G 0 (ordZ (ordG G)) 0 (by rw [p2, flatG, hR]; rfl) (by rw [p1, canE, hR]; rfl) W h oG)
    have HC : Hid (canE G = 0) := Lib.hid (by rw [canE, hR]; rfl)
    have HV : Hid (canV G = renN G (ordZ (ordG G))) := Lib.hid (by rw [canV, hR, if_pos rfl, (renN_ord hR (ordOk_of oG hR)).1])
    have HQ : Hid (canQ G = renR G (ordZ (ordG G))) := Lib.hid (by rw [canQ, hR, if_pos rfl, (renN_ord hR (ordOk_of oG hR)).2])
    have HE : Hid (renE G (ordZ (ordG G)) = 0) := Lib.hid (renE_ord hR (ordOk_of oG hR))
    have HBD : Hid (∀ x ∈ ordZ (ordG G), -9223372036854775808 ≤ x ∧ x ≤ 9223372036854775807) := Lib.hid (fun x hx => by
      obtain ⟨i, hi, rfl⟩ := ordZ_mem.1 hx
      have := HO.out.lt i hi
      rw [valN_len] at this
      have := HN.out
      omega)
    have HSZ : Hid ((ordZ (ordG G)).length ≤ 1000) := Lib.hid (by rw [ordZ_len]; have := HOL.out; have := HN.out; omega)
    rw [HC.out]
    clear hx0 hG oG p1 p2 e1 s1 hR
    generalize ordZ (ordG G) = l at *
    go_enter Try.func14, Try.ntmps14
    go_wp2_with fail
    refine (HB.out _ HG.out).mono ?_
    rintro e w1 ⟨A1, c1, rfl, h1, hx⟩
    replace HX := Lib.hid (HX.out.trans hx)
    replace HG := Lib.hid (HG.out.ext hx)
    replace HBX := Lib.hid (HBX.out.re hx)
    replace HRX := Lib.hid (HRX.out.re hx)
    have HI := Lib.hid (own_ints h1)
    have kA2 := (cells_of HBX.out.here).1
    clear h1 hx kB kA
    go_wp2_with fail
    clear kA2
    have Z := refren_any G A1 c1 l w1 HG.out HOG.out.1 HI.out HSZ.out
    rw [HE.out] at Z
    refine Z.mono ?_
    clear Z
    rintro e w2 ⟨H, rfl, g1, g2, g3, g4, g5, g6, g7, g8, hx⟩
    replace HX := Lib.hid (HX.out.trans hx)
    have hr2 := HRX.out.at hx
    have kR := (cells_of hr2).1
    have fR := (cells_of hr2).2
    have hr3 := blk_set (i := 0) hr2 (.slice H.nA H.ns.length H.ncap)
    have HG1 := Lib.hid (g1.box hr2 (by simp) (by simp) 0 (.slice H.nA H.ns.length H.ncap))
    have HG2 := Lib.hid (HG1.out.box (s1 := .slice H.nA H.ns.length H.ncap) (s2 := .slice none 0 0) hr3 (by simp) (by simp) 1 (.slice H.rA H.rs.length H.rcap))
    have HF := Lib.hid (show H.ns.map nodeV = canV G ∧ H.rs = canQ G from ⟨g2.trans HV.out.symm, g3.trans HQ.out.symm⟩)
    have HSH := Lib.hid (show Shp H from ⟨g4, g5, g6, g7, g8⟩)
    clear g1 g2 g3 g4 g5 g6 g7 g8 hx hr2 hr3 HRX HBX HG1
    go_wp2_with fail
    ((try simp only [Exit.inBlock, Exit.then]); refine bodyPost_ret (v := .tuple #[.agg #[.slice H.nA H.ns.length H.ncap, .slice H.rA H.rs.length H.rcap], .int .i64 0]) (by simp only [results, Try.results14]; go_simp) rfl ?_)
    exact ⟨H, rfl, HG2.out, HF.out.1, HF.out.2, HSH.out.each, HSH.out.a, HSH.out.b, HSH.out.c, HSH.out.d, (HX.out.setCell HVV.out _).setCell HVV.out _⟩
end Go.Proofs.Ytphpppjfogpohaa

/- canon.Alike. -/
set_option linter.unusedSimpArgs false
set_option linter.unusedVariables false
namespace Go.Proofs.Ytphpppjfogpohaa
open Go.RowKit Go.Shelf
set_option maxRecDepth 100000
set_option maxHeartbeats 2000000
theorem can_ok {G H : GraphD} (oG : GOk G) (hR : rightG G = true) (h1 : H.ns.map nodeV = canV G) (h2 : H.rs = canQ G) (hs : Shp H) : GOk H ∧ rightG H = true :=
  turned_ok oG hR (ordOk_of oG hR) (h1.trans (by rw [canV, if_pos hR])) (h2.trans (by rw [canQ, if_pos hR])) hs
theorem same_can {A B H K : GraphD} (ra : rightG A = true) (rb : rightG B = true) (h1 : H.ns.map nodeV = canV A) (h2 : H.rs = canQ A) (h3 : K.ns.map nodeV = canV B) (h4 : K.rs = canQ B) : sameG H K = alikeG A B := by
  unfold sameG sameL alikeG
  rw [h1, h2, h3, h4, ra, rb]
  rfl
theorem alike_any (A B : GraphD) (V : World) (hA : GraphAt V A) (hB : GraphAt V B) (oA : GOk A) (oB : GOk B) :
    Calls Try.prog 16 #[.agg #[.slice A.nA A.ns.length A.ncap, .slice A.rA A.rs.length A.rcap], .agg #[.slice B.nA B.ns.length B.ncap, .slice B.rA B.rs.length B.rcap]] V fun e w' => e = .returned (.bool (alikeG A B)) ∧ Ext V w' := by
  have hx0 := ((Ext.refl V).alloc (.cells #[.slice A.nA A.ns.length A.ncap, .slice A.rA A.rs.length A.rcap] 25)).alloc (.cells #[.slice B.nA B.ns.length B.ncap, .slice B.rA B.rs.length B.rcap] 25)
  have hba := (pers_new V #[.slice A.nA A.ns.length A.ncap, .slice A.rA A.rs.length A.rcap] 25 _ rfl).re ((Ext.refl _).alloc (.cells #[.slice B.nA B.ns.length B.ncap, .slice B.rA B.rs.length B.rcap] 25))
  have hbb := pers_new (V.alloc (.cells #[.slice A.nA A.ns.length A.ncap, .slice A.rA A.rs.length A.rcap] 25)) #[.slice B.nA B.ns.length B.ncap, .slice B.rA B.rs.length B.rcap] 25 (V.heap.size + 1) (by simp)
  have HX := Lib.hid hx0
  have HA := Lib.hid (hA.ext hx0)
  have HB := Lib.hid (hB.ext hx0)
  have HBB := Lib.hid hbb
  have HOA := Lib.hid oA
  have HOB := Lib.hid oB
  have ka := (cells_of hba.here).1
  obtain ⟨ca, hca⟩ : ∃ c, canE A = c := ⟨_, rfl⟩
  obtain ⟨cb, hcb⟩ : ∃ c, canE B = c := ⟨_, rfl⟩
  obtain ⟨r, hr⟩ : ∃ r, alikeG A B = r := ⟨_, rfl⟩
  have HCA := Lib.hid hca
  have HCB := Lib.hid hcb
  have HR := Lib.hid hr
  rw [hr]
  clear hx0 hA hB oA oB hba hbb hca hcb hr
  go_enter Try.func16, Try.ntmps16
  go_wp2_with fail
  have Z := canon_any A _ HA.out HOA.out
  rw [HCA.out] at Z
  refine Z.mono ?_
  clear Z
  rintro e w1 ⟨H, rfl, g1, g2, g3, g4, g5, g6, g7, g8, hx⟩
  replace HX := Lib.hid (HX.out.trans hx)
  replace HB := Lib.hid (HB.out.ext hx)
  replace HBB := Lib.hid (HBB.out.re hx)
  have HG1 := Lib.hid g1
  have HF1 := Lib.hid (show H.ns.map nodeV = canV A ∧ H.rs = canQ A from ⟨g2, g3⟩)
  have HS1 := Lib.hid (show Shp H from ⟨g4, g5, g6, g7, g8⟩)
  have kb := (cells_of HBB.out.here).1
  have hlb := lt_of_heap HBB.out.here
  clear g1 g2 g3 g4 g5 g6 g7 g8 hx ka
  go_wp2_with fail
  have hx2 := (Ext.refl w1).alloc (.cells #[.slice H.nA H.ns.length H.ncap, .slice H.rA H.rs.length H.rcap] 25)
  have HBH := Lib.hid (pers_new w1 #[.slice H.nA H.ns.length H.ncap, .slice H.rA H.rs.length H.rcap] 25 _ rfl)
  replace HX := Lib.hid (HX.out.trans hx2)
  replace HB := Lib.hid (HB.out.ext hx2)
  replace HG1 := Lib.hid (HG1.out.ext hx2)
  clear kb hlb hx2 HBB
  generalize w1.alloc (.cells #[.slice H.nA H.ns.length H.ncap, .slice H.rA H.rs.length H.rcap] 25) = w2 at *
  generalize w1.heap.size = X at *
  have Z := canon_any B _ HB.out HOB.out
  rw [HCB.out] at Z
  refine Z.mono ?_
  clear Z
  rintro e w3 ⟨K, rfl, g1, g2, g3, g4, g5, g6, g7, g8, hx⟩
  replace HX := Lib.hid (HX.out.trans hx)
  replace HG1 := Lib.hid (HG1.out.ext hx)
  replace HBH := Lib.hid (HBH.out.re hx)
  have HG2 := Lib.hid g1
  have HF2 := Lib.hid (show K.ns.map nodeV = canV B ∧ K.rs = canQ B from ⟨g2, g3⟩)
  have HS2 := Lib.hid (show Shp K from ⟨g4, g5, g6, g7, g8⟩)
  have kx := (cells_of HBH.out.here).1
  have hlx := lt_of_heap HBH.out.here
  clear g1 g2 g3 g4 g5 g6 g7 g8 hx
  cases hra : rightG A with
  | false =>
    have hr0 : r = false := by rw [← HR.out, alikeG, hra]; rfl
    have hc4 : ca = 4 := by rw [← HCA.out, canE, hra]; rfl
    subst hr0 hc4
    go_wp2_with fail
    go_returns
    exact ⟨rfl, HX.out.alloc _⟩
  | true =>
  have hc0 : ca = 0 := by rw [← HCA.out, canE, hra]; rfl
  subst hc0
  cases hrb : rightG B with
  | false =>
    have hr0 : r = false := by rw [← HR.out, alikeG, hrb, Bool.and_false]; rfl
    have hc4 : cb = 4 := by rw [← HCB.out, canE, hrb]; rfl
    subst hr0 hc4
    go_wp2_with fail
    go_returns
    exact ⟨rfl, HX.out.alloc _⟩
  | true =>
  have hc0 : cb = 0 := by rw [← HCB.out, canE, hrb]; rfl
  subst hc0
  have HOH := Lib.hid (can_ok HOA.out hra HF1.out.1 HF1.out.2 HS1.out).1
  have HOK := Lib.hid (can_ok HOB.out hrb HF2.out.1 HF2.out.2 HS2.out).1
  have HSM := Lib.hid ((same_can hra hrb HF1.out.1 HF1.out.2 HF2.out.1 HF2.out.2).trans HR.out)
  have hx2 := (Ext.refl w3).alloc (.cells #[.slice K.nA K.ns.length K.ncap, .slice K.rA K.rs.length K.rcap] 25)
  replace HX := Lib.hid (HX.out.trans hx2)
  replace HG1 := Lib.hid (HG1.out.ext hx2)
  replace HG2 := Lib.hid (HG2.out.ext hx2)
  clear hra hrb HR HCA HCB hx2
  go_wp2_with fail
  refine (same_is H K r _ HSM.out HG1.out HG2.out HOH.out.1 HOK.out.1).mono ?_
  rintro e w4 ⟨rfl, hx⟩
  replace HX := Lib.hid (HX.out.trans hx)
  clear hx kx hlx
  go_wp2_with fail
  go_returns
  exact ⟨rfl, HX.out⟩
theorem alike_is (A B : GraphD) (r : Bool) (h : alikeG A B = r) (V : World) (hA : GraphAt V A) (hB : GraphAt V B) (oA : GOk A) (oB : GOk B) :
    Calls Try.prog 16 #[.agg #[.slice A.nA A.ns.length A.ncap, .slice A.rA A.rs.length A.rcap], .agg #[.slice B.nA B.ns.length B.ncap, .slice B.rA B.rs.length B.rcap]] V fun e w' => e = .returned (.bool r) ∧ Ext V w' := by
  subst h; exact alike_any A B V hA hB oA oB
end Go.Proofs.Ytphpppjfogpohaa

