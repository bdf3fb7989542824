/- Merged by program (merge.py) out of: WkB, WkC, RfC, WkD, RfD, WpP. -/
import Derived.BigRegionIn
import Derived.Test.YtkcpfimhbogdcaaMs17
import Derived.Test.YtkcpfimhbogdcaaMs1
import Derived.Test.YtkcpfimhbogdcaaMs7
import Derived.Test.YtkcpfimhbogdcaaMs16
import Derived.Test.YtkcpfimhbogdcaaMs12
/- Where a walk ends: walk.Stop. -/
set_option linter.unusedSimpArgs false
set_option linter.unusedVariables false
namespace Go.Proofs.Ytkcpfimhbogdcaa
open Go.RowKit Go.Shelf
attribute [local go_sem] Oper.semAt_some

theorem mayS_is (a s : Int) (b : Bool) (h : mayB a s = b) (w : World) : Calls Try.prog 15 #[.agg #[.int .i64 (a), .int .i64 (s)]] w fun e w' => e = .returned (.bool b) ∧ Ext w w' := by
  rw [← h]; exact may_any a s w
theorem walk_any (p : Option Addr) (a s top : Int) (w : World) :
    Calls Try.prog 64 #[.pointer p, .agg #[.int .i64 (a), .int .i64 (s)], .int .i64 top] w fun e w' => e = .returned (.func (.func 118) #[] #[.pointer (some ⟨w.heap.size + 1, 0, none⟩), .pointer (some ⟨w.heap.size + 2, 0, none⟩), .pointer (some ⟨w.heap.size, 0, none⟩)]) ∧ w' = ((w.alloc (.cells #[.pointer p] 34)).alloc (.cells #[.int .i64 a, .int .i64 s] 23)).alloc (.cells #[.int .i64 top] 3) := by
  go_enter Try.func64, Try.ntmps64
  go_wp2
  go_ret
  exact ⟨rfl, rfl⟩
/-- The last step: where a walk ends, and why. -/
def lastS (l : Option (List Int)) (top i : Int) : Stp := (stepsA l top i).getLastD ⟨i, hd0, 0, true⟩
theorem steps_last (l : Option (List Int)) (top : Int) : ∀ (n : Nat) (i : Int), (top - i).toNat ≤ n → ∃ pre x, stepsA l top i = pre ++ [x] ∧ x.last = true ∧ (∀ y ∈ pre, y.last = false) ∧ x = lastS l top i := by
  intro n
  induction n with
  | zero =>
    intro i hi
    have h := steps_end (l := l) (top := top) (i := i) (by omega)
    exact ⟨[], _, h, rfl, by simp, by rw [lastS, h]; rfl⟩
  | succ n ih =>
    intro i hi
    by_cases h : i < top
    · by_cases h2 : wkE l top i = 0
      · have hg := steps_go h h2
        have := head_size (wkE_head h2).1
        obtain ⟨pre, x, h3, h4, h5, h6⟩ := ih (i + hsize (headH l i)) (by omega)
        refine ⟨⟨i, headH l i, 0, false⟩ :: pre, x, by rw [hg, h3]; rfl, h4, fun y hy => ?_, ?_⟩
        · rcases List.mem_cons.1 hy with rfl | hy
          · rfl
          · exact h5 y hy
        · rw [lastS, hg, h3, ← List.cons_append]
          simp only [List.getLastD_eq_getLast?, List.getLast?_append, List.getLast?_singleton, Option.some_or, Option.getD_some]
      · have he := steps_err h h2
        exact ⟨[], _, he, rfl, by simp, by rw [lastS, he]; rfl⟩
    · have h := steps_end (l := l) (top := top) (i := i) h
      exact ⟨[], _, h, rfl, by simp, by rw [lastS, h]; rfl⟩
theorem steps_pre {l : Option (List Int)} {top i : Int} {pre : List Stp} {x : Stp} (h : pre ++ [x] <+: stepsA l top i) (hx : x.last = true) : x = lastS l top i ∧ pre ++ [x] = stepsA l top i := by
  obtain ⟨pr, y, h1, h2, h3, h4⟩ := steps_last l top _ i (Nat.le_refl _)
  obtain ⟨t, ht⟩ := h
  rw [h1] at ht
  have hlen : pre.length ≤ pr.length := by have := congrArg List.length ht; simp at this; omega
  rcases Nat.lt_or_ge pre.length pr.length with hlt | hge
  · exfalso
    have e := congrArg (fun l => l[pre.length]?) ht
    simp only [List.append_assoc, List.getElem?_append_right (Nat.le_refl _), Nat.sub_self, List.cons_append, List.getElem?_cons_zero] at e
    rw [List.getElem?_append_left hlt, List.getElem?_eq_getElem hlt] at e
    injection e with e
    have := h3 _ (List.getElem_mem hlt)
    rw [← e, hx] at this
    cases this
  · have hl : pre.length = pr.length := by omega
    rw [List.append_assoc] at ht
    obtain ⟨e1, e2⟩ := List.append_inj ht hl
    simp only [List.cons_append, List.nil_append, List.cons.injEq] at e2
    exact ⟨e2.1.trans h4, by rw [h1, e1, e2.1]⟩
theorem steps_all {l : Option (List Int)} {top i : Int} (h : ∀ x ∈ stepsA l top i, x.last = false) : False := by
  obtain ⟨pr, y, h1, h2, -⟩ := steps_last l top _ i (Nat.le_refl _)
  have := h y (by rw [h1]; simp)
  rw [h2] at this
  cases this

/-- May a walk be asked? -/
def wkB (a s top : Int) : Bool := mayB a s && decide (a ≤ top ∧ top ≤ a + s)
def stopA (l : Option (List Int)) (a s top : Int) : Int := if wkB a s top then (lastS l top a).at_ else 0
def stopE (l : Option (List Int)) (a s top : Int) : Int := if wkB a s top then (lastS l top a).e else 1
set_option maxRecDepth 100000
set_option maxHeartbeats 8000000
theorem stop_any (p : Option Addr) (l : Option (List Int)) (a s top : Int) (V : World) (hp : ArP V p l) :
    Calls Try.prog 14 #[.pointer p, .agg #[.int .i64 (a), .int .i64 (s)], .int .i64 top] V fun e w' => e = .returned (.tuple #[.int .i64 (stopA l a s top), .int .i64 (stopE l a s top)]) ∧ Ext V w' := by
  have HP := Lib.hid hp
  have hb4 := blk_old (o2 := .cells #[.int .i64 0] 25) (blk_old (o2 := .cells #[.int .i64 0] 3) (blk_new V #[.int .i64 a, .int .i64 s] 23 _ rfl))
  have hb6 := blk_old (o2 := .cells #[.int .i64 0] 25) (blk_new (V.alloc (.cells #[.int .i64 a, .int .i64 s] 23)) #[.int .i64 0] 3 (V.heap.size + 1) (by simp))
  have hb7 := blk_new ((V.alloc (.cells #[.int .i64 a, .int .i64 s] 23)).alloc (.cells #[.int .i64 0] 3)) #[.int .i64 0] 25 (V.heap.size + 1 + 1) (by simp)
  have hW : Ext V (((V.alloc (.cells #[.int .i64 a, .int .i64 s] 23)).alloc (.cells #[.int .i64 0] 3)).alloc (.cells #[.int .i64 0] 25)) := (((Ext.refl V).alloc _).alloc _).alloc _
  obtain ⟨b, hb⟩ : ∃ b, mayB a s = b := ⟨_, rfl⟩
  have HB := Lib.hid hb
  clear hb hp
  refine (callsIn_wide (n := 5)).1 ?_
  have hro : Fence.wide.round = none := rfl
  refine callsIn_of_wp_marks Try.func14 rfl trivial ?_ hro
  simp only [Try.ntmps14, List.size_toArray, List.length_cons, List.length_nil, Nat.reduceAdd, Nat.reduceSub, Array.replicate_succ, Array.replicate_zero, List.push_toArray, List.append_toArray, List.nil_append, List.cons_append]
  gi_wp2
  generalize ((V.alloc (.cells #[.int .i64 a, .int .i64 s] 23)).alloc (.cells #[.int .i64 0] 3)).alloc (.cells #[.int .i64 0] 25) = W at *
  generalize hX7 : V.heap.size + 1 + 1 = X7 at *
  generalize hX6 : V.heap.size + 1 = X6 at *
  have HX6 := Lib.hid hX6
  have HX7 := Lib.hid hX7
  clear hX6 hX7
  have HB4 := Lib.hid hb4
  have HB6 := Lib.hid hb6
  have HB7 := Lib.hid hb7
  have HW := Lib.hid hW
  clear hb4 hb6 hb7 hW
  refine ⟨trivial, ?_⟩
  refine (callsIn_wide.2 (mayS_is a s b HB.out _)).mono ?_
  rintro e w1 ⟨rfl, hx⟩
  have b4 := (hx.block (lt_of_heap HB4.out)).trans HB4.out
  have b6 := (hx.block (lt_of_heap HB6.out)).trans HB6.out
  have b7 := (hx.block (lt_of_heap HB7.out)).trans HB7.out
  have HXW := Lib.hid (HW.out.trans hx)
  have c0 : w1.cell? ⟨V.heap.size, 0, none⟩ = some (.int .i64 a) := by simp [World.cell?, b4]
  have c1 : w1.cell? ⟨V.heap.size, 1, none⟩ = some (.int .i64 s) := by simp [World.cell?, b4]
  have c2 : w1.cell? ⟨X6, 0, none⟩ = some (.int .i64 0) := by simp [World.cell?, b6]
  have c3 : w1.cell? ⟨X7, 0, none⟩ = some (.int .i64 0) := by simp [World.cell?, b7]
  have f2 : w1.frozen? ⟨X6, 0, none⟩ = false := by simp [World.frozen?, b6]
  have f3 : w1.frozen? ⟨X7, 0, none⟩ = false := by simp [World.frozen?, b7]
  have n67 : X6 ≠ X7 := by have := HX6.out; have := HX7.out; omega
  have n76 : X7 ≠ X6 := fun e => n67 e.symm
  have HBB4 := Lib.hid b4
  have HBB6 := Lib.hid b6
  have HBB7 := Lib.hid b7
  clear hx b4 b6 b7
  by_cases hk : wkB a s top = true
  rotate_left
  · have hk' : wkB a s top = false := by simpa using hk
    have HA : Hid (stopA l a s top = 0 ∧ stopE l a s top = 1) := Lib.hid (by rw [stopA, stopE, hk']; exact ⟨rfl, rfl⟩)
    have HXS : Hid (Ext V ((w1.setCell ⟨X6, 0, none⟩ (.int .i64 0)).setCell ⟨X7, 0, none⟩ (.int .i64 1))) := Lib.hid ((HXW.out.setCell (by have h1 := HX6.out; show V.heap.size ≤ X6; omega) _).setCell (by have h1 := HX6.out; have h2 := HX7.out; show V.heap.size ≤ X7; omega) _)
    cases b
    · clear hk hk'
      gi_wp2
      exact ⟨.tuple #[.int .i64 0, .int .i64 1], (by simp only [results, Try.results14]; go_simp), (by rw [HA.out.1, HA.out.2]), HXS.out⟩
    · obtain ⟨m1, m2, m3, m4⟩ := may_bd HB.out
      have hw : wrap64 (a + s) = a + s := IntWalk.wrap64_in _ ⟨by omega, by omega⟩
      by_cases h1 : top < a
      · have d1 : decide (top < a) = true := by simpa using h1
        clear hk hk'
        gi_wp2
        exact ⟨.tuple #[.int .i64 0, .int .i64 1], (by simp only [results, Try.results14]; go_simp), (by rw [HA.out.1, HA.out.2]), HXS.out⟩
      have d1 : decide (top < a) = false := by simpa using h1
      have d2 : decide (a + s < top) = true := by
        have := HB.out
        simp only [wkB, this, Bool.true_and, decide_eq_false_iff_not] at hk'
        simp only [decide_eq_true_eq]
        omega
      clear hk hk'
      gi_wp2
      exact ⟨.tuple #[.int .i64 0, .int .i64 1], (by simp only [results, Try.results14]; go_simp), (by rw [HA.out.1, HA.out.2]), HXS.out⟩
  obtain rfl : b = true := by
    have := HB.out
    unfold wkB at hk
    rw [this] at hk
    cases b
    · simp at hk
    · rfl
  obtain ⟨m1, m2, m3, m4⟩ := may_bd HB.out
  have hw : wrap64 (a + s) = a + s := IntWalk.wrap64_in _ ⟨by omega, by omega⟩
  obtain ⟨t1, t2⟩ : a ≤ top ∧ top ≤ a + s := by simpa [wkB, HB.out] using hk
  have d1 : decide (top < a) = false := by simp; omega
  have d2 : decide (a + s < top) = false := by simp; omega
  have HA : Hid (stopA l a s top = (lastS l top a).at_ ∧ stopE l a s top = (lastS l top a).e) := Lib.hid (by rw [stopA, stopE, hk]; exact ⟨rfl, rfl⟩)
  clear hk
  gi_wp2_with (refine ⟨trivial, ?_⟩; gi_at_call 64; refine (callsIn_wide.2 (walk_any _ _ _ _ _)).mono ?_; rintro e w' ⟨rfl, rfl⟩)
  have e0 := blk_old (o2 := .cells #[.int .i64 top] 3) (blk_old (o2 := .cells #[.int .i64 a, .int .i64 s] 23) (blk_new w1 #[.pointer p] 34 _ rfl))
  have e1 := blk_old (o2 := .cells #[.int .i64 top] 3) (blk_new (w1.alloc (.cells #[.pointer p] 34)) #[.int .i64 a, .int .i64 s] 23 (w1.heap.size + 1) (by simp))
  have e2 := blk_new ((w1.alloc (.cells #[.pointer p] 34)).alloc (.cells #[.int .i64 a, .int .i64 s] 23)) #[.int .i64 top] 3 (w1.heap.size + 2) (by simp)
  have hx2 : Ext w1 (((w1.alloc (.cells #[.pointer p] 34)).alloc (.cells #[.int .i64 a, .int .i64 s] 23)).alloc (.cells #[.int .i64 top] 3)) := (((Ext.refl w1).alloc _).alloc _).alloc _
  generalize ((w1.alloc (.cells #[.pointer p] 34)).alloc (.cells #[.int .i64 a, .int .i64 s] 23)).alloc (.cells #[.int .i64 top] 3) = w2 at *
  have hbg6 := (hx2.block (lt_of_heap HBB6.out)).trans HBB6.out
  have hbg7 := (hx2.block (lt_of_heap HBB7.out)).trans HBB7.out
  have hV2 : Ext V w2 := HXW.out.trans hx2
  have hl0 := lt_of_heap e0
  have hl1 := lt_of_heap e1
  have hl2 := lt_of_heap e2
  have hl6 := lt_of_heap hbg6
  have hl7 := lt_of_heap hbg7
  have hv6 := HX6.out
  have hv7 := HX7.out
  have hnl : ∀ b, ¬ Led w2 X6 b := fun b ⟨n, c, h⟩ => by simp [World.cell?, hbg6] at h
  clear c0 c1 c2 c3 f2 f3
  refine wpIn_rangeK (gf := 118) (lb := #[.pointer (some ⟨w1.heap.size + 1, 0, none⟩), .pointer (some ⟨w1.heap.size + 2, 0, none⟩), .pointer (some ⟨w1.heap.size, 0, none⟩)]) rfl (enters_of Try.func118 (by kernel_rfl) rfl)
    (walk1_stops w2.heap.size (w1.heap.size + 1) (w1.heap.size + 2) w1.heap.size X6 p l a s top w2 hl1 hl2 hl0 (by simp [World.cell?, e1]) (by simp [World.cell?, e2]) (by simp [World.cell?, e0]) (fun W' hb => HP.out.ext (hV2.trans hb)) (Nat.le_refl _) m1 t1 (by omega) hl6 hnl)
    (fun k hk => by rcases hk with rfl | rfl | rfl <;> omega) (Nat.le_refl _) (fun _ => rfl)
    (fun pre W => Ext w2 W ∧ Hid (∀ x ∈ pre, x.last = false))
    (fun c pre W => c = .ret ∧ Ext V W ∧ W.heap[X6]? = some (.cells #[.int .i64 (lastS l top a).at_] 3 (0, 0)) ∧ W.heap[X7]? = some (.cells #[.int .i64 (lastS l top a).e] 25 (0, 0)) ∧ w2.heap.size ≤ W.heap.size)
    (fun s A B h hab => ⟨Below.trans h.1 hab.below, h.2⟩)
    (fun c s A B h hab => ⟨h.1, Below.trans h.2.1 (Below.mono hab.below (by have := hV2.size; omega)), (hab.below.block X6 (by omega)).trans h.2.2.1, (hab.below.block X7 (by omega)).trans h.2.2.2.1, Nat.le_trans h.2.2.2.2 hab.below.size⟩)
    ⟨Ext.refl _, Lib.hid (by simp)⟩
    (fun pre x a' W => Ext w2 W ∧ Hid (∀ x ∈ pre, x.last = false) ∧ ∃ X, w2.heap.size ≤ X ∧ W.heap[X]? = some (.cells #[.int .i64 x.at_, .int .i64 x.h.k, .int .i64 x.h.f, .int .i64 x.h.r, .bool x.h.m, .int .i64 x.h.c, .int .i64 x.e, .bool x.last] 119 (0, 0)) ∧
      a' = { tmps := #[.pointer p, .agg #[.int .i64 a, .int .i64 s], .int .i64 top, undef, .pointer (some ⟨V.heap.size, 0, none⟩), undef, .pointer (some ⟨X6, 0, none⟩), .pointer (some ⟨X7, 0, none⟩), .pointer (some ⟨X, 0, none⟩), .agg #[.int .i64 a, .int .i64 s], .bool true, .bool false, .bool false, .int .i64 top, .pointer (some ⟨V.heap.size, 0, none⟩), .int .i64 a, .bool false, .bool false, .bool false, .int .i64 top, .pointer (some ⟨V.heap.size, 0, none⟩), .int .i64 a, .pointer (some ⟨V.heap.size, 1, none⟩), .int .i64 s, .int .i64 (a + s), .bool false, .bool false, .pointer p, .agg #[.int .i64 a, .int .i64 s], .int .i64 top, .func (.func 118) #[] #[.pointer (some ⟨w1.heap.size + 1, 0, none⟩), .pointer (some ⟨w1.heap.size + 2, 0, none⟩), .pointer (some ⟨w1.heap.size, 0, none⟩)], .agg #[.int .i64 x.at_, .int .i64 x.h.k, .int .i64 x.h.f, .int .i64 x.h.r, .bool x.h.m, .int .i64 x.h.c, .int .i64 x.e, .bool x.last], undef, undef, undef, undef, undef, undef, undef], defers := [] })
    ?hax ?assign ?body ?done ?stop
  case hax =>
    rintro pre x a' A B ⟨h1, h2, X, hX, hbX, rfl⟩ hb hk
    exact ⟨Below.trans h1 hb, h2, X, hX, hk X _ hbX rfl, rfl⟩
  case assign =>
    rintro lq pre x W K ⟨h1, h2⟩ hK
    have hsz := h1.size
    have H1 := Lib.hid h1
    clear h1
    gi_wp2
    exact hK _ _ ⟨H1.out.alloc _, h2, W.heap.size, hsz, World.alloc_heap_new _ _, rfl⟩ ((KeepsOthers.alloc _ _).from _) (KpX.ext ((Ext.refl W).alloc _) hsz (by omega))
  case body =>
    rintro lq pre x a' W ⟨h1, h2, X, hX, hbX, rfl⟩ hgd
    have HGD := Lib.hid (fun (h : x.last = true) => steps_pre hgd h)
    have H1 := Lib.hid h1
    have hs1 := h1.size
    have HB6W := Lib.hid ((h1.block hl6).trans hbg6)
    have HB7W := Lib.hid ((h1.block hl7).trans hbg7)
    have HBXW := Lib.hid hbX
    obtain ⟨xat, xh, xe, xl⟩ := x
    simp only at HGD
    have g3 : W.cell? ⟨X, 7, none⟩ = some (.bool xl) := by simp [World.cell?, hbX]
    clear h1 hgd hbX
    cases xl
    · gi_wp2
      refine ⟨keeps_ext (Ext.refl _), KpX.ext (Ext.refl _) hs1 (by omega), H1.out, Lib.hid fun y hy => ?_⟩
      rcases List.mem_append.1 hy with hy | hy
      · exact h2.out y hy
      · rcases List.mem_singleton.1 hy with rfl
        rfl
    · gi_wp2
      obtain ⟨hxl, hxe⟩ := HGD.out trivial
      have q0 : W.cell? ⟨X, 0, none⟩ = some (.int .i64 xat) := by simp [World.cell?, HBXW.out]
      have q2 : W.cell? ⟨X, 6, none⟩ = some (.int .i64 xe) := by simp [World.cell?, HBXW.out]
      have c6 : W.cell? ⟨X6, 0, none⟩ = some (.int .i64 0) := by simp [World.cell?, HB6W.out]
      have c7 : W.cell? ⟨X7, 0, none⟩ = some (.int .i64 0) := by simp [World.cell?, HB7W.out]
      have f6 : W.frozen? ⟨X6, 0, none⟩ = false := by simp [World.frozen?, HB6W.out]
      have f7 : W.frozen? ⟨X7, 0, none⟩ = false := by simp [World.frozen?, HB7W.out]
      have nx6 : X ≠ X6 := by omega
      have nx7 : X ≠ X7 := by omega
      have HXL := Lib.hid hxl
      clear g3 hxl hxe
      have HK2 := Lib.hid (((KeepsOthers.setCell W ⟨X6, 0, none⟩ (.int .i64 xat)).from w2.heap.size).trans ((KeepsOthers.setCell (W.setCell ⟨X6, 0, none⟩ (.int .i64 xat)) ⟨X7, 0, none⟩ (.int .i64 xe)).from w2.heap.size))
      have HXV := Lib.hid (((hV2.trans H1.out).setCell (p := ⟨X6, 0, none⟩) (by show V.heap.size ≤ X6; omega) (.int .i64 xat)).setCell (p := ⟨X7, 0, none⟩) (by show V.heap.size ≤ X7; omega) (.int .i64 xe))
      have HR6 : Hid (((W.setCell ⟨X6, 0, none⟩ (.int .i64 xat)).setCell ⟨X7, 0, none⟩ (.int .i64 xe)).heap[X6]? = some (.cells #[.int .i64 xat] 3 (0, 0))) := Lib.hid ((Below.heap_setCell _ ⟨X7, 0, none⟩ _ X6 n67).trans (by rw [heap_setCell_same W X6 0 _ _ _ HB6W.out]; rfl))
      have HR7 : Hid (((W.setCell ⟨X6, 0, none⟩ (.int .i64 xat)).setCell ⟨X7, 0, none⟩ (.int .i64 xe)).heap[X7]? = some (.cells #[.int .i64 xe] 25 (0, 0))) := Lib.hid (by
        have h5 := (Below.heap_setCell W ⟨X6, 0, none⟩ (.int .i64 xat) X7 n76).trans HB7W.out
        rw [heap_setCell_same _ X7 0 _ _ _ h5]; rfl)
      have hsz : w2.heap.size ≤ ((W.setCell ⟨X6, 0, none⟩ (.int .i64 xat)).setCell ⟨X7, 0, none⟩ (.int .i64 xe)).heap.size := by simpa using hs1
      gi_region
      all_goals gi_wp2
      all_goals (refine ⟨⟨HK2.out.size, HK2.out.same⟩, rfl, HXV.out.drew, ?_, ?_, hsz⟩)
      all_goals rw [← HXL.out]
      all_goals first | exact HR6.out | exact HR7.out
  case done =>
    rintro D ys W hD rfl ⟨h1, h2⟩ hK
    exact (steps_all h2.out).elim
  case stop =>
    rintro D c pre W hD hpre ⟨rfl, h1, h6, h7, h8⟩ hK
    gi_wp2
    refine ⟨by simp, .inl ⟨_, _, rfl, run_takeDeferred hK, ?_⟩⟩
    have hab : AbI w2.heap.size X6 W (W.putObj D (.deferred none)) := AbI.putObj hD hK rfl
    have g6 : (W.putObj D (.deferred none)).cell? ⟨X6, 0, none⟩ = some (.int .i64 (lastS l top a).at_) := by
      have := (hab.below.block X6 (by omega)).trans h6
      simp [World.cell?, this]
    have g7 : (W.putObj D (.deferred none)).cell? ⟨X7, 0, none⟩ = some (.int .i64 (lastS l top a).e) := by
      have := (hab.below.block X7 (by omega)).trans h7
      simp [World.cell?, this]
    have hxx := Below.trans h1 (Below.mono hab.below (by have := hV2.size; omega))
    generalize W.putObj D (.deferred none) = W4 at *
    exact ⟨.tuple #[.int .i64 (lastS l top a).at_, .int .i64 (lastS l top a).e], (by simp only [results, Try.results14]; go_simp), (by rw [HA.out.1, HA.out.2]), hxx⟩
end Go.Proofs.Ytkcpfimhbogdcaa

/- The places of all objects of a walk: walk.List. -/
set_option linter.unusedSimpArgs false
set_option linter.unusedVariables false
namespace Go.Proofs.Ytkcpfimhbogdcaa
open Go.RowKit Go.Shelf
attribute [local go_sem] Oper.semAt_some

def placesL (pre : List Stp) : List Int := (pre.filter fun x => !x.last).map (·.at_)
theorem places_go (pre : List Stp) (x : Stp) (h : x.last = false) : placesL (pre ++ [x]) = placesL pre ++ [x.at_] := by simp [placesL, h]
theorem places_last (pre : List Stp) (x : Stp) (h : x.last = true) : placesL (pre ++ [x]) = placesL pre := by simp [placesL, h]
theorem places_len (pre : List Stp) : (placesL pre).length ≤ pre.length := by simp only [placesL, List.length_map]; exact List.length_filter_le _ _
theorem steps_len (l : Option (List Int)) (top : Int) : ∀ (n : Nat) (i : Int), (stepsF l top n i).length ≤ n + 1 := by
  intro n
  induction n with
  | zero => intro i; simp [stepsF]
  | succ n ih =>
    intro i
    rw [stepsF]
    split
    · split
      · have := ih (i + hsize (headH l i)); simp; omega
      · simp
    · simp
/-- The places of the objects of a walk. -/
def listA (l : Option (List Int)) (a s top : Int) : List Int := if stopE l a s top = 0 then placesL (stepsA l top a) else []
theorem stop_is (p : Option Addr) (l : Option (List Int)) (a s top x er : Int) (h1 : stopA l a s top = x) (h2 : stopE l a s top = er) (V : World) (hp : ArP V p l) :
    Calls Try.prog 14 #[.pointer p, .agg #[.int .i64 (a), .int .i64 (s)], .int .i64 top] V fun e w' => e = .returned (.tuple #[.int .i64 x, .int .i64 er]) ∧ Ext V w' := by
  rw [← h1, ← h2]; exact stop_any p l a s top V hp
/-- A slice of numbers and an error come back. -/
def RetIE (V : World) (zs : List Int) (er : Int) (e : Ending) (w' : World) : Prop := ∃ A1 cap1, e = .returned (.tuple #[.slice A1 zs.length cap1, .int .i64 er]) ∧ IntsAt w' A1 zs ∧ Ext V w'
/-- The same, the slice being the call's own. -/
def RetIO (V : World) (zs : List Int) (er : Int) (e : Ending) (w' : World) : Prop := ∃ A1 cap1, e = .returned (.tuple #[.slice A1 zs.length cap1, .int .i64 er]) ∧ Own 3 1 intC w' V.heap.size (.slice A1 zs.length cap1) zs ∧ Ext V w'
set_option maxRecDepth 100000
set_option maxHeartbeats 8000000
theorem list_own (p : Option Addr) (l : Option (List Int)) (a s top : Int) (V : World) (hp : ArP V p l) :
    Calls Try.prog 13 #[.pointer p, .agg #[.int .i64 (a), .int .i64 (s)], .int .i64 top] V (RetIO V (listA l a s top) (stopE l a s top)) := by
  have HP := Lib.hid hp
  have hb4 := blk_new V #[.int .i64 a, .int .i64 s] 23 _ rfl
  have hW : Ext V (V.alloc (.cells #[.int .i64 a, .int .i64 s] 23)) := (Ext.refl V).alloc _
  obtain ⟨x0, hx0⟩ : ∃ x, stopA l a s top = x := ⟨_, rfl⟩
  obtain ⟨er, her⟩ : ∃ x, stopE l a s top = x := ⟨_, rfl⟩
  have HSA := Lib.hid hx0
  have HSE := Lib.hid her
  have HLA := Lib.hid (show listA l a s top = if er = 0 then placesL (stepsA l top a) else [] by rw [listA, her])
  clear hx0 her hp
  refine (callsIn_wide (n := 5)).1 ?_
  have hro : Fence.wide.round = none := rfl
  refine callsIn_of_wp_marks Try.func13 rfl trivial ?_ hro
  simp only [Try.ntmps13, List.size_toArray, List.length_cons, List.length_nil, Nat.reduceAdd, Nat.reduceSub, Array.replicate_succ, Array.replicate_zero, List.push_toArray, List.append_toArray, List.nil_append, List.cons_append]
  gi_wp2
  generalize V.alloc (.cells #[.int .i64 a, .int .i64 s] 23) = W at *
  refine ⟨trivial, ?_⟩
  refine (callsIn_wide.2 (stop_is p l a s top x0 er HSA.out HSE.out _ (HP.out.ext hW))).mono ?_
  rintro e w1 ⟨rfl, hx⟩
  have b4 := (hx.block (lt_of_heap hb4)).trans hb4
  have c0 : w1.cell? ⟨V.heap.size, 0, none⟩ = some (.int .i64 a) := by simp [World.cell?, b4]
  have c1 : w1.cell? ⟨V.heap.size, 1, none⟩ = some (.int .i64 s) := by simp [World.cell?, b4]
  have hlt4 := lt_of_heap b4
  have HXV := Lib.hid (hW.trans hx)
  clear hx hb4 hW b4
  by_cases h0 : er = 0
  rotate_left
  · have hne : (er != 0) = true := by simpa using h0
    have HL0 := Lib.hid (HLA.out.trans (if_neg h0))
    clear h0 HLA
    gi_wp2
    exact ⟨.tuple #[.slice none 0 0, .int .i64 er], (by simp only [results, Try.results13]; go_simp), by rw [HSE.out, HL0.out]; exact ⟨none, 0, rfl, Own.nil _ _ _ _ _, HXV.out⟩⟩
  subst h0
  have HL0 := Lib.hid (HLA.out.trans (if_pos rfl))
  clear HLA
  have hk : wkB a s top = true := by
    have := HSE.out
    cases h : wkB a s top
    · rw [stopE, h] at this; simp at this
    · rfl
  obtain ⟨hm, ht⟩ : mayB a s = true ∧ (a ≤ top ∧ top ≤ a + s) := by simpa [wkB] using hk
  obtain ⟨m1, m2, m3, m4⟩ := may_bd hm
  obtain ⟨t1, t2⟩ := ht
  clear hk hm
  gi_wp2_with (refine ⟨trivial, ?_⟩; gi_at_call 64; refine (callsIn_wide.2 (walk_any _ _ _ _ _)).mono ?_; rintro e w' ⟨rfl, rfl⟩)
  have eC := blk_old (o2 := .cells #[.int .i64 top] 3) (blk_old (o2 := .cells #[.int .i64 a, .int .i64 s] 23) (blk_old (o2 := .cells #[.pointer p] 34) (blk_new w1 #[.slice none 0 0] 24 _ rfl)))
  have e0 := blk_old (o2 := .cells #[.int .i64 top] 3) (blk_old (o2 := .cells #[.int .i64 a, .int .i64 s] 23) (blk_new (w1.alloc (.cells #[.slice none 0 0] 24)) #[.pointer p] 34 (w1.heap.size + 1) (by simp)))
  have e1 := blk_old (o2 := .cells #[.int .i64 top] 3) (blk_new ((w1.alloc (.cells #[.slice none 0 0] 24)).alloc (.cells #[.pointer p] 34)) #[.int .i64 a, .int .i64 s] 23 (w1.heap.size + 1 + 1) (by simp))
  have e2 := blk_new (((w1.alloc (.cells #[.slice none 0 0] 24)).alloc (.cells #[.pointer p] 34)).alloc (.cells #[.int .i64 a, .int .i64 s] 23)) #[.int .i64 top] 3 (w1.heap.size + 1 + 2) (by simp)
  have hx2 : Ext w1 ((((w1.alloc (.cells #[.slice none 0 0] 24)).alloc (.cells #[.pointer p] 34)).alloc (.cells #[.int .i64 a, .int .i64 s] 23)).alloc (.cells #[.int .i64 top] 3)) := ((((Ext.refl w1).alloc _).alloc _).alloc _).alloc _
  generalize (((w1.alloc (.cells #[.slice none 0 0] 24)).alloc (.cells #[.pointer p] 34)).alloc (.cells #[.int .i64 a, .int .i64 s] 23)).alloc (.cells #[.int .i64 top] 3) = w2 at *
  have hV2 : Ext V w2 := HXV.out.trans hx2
  have hvc : V.heap.size < w1.heap.size := hlt4
  have hlC := lt_of_heap eC
  have hl0 := lt_of_heap e0
  have hl1 := lt_of_heap e1
  have hl2 := lt_of_heap e2
  generalize w1.heap.size = C at *
  have hnl : ∀ b, ¬ Led w2 C b := fun b ⟨n, c, h⟩ => by simp [World.cell?, eC] at h
  have HLN : Hid ((stepsA l top a).length ≤ 1099511627777) := Lib.hid (by have := steps_len l top (top - a).toNat a; unfold stepsA; omega)
  clear c0 c1
  refine wpIn_rangeK (gf := 118) (lb := #[.pointer (some ⟨C + 1 + 1, 0, none⟩), .pointer (some ⟨C + 1 + 2, 0, none⟩), .pointer (some ⟨C + 1, 0, none⟩)]) rfl (enters_of Try.func118 (by kernel_rfl) rfl)
    (walk1_stops V.heap.size (C + 1 + 1) (C + 1 + 2) (C + 1) C p l a s top w2 hl1 hl2 hl0 (by simp [World.cell?, e1]) (by simp [World.cell?, e2]) (by simp [World.cell?, e0]) (fun W' hb => HP.out.ext (Below.trans hV2 hb)) (by omega) m1 t1 (by omega) hlC hnl)
    (fun k hk => by rcases hk with rfl | rfl | rfl <;> omega) (by omega) (fun _ => rfl)
    (fun pre W => (∃ v, CollG 3 1 intC w2.heap.size C 24 (placesL pre) W v) ∧ Ext V W ∧ w2.heap.size ≤ W.heap.size) (fun _ _ _ => False)
    (fun s A B h hab => ⟨h.1.imp fun v hv => hv.abI (by omega) hab, Below.trans h.2.1 (Below.mono hab.below (by omega)), Nat.le_trans h.2.2 hab.below.size⟩)
    (fun _ _ _ _ h _ => h)
    ⟨⟨_, eC, Own.nil _ _ _ _ _⟩, hV2, Nat.le_refl _⟩
    (fun pre x a' W => (∃ v, CollG 3 1 intC w2.heap.size C 24 (placesL pre) W v) ∧ Ext V W ∧ ∃ X, w2.heap.size ≤ X ∧ W.heap[X]? = some (.cells #[.int .i64 x.at_, .int .i64 x.h.k, .int .i64 x.h.f, .int .i64 x.h.r, .bool x.h.m, .int .i64 x.h.c, .int .i64 x.e, .bool x.last] 119 (0, 0)) ∧
      a' = { tmps := #[.pointer p, .agg #[.int .i64 a, .int .i64 s], .int .i64 top, undef, .pointer (some ⟨V.heap.size, 0, none⟩), undef, .slice none 0 0, .int .i64 0, .int .i64 x0, .int .i64 0, .pointer (some ⟨C, 0, none⟩), .pointer (some ⟨X, 0, none⟩), .tuple #[.int .i64 x0, .int .i64 0], .pointer p, .agg #[.int .i64 a, .int .i64 s], .int .i64 top, .tuple #[.int .i64 x0, .int .i64 0], .int .i64 x0, .int .i64 0, .int .i64 0, .bool false, undef, .pointer p, .agg #[.int .i64 a, .int .i64 s], .int .i64 top, .func (.func 118) #[] #[.pointer (some ⟨C + 1 + 1, 0, none⟩), .pointer (some ⟨C + 1 + 2, 0, none⟩), .pointer (some ⟨C + 1, 0, none⟩)], .agg #[.int .i64 x.at_, .int .i64 x.h.k, .int .i64 x.h.f, .int .i64 x.h.r, .bool x.h.m, .int .i64 x.h.c, .int .i64 x.e, .bool x.last], undef, undef, undef, undef, undef, undef, undef, undef, undef], defers := [] })
    ?hax ?assign ?body ?done ?stop
  case hax =>
    rintro pre x a' A B ⟨⟨v, hv⟩, hE, X, hX, hbX, rfl⟩ hb hk
    exact ⟨⟨v, hv.keep (by omega) hk⟩, Below.trans hE (Below.mono hb (by omega)), X, hX, hk X _ hbX rfl, rfl⟩
  case assign =>
    rintro lq pre x W K ⟨⟨v, hv⟩, hE, hS⟩ hK
    have hsz := Ext.size hE
    have HV := Lib.hid hv
    have HE := Lib.hid hE
    clear hv hE
    gi_wp2
    exact hK _ _ ⟨⟨v, HV.out.ext ((Ext.refl W).alloc _)⟩, HE.out.alloc _, W.heap.size, hS, World.alloc_heap_new _ _, rfl⟩ ((KeepsOthers.alloc _ _).from _) (KpX.ext ((Ext.refl W).alloc _) (by omega) (by omega))
  case body =>
    rintro lq pre x a' W ⟨⟨v, hv⟩, hE, X, hX, hbX, rfl⟩ hgd
    have hlen : (placesL pre).length ≤ 1099511627777 := by
      have h1 := hgd.length_le
      have h2 := places_len pre
      have h3 := HLN.out
      simp only [List.length_append] at h1
      omega
    have hltX := lt_of_heap hbX
    have hsz := Ext.size hE
    have HV := Lib.hid hv
    have HE := Lib.hid hE
    obtain ⟨xat, xh, xe, xl⟩ := x
    have g3 : W.cell? ⟨X, 7, none⟩ = some (.bool xl) := by simp [World.cell?, hbX]
    have g0 : W.cell? ⟨X, 0, none⟩ = some (.int .i64 xat) := by simp [World.cell?, hbX]
    obtain ⟨c1, c2⟩ := hv.cell
    clear hv hE hbX hgd
    cases xl
    · have HPG := Lib.hid (places_go pre ⟨xat, xh, xe, false⟩ rfl)
      gi_wp2_with (gi_at_builtin; refine wpListIn_app_lit rfl (.tmp 30) (.tmp 33) 24 rfl intInfo intCells rfl (by exact HV.out.own) [xat] 1 _ rfl ((placesL pre).length + 1) 1 (by simp) rfl W.heap.size rfl rfl (by omega) (by simp [maxLen]; omega) (by omega) ?_; intro A1 cap1 w3 hown1 hgr1 hat1; obtain ⟨⟨d1, d2⟩, hc2, hk2, hf2, hot⟩ := CollG.app (HV.out.ext ((Ext.refl W).alloc _)) (by omega) (nV := V.heap.size) (by omega) (by simp; omega) (H := W.heap.size + 1) (by simp) hown1 hgr1 hat1; have HC2 := Lib.hid hc2; have HK2 := Lib.hid hk2; have HF2 := Lib.hid hf2; have HOT := Lib.hid hot; clear hown1 hgr1 hat1 hc2 hk2 hf2 hot)
      have hk0 : Kp V.heap.size w2.heap.size C W (W.alloc (.cells #[.int .i64 xat] 3)) := Kp.ext ((Below.refl _ W).alloc (Nat.le_refl _) _) (by omega) (by omega)
      refine ⟨KeepsFrom.trans ((KeepsOthers.alloc _ _).from _) HF2.out, ⟨hk0.trans HK2.out, fun k o hk ho => ?_⟩, ⟨_, by rw [HPG.out]; exact HC2.out⟩, Below.trans HE.out (hk0.trans HK2.out).below, by have := (hk0.trans HK2.out).below.size; omega⟩
      have hkl : k < w2.heap.size ∧ k ≠ C := by rcases hk with rfl | rfl | rfl <;> omega
      have h1 : (W.alloc (.cells #[.int .i64 xat] 3)).heap[k]? = some o := blk_old ho
      exact (HOT.out k (lt_of_heap h1) hkl.2 (fun e => by have := (World.ownsRow.lt HV.out.own k e).1; omega)).trans h1
    · have HPG := Lib.hid (places_last pre ⟨xat, xh, xe, true⟩ rfl)
      gi_wp2
      exact ⟨keeps_ext (Ext.refl _), KpX.ext (Ext.refl _) (by omega) (by omega), ⟨v, by rw [HPG.out]; exact HV.out⟩, HE.out, by omega⟩
  case done =>
    rintro D ys W hD rfl ⟨⟨v, hv⟩, hE, hS⟩ hK
    obtain ⟨c1, c2⟩ := hv.cell
    have HV := Lib.hid hv
    have HE := Lib.hid hE
    clear hv hE
    gi_wp2
    refine ⟨by simp, .inl ⟨_, _, rfl, run_takeDeferred hK, ?_⟩⟩
    have hab : AbI w2.heap.size C W (W.putObj D (.deferred none)) := AbI.putObj hD hK rfl
    have hcf := HV.out.abI (by omega) hab
    have hEE := Below.trans HE.out (Below.mono hab.below (by omega))
    obtain ⟨A1, cap1, rfl, -⟩ := hcf.own.form intCells (by decide)
    have hrow := hcf.own.mono (B' := V.heap.size) (by omega)
    exact ⟨.tuple #[.slice A1 (placesL (stepsA l top a)).length cap1, .int .i64 0], (by simp only [results, Try.results13]; go_simp), by rw [HL0.out, HSE.out]; exact ⟨A1, cap1, rfl, hrow, hEE⟩⟩
  case stop =>
    rintro D c pre W _ _ h _
    exact h.elim
theorem list_any (p : Option Addr) (l : Option (List Int)) (a s top : Int) (V : World) (hp : ArP V p l) :
    Calls Try.prog 13 #[.pointer p, .agg #[.int .i64 (a), .int .i64 (s)], .int .i64 top] V (RetIE V (listA l a s top) (stopE l a s top)) := by
  refine (list_own p l a s top V hp).mono ?_
  rintro e w' ⟨A1, cap1, rfl, ho, hx⟩
  exact ⟨A1, cap1, rfl, (own_row ho intCells (by decide)).1, hx⟩
theorem listO_is (p : Option Addr) (l : Option (List Int)) (a s top er : Int) (zs : List Int) (h1 : listA l a s top = zs) (h2 : stopE l a s top = er) (V : World) (hp : ArP V p l) :
    Calls Try.prog 13 #[.pointer p, .agg #[.int .i64 (a), .int .i64 (s)], .int .i64 top] V (RetIO V zs er) := by
  have := list_own p l a s top V hp
  rwa [h1, h2] at this
end Go.Proofs.Ytkcpfimhbogdcaa

/- The reference's Walk. -/
set_option linter.unusedSimpArgs false
set_option linter.unusedVariables false
namespace Go.Proofs.Ytkcpfimhbogdcaa
open Go.RowKit Go.Shelf

theorem refmayS_is (a s : Int) (b : Bool) (h : mayB a s = b) (w : World) : Calls Try.prog 67 #[.agg #[.int .i64 (a), .int .i64 (s)]] w fun e w' => e = .returned (.bool b) ∧ Ext w w' := by
  rw [← h]; exact refmay_any a s w
theorem refhead_is (A : Option Addr) (cap : Nat) (ws : List Int) (i er : Int) (h : Hd) (h1 : headE (some ws) i = er) (h2 : headH (some ws) i = h) (V : World) (hl : WordsAt V A ws) (hlen : ws.length ≤ 98304) (hbd : ∀ z ∈ ws, 0 ≤ z ∧ z < 18446744073709551616) (hi : -9223372036854775808 ≤ i ∧ i ≤ 9223372036854775807) :
    Calls Try.prog 68 #[.slice A ws.length cap, .int .i64 i] V fun e w' => e = .returned (.tuple #[.agg #[.int .i64 h.k, .int .i64 h.f, .int .i64 h.r, .bool h.m, .int .i64 h.c], .int .i64 er]) ∧ Ext V w' := by
  rw [← h1, ← h2]; exact refhead_any A cap ws i V hl hlen hbd hi
/-- What a walk has met ahead of a place. -/
def MetW (l : Option (List Int)) (a top : Int) (out : List Int) (i : Int) : Prop := placesL (stepsA l top a) = out ++ placesL (stepsA l top i) ∧ lastS l top a = lastS l top i ∧ a ≤ i ∧ i ≤ top ∧ (out.length : Int) ≤ i - a
theorem MetW.start {l : Option (List Int)} {a top : Int} (h : a ≤ top) : MetW l a top [] a := ⟨rfl, rfl, Int.le_refl _, h, by simp⟩
theorem MetW.go {l : Option (List Int)} {a top i : Int} {out : List Int} (h : MetW l a top out i) (hi : i < top) (h2 : wkE l top i = 0) (hle : i + hsize (headH l i) ≤ top) : MetW l a top (out ++ [i]) (i + hsize (headH l i)) := by
  obtain ⟨h3, h4, h5, h6, h7⟩ := h
  have hg := steps_go hi h2
  have := head_size (wkE_head h2).1
  obtain ⟨pre, x, e1, -, -, -⟩ := steps_last l top _ (i + hsize (headH l i)) (Nat.le_refl _)
  refine ⟨?_, ?_, by omega, hle, by simp; omega⟩
  · rw [h3, hg]; simp [placesL]
  · rw [h4, lastS, lastS, hg, e1, ← List.cons_append]
    simp only [List.getLastD_eq_getLast?, List.getLast?_append, List.getLast?_singleton, Option.some_or, Option.getD_some]
theorem MetW.stop {l : Option (List Int)} {a top i : Int} {out : List Int} (h : MetW l a top out i) (hi : ¬ i < top) : placesL (stepsA l top a) = out ∧ lastS l top a = ⟨i, hd0, 0, true⟩ ∧ i = top := by
  obtain ⟨h3, h4, h5, h6, h7⟩ := h
  have he := steps_end (l := l) hi
  exact ⟨by rw [h3, he]; simp [placesL], by rw [h4, lastS, he]; rfl, by omega⟩
theorem MetW.err {l : Option (List Int)} {a top i : Int} {out : List Int} (h : MetW l a top out i) (hi : i < top) (h2 : wkE l top i ≠ 0) : lastS l top a = ⟨i, hd0, wkE l top i, true⟩ := by
  rw [h.2.1, lastS, steps_err hi h2]; rfl
/-- What comes back. -/
def RetWk (V : World) (zs : List Int) (x er : Int) (e : Ending) (w' : World) : Prop := ∃ A1 cap1, e = .returned (.tuple #[.slice A1 zs.length cap1, .int .i64 x, .int .i64 er]) ∧ IntsAt w' A1 zs ∧ Ext V w'
set_option maxRecDepth 100000
set_option maxHeartbeats 2000000
theorem refwalk_any (A : Option Addr) (cap : Nat) (ws : List Int) (a s top : Int) (V : World) (hl : WordsAt V A ws) (hlen : ws.length ≤ 98304) (hbd : ∀ z ∈ ws, 0 ≤ z ∧ z < 18446744073709551616) :
    Calls Try.prog 18 #[.slice A ws.length cap, .agg #[.int .i64 (a), .int .i64 (s)], .int .i64 top] V (RetWk V (listA (some ws) a s top) (stopA (some ws) a s top) (stopE (some ws) a s top)) := by
  have HL := Lib.hid hl
  have HLN := Lib.hid hlen
  have HBD := Lib.hid hbd
  have hb5 := blk_new V #[.int .i64 a, .int .i64 s] 23 _ rfl
  have HX := Lib.hid ((Ext.refl V).alloc (.cells #[.int .i64 a, .int .i64 s] 23))
  have HB5 := Lib.hid hb5
  obtain ⟨b, hb⟩ : ∃ b, mayB a s = b := ⟨_, rfl⟩
  have HB := Lib.hid hb
  clear hl hlen hbd hb5 hb
  go_enter Try.func18, Try.ntmps18
  go_wp2_with fail
  generalize V.alloc (.cells #[.int .i64 a, .int .i64 s] 23) = w4 at *
  refine (refmayS_is a s b HB.out w4).mono ?_
  rintro e w1 ⟨rfl, hx⟩
  have HX1 := Lib.hid (HX.out.trans hx)
  have HB6 := Lib.hid ((hx.block (lt_of_heap HB5.out)).trans HB5.out)
  clear hx HX HB5
  have g0 : w1.cell? ⟨V.heap.size, 0, none⟩ = some (.int .i64 a) := by simp [World.cell?, HB6.out]
  have g1 : w1.cell? ⟨V.heap.size, 1, none⟩ = some (.int .i64 s) := by simp [World.cell?, HB6.out]
  by_cases hk : wkB a s top = true
  rotate_left
  · have hk' : wkB a s top = false := by simpa using hk
    have h1 : stopE (some ws) a s top = 1 := by rw [stopE, hk']; rfl
    have HR : Hid (listA (some ws) a s top = [] ∧ stopE (some ws) a s top = 1 ∧ stopA (some ws) a s top = 0) := Lib.hid ⟨by rw [listA, h1]; rfl, h1, by rw [stopA, hk']; rfl⟩
    have HRET : Hid (∀ w', Ext V w' → RetWk V (listA (some ws) a s top) (stopA (some ws) a s top) (stopE (some ws) a s top) (.returned (.tuple #[.slice none 0 0, .int .i64 0, .int .i64 1])) w') := Lib.hid (fun w' hw => by
      rw [HR.out.1, HR.out.2.1, HR.out.2.2]
      exact ⟨none, 0, rfl, RowAt.none _ _ _, hw⟩)
    cases b
    · clear hk hk' h1
      go_wp2_with fail
      ((try simp only [Exit.inBlock, Exit.then]); refine bodyPost_ret (v := .tuple #[.slice none 0 0, .int .i64 0, .int .i64 1]) (by simp only [results, Try.results18]; go_simp) rfl ?_)
      exact HRET.out _ HX1.out
    · obtain ⟨m1, m2, m3, m4⟩ := may_bd HB.out
      have hw : wrap64 (a + s) = a + s := IntWalk.wrap64_in _ ⟨by omega, by omega⟩
      by_cases h2 : top < a
      · have d1 : decide (top < a) = true := by simpa using h2
        clear hk hk' h1
        go_wp2_with fail
        ((try simp only [Exit.inBlock, Exit.then]); refine bodyPost_ret (v := .tuple #[.slice none 0 0, .int .i64 0, .int .i64 1]) (by simp only [results, Try.results18]; go_simp) rfl ?_)
        exact HRET.out _ HX1.out
      · have d1 : decide (top < a) = false := by simpa using h2
        have d2 : decide (a + s < top) = true := by
          have := HB.out
          simp only [wkB, this, Bool.true_and, decide_eq_false_iff_not] at hk'
          simp only [decide_eq_true_eq]
          omega
        clear hk hk' h1
        go_wp2_with fail
        ((try simp only [Exit.inBlock, Exit.then]); refine bodyPost_ret (v := .tuple #[.slice none 0 0, .int .i64 0, .int .i64 1]) (by simp only [results, Try.results18]; go_simp) rfl ?_)
        exact HRET.out _ HX1.out
  obtain rfl : b = true := by
    have := HB.out
    unfold wkB at hk
    rw [this] at hk
    cases b
    · simp at hk
    · rfl
  obtain ⟨m1, m2, m3, m4⟩ := may_bd HB.out
  have hw : wrap64 (a + s) = a + s := IntWalk.wrap64_in _ ⟨by omega, by omega⟩
  obtain ⟨t1, t2⟩ : a ≤ top ∧ top ≤ a + s := by simpa [wkB, HB.out] using hk
  have d1 : decide (top < a) = false := by simp; omega
  have d2 : decide (a + s < top) = false := by simp; omega
  have HK := Lib.hid hk
  clear hk
  have HSA : Hid (stopA (some ws) a s top = (lastS (some ws) top a).at_ ∧ stopE (some ws) a s top = (lastS (some ws) top a).e) := Lib.hid (by rw [stopA, stopE, HK.out]; exact ⟨rfl, rfl⟩)
  have HLS : Hid (listA (some ws) a s top = if (lastS (some ws) top a).e = 0 then placesL (stepsA (some ws) top a) else []) := Lib.hid (by rw [listA, HSA.out.2])
  go_wp2_with fail
  go_loopw [9, 10, 11, 12, 13] (fun v j _ _ _ wr => ∃ (A1 : Option Addr) (cap1 m : Nat) (out : List Int) (i : Int), v = .slice A1 m cap1 ∧ j = .int .i64 i ∧ Hid (out.length = m) ∧ Hid (Own 3 1 intC wr V.heap.size (.slice A1 m cap1) out) ∧ Hid (MetW (some ws) a top out i) ∧ Hid (Ext V wr)) (fun _ j _ _ _ _ => (top - intOf j).toNat)
  case atStart => exact ⟨none, 0, 0, [], a, rfl, rfl, Lib.hid rfl, Lib.hid (Own.nil _ _ _ _ _), Lib.hid (MetW.start t1), HX1⟩
  case round =>
    obtain ⟨A1, cap1, m, out, i, rfl, rfl, HM, HO, HMW, HXR⟩ := hrel
    have hib : a ≤ i ∧ i ≤ top ∧ (m : Int) ≤ i - a := by
      have h := HMW.out
      have h2 := HM.out
      exact ⟨h.2.2.1, h.2.2.2.1, by rw [← h2]; exact h.2.2.2.2⟩
    obtain ⟨hi1, hi2, hi3⟩ := hib
    clear g0 g1 hw d1 d2 HX1 HB6
    by_cases hlt : i < top
    rotate_left
    · have d3 : decide (i < top) = false := by simpa using hlt
      obtain ⟨e1, e2, rfl⟩ := HMW.out.stop hlt
      have HRET : Hid (RetWk V (listA (some ws) a s i) (stopA (some ws) a s i) (stopE (some ws) a s i) (.returned (.tuple #[.slice A1 m cap1, .int .i64 i, .int .i64 0])) wr) := Lib.hid (by
        rw [HLS.out, HSA.out.1, HSA.out.2, e2, e1]
        obtain ⟨A2, cap2, hv, hrow, -⟩ := HO.out.form intCells (by decide)
        injection hv with h1 h2 h3
        subst h1 h3
        exact ⟨A1, cap1, by rw [if_pos rfl, HM.out], hrow, HXR.out⟩)
      clear e1 e2 hlt
      go_wp2_with fail
      ((try simp only [Exit.inBlock, Exit.then]); refine bodyPost_ret (v := .tuple #[.slice A1 m cap1, .int .i64 i, .int .i64 0]) (by simp only [results, Try.results18]; go_simp) rfl ?_)
      exact HRET.out
    have d3 : decide (i < top) = true := by simpa using hlt
    obtain ⟨er, her⟩ : ∃ e, headE (some ws) i = e := ⟨_, rfl⟩
    obtain ⟨h, hh⟩ : ∃ h, headH (some ws) i = h := ⟨_, rfl⟩
    obtain ⟨n, hn⟩ : ∃ n, hsize h = n := ⟨_, rfl⟩
    have HER := Lib.hid her
    have HH := Lib.hid hh
    have HN := Lib.hid hn
    have hnb := hsize_bd h
    rw [hn] at hnb
    have HWK : Hid (wkE (some ws) top i = if er = 0 then (if top - i < n then 2 else 0) else er) := Lib.hid (by rw [wkE, her, hh, hn])
    have HLT := Lib.hid hlt
    have HEE : Hid (∀ x, wkE (some ws) top i = x → x ≠ 0 → ∀ w', Ext V w' → RetWk V (listA (some ws) a s top) (stopA (some ws) a s top) (stopE (some ws) a s top) (.returned (.tuple #[.slice none 0 0, .int .i64 i, .int .i64 x])) w') := Lib.hid (fun x hx h0 w' hw' => by
      have e := HMW.out.err HLT.out (by rw [hx]; exact h0)
      rw [HLS.out, HSA.out.1, HSA.out.2, e, hx, if_neg h0]
      exact ⟨none, 0, rfl, RowAt.none _ _ _, hw'⟩)
    clear her hh hn hlt
    go_wp2_with fail
    have Z := refhead_is A cap ws i er h HER.out HH.out wr (HL.out.ext HXR.out) HLN.out HBD.out ⟨by omega, by omega⟩
    refine Z.mono ?_
    clear Z
    rintro e w2 ⟨rfl, hx⟩
    have HX2 := Lib.hid (HXR.out.trans hx)
    have HO2 := Lib.hid (HO.out.ext hx)
    clear hx HXR HO
    by_cases h0 : er = 0
    rotate_left
    · have hne : (er != 0) = true := by simpa using h0
      have HR := Lib.hid (HEE.out er (HWK.out.trans (if_neg h0)) h0)
      clear h0
      go_wp2_with fail
      ((try simp only [Exit.inBlock, Exit.then]); refine bodyPost_ret (v := .tuple #[.slice none 0 0, .int .i64 i, .int .i64 er]) (by simp only [results, Try.results18]; go_simp) rfl ?_)
      exact HR.out _ (HX2.out.alloc _)
    subst h0
    have HW2 : Hid (wkE (some ws) top i = if top - i < n then 2 else 0) := Lib.hid (HWK.out.trans (if_pos rfl))
    have HBH := Lib.hid (blk_new w2 #[.int .i64 h.k, .int .i64 h.f, .int .i64 h.r, .bool h.m, .int .i64 h.c] 47 _ rfl)
    have HX3 := Lib.hid (HX2.out.alloc (.cells #[.int .i64 h.k, .int .i64 h.f, .int .i64 h.r, .bool h.m, .int .i64 h.c] 47))
    have HO3 := Lib.hid (HO2.out.ext ((Ext.refl w2).alloc (.cells #[.int .i64 h.k, .int .i64 h.f, .int .i64 h.r, .bool h.m, .int .i64 h.c] 47)))
    clear HWK HX2 HO2
    go_wp2_with fail
    generalize w2.alloc (.cells #[.int .i64 h.k, .int .i64 h.f, .int .i64 h.r, .bool h.m, .int .i64 h.c] 47) = w3 at *
    generalize w2.heap.size = X at *
    have Z := refhsize_is h n HN.out w3
    refine Z.mono ?_
    clear Z
    rintro e w5 ⟨rfl, hx⟩
    have HX5 := Lib.hid (HX3.out.trans hx)
    have HO5 := Lib.hid (HO3.out.ext hx)
    clear hx HX3 HO3 HBH
    have hw : wrap64 (i + n) = i + n := IntWalk.wrap64_in _ ⟨by omega, by omega⟩
    by_cases hs : top - i < n
    · have d5 : decide (top < i + n) = true := by simp; omega
      have HR := Lib.hid (HEE.out 2 (HW2.out.trans (if_pos hs)) (by decide))
      clear hs
      go_wp2_with fail
      ((try simp only [Exit.inBlock, Exit.then]); refine bodyPost_ret (v := .tuple #[.slice none 0 0, .int .i64 i, .int .i64 2]) (by simp only [results, Try.results18]; go_simp) rfl ?_)
      exact HR.out _ HX5.out
    · have d5 : decide (top < i + n) = false := by simp; omega
      have hle : i + n ≤ top := by omega
      have HMG : Hid (MetW (some ws) a top (out ++ [i]) (i + n)) := Lib.hid (by
        have h1 := HMW.out.go HLT.out (HW2.out.trans (if_neg hs))
        rw [HH.out, HN.out] at h1
        exact h1 hle)
      have hn1 : 1 ≤ n := by
        have h1 := HMG.out.2.2.2.2
        have h2 := head_size HER.out
        rw [HH.out, HN.out] at h2
        exact h2.1
      have hsz5 := Ext.size HX5.out
      clear hs HEE HW2
      go_wp2_with (at_builtin; refine wpList_app_lit rfl (.tmp 55) (.tmp 57) 24 rfl intInfo intCells rfl (by exact HO5.out) [i] 1 _ rfl (m + 1) 1 (by rw [HM.out]; rfl) rfl _ rfl (by first | rfl | simp) (by omega) (by simp [maxLen]; try omega) (by exact hsz5) ?_; intro A4 cap4 w6 hown4 hgr4 hat4; have HO6 := Lib.hid hown4; have HX6 : Hid (Ext V w6) := Lib.hid (Own.below HO5.out (Below.alloc HX5.out (by exact hsz5) _) hgr4 (by simp; omega)); clear hown4 hgr4 hat4)
      go_roundw
      case rel => exact ⟨A4, cap4, m + 1, out ++ [i], i + n, rfl, rfl, Lib.hid (by rw [List.length_append, HM.out]; rfl), HO6, HMG, HX6⟩
      case measure => simp [intOf]; omega
end Go.Proofs.Ytkcpfimhbogdcaa

/- How many objects, words and fields a walk has: walk.Sums. -/
set_option linter.unusedSimpArgs false
set_option linter.unusedVariables false
namespace Go.Proofs.Ytkcpfimhbogdcaa
open Go.RowKit Go.Shelf
attribute [local go_sem] Oper.semAt_some

def sumsP (pre : List Stp) : Int × Int × Int := pre.foldl (fun (t : Int × Int × Int) x => (wrap64 (t.1 + 1), wrap64 (t.2.1 + hsize x.h), wrap64 (t.2.2 + x.h.f))) (0, 0, 0)
theorem sumsP_snoc (pre : List Stp) (x : Stp) : sumsP (pre ++ [x]) = (wrap64 ((sumsP pre).1 + 1), wrap64 ((sumsP pre).2.1 + hsize x.h), wrap64 ((sumsP pre).2.2 + x.h.f)) := by simp [sumsP]
/-- The sums of a walk. -/
def wsumA (l : Option (List Int)) (a s top : Int) : Int × Int × Int := if stopE l a s top = 0 then sumsP ((stepsA l top a).filter fun x => !x.last) else (0, 0, 0)
theorem filter_pre {l : Option (List Int)} {top i : Int} {pre : List Stp} {x : Stp} (h : pre ++ [x] <+: stepsA l top i) (hp : ∀ y ∈ pre, y.last = false) (hx : x.last = true) : (stepsA l top i).filter (fun x => !x.last) = pre := by
  rw [← (steps_pre h hx).2, List.filter_append]
  rw [List.filter_eq_self.2 (fun y hy => by simp [hp y hy])]
  simp [hx]
/-- The three counters. -/
structure SumI (C : Nat) (t : Int × Int × Int) (W : World) : Prop where
  a : W.heap[C]? = some (.cells #[.int .i64 t.1] 3 (0, 0))
  b : W.heap[C + 1]? = some (.cells #[.int .i64 t.2.1] 3 (0, 0))
  c : W.heap[C + 2]? = some (.cells #[.int .i64 t.2.2] 3 (0, 0))
theorem SumI.below {C n : Nat} {t : Int × Int × Int} {A B : World} (h : SumI C t A) (hb : Below n A B) (hC : C + 2 < n) : SumI C t B := ⟨(hb.block _ (by omega)).trans h.a, (hb.block _ (by omega)).trans h.b, (hb.block _ hC).trans h.c⟩
theorem SumI.keep {C : Nat} {t : Int × Int × Int} {A B : World} (h : SumI C t A) (hk : ∀ (k : Nat) (o : Obj), A.heap[k]? = some o → o.isCells = true → B.heap[k]? = some o) : SumI C t B := ⟨hk _ _ h.a rfl, hk _ _ h.b rfl, hk _ _ h.c rfl⟩
theorem SumI.ext {C : Nat} {t : Int × Int × Int} {A B : World} (h : SumI C t A) (hx : Ext A B) : SumI C t B := ⟨(hx.block (lt_of_heap h.a)).trans h.a, (hx.block (lt_of_heap h.b)).trans h.b, (hx.block (lt_of_heap h.c)).trans h.c⟩
theorem set1 {W : World} {k : Nat} {v u : Value} {t : TypeId} (h : W.heap[k]? = some (.cells #[v] t (0, 0))) : (W.setCell ⟨k, 0, none⟩ u).heap[k]? = some (.cells #[u] t (0, 0)) := by
  rw [heap_setCell_same W k 0 _ _ _ h]; rfl
theorem SumI.setA {C : Nat} {t : Int × Int × Int} {A : World} (h : SumI C t A) (z : Int) : SumI C (z, t.2.1, t.2.2) (A.setCell ⟨C, 0, none⟩ (.int .i64 z)) :=
  ⟨set1 h.a, (Below.heap_setCell A ⟨C, 0, none⟩ _ (C + 1) (by simp)).trans h.b, (Below.heap_setCell A ⟨C, 0, none⟩ _ (C + 2) (by simp)).trans h.c⟩
theorem SumI.setB {C : Nat} {t : Int × Int × Int} {A : World} (h : SumI C t A) (z : Int) : SumI C (t.1, z, t.2.2) (A.setCell ⟨C + 1, 0, none⟩ (.int .i64 z)) :=
  ⟨(Below.heap_setCell A ⟨C + 1, 0, none⟩ _ C (by simp)).trans h.a, set1 h.b, (Below.heap_setCell A ⟨C + 1, 0, none⟩ _ (C + 2) (by simp)).trans h.c⟩
theorem SumI.setC {C : Nat} {t : Int × Int × Int} {A : World} (h : SumI C t A) (z : Int) : SumI C (t.1, t.2.1, z) (A.setCell ⟨C + 2, 0, none⟩ (.int .i64 z)) :=
  ⟨(Below.heap_setCell A ⟨C + 2, 0, none⟩ _ C (by simp)).trans h.a, (Below.heap_setCell A ⟨C + 2, 0, none⟩ _ (C + 1) (by simp)).trans h.b, set1 h.c⟩
theorem KpX.setLow {K : Nat → Prop} {nV n0 Bout k i : Nat} {A : World} {u : Value} (hV : nV ≤ k) (hk : k < n0) (hB : Bout ≠ k) (hK : ∀ j, K j → j ≠ k) : KpX K nV n0 Bout A (A.setCell ⟨k, i, none⟩ u) :=
  ⟨Kp.setLow hV hk hB, fun j o hj ho => (Below.heap_setCell A ⟨k, i, none⟩ u j (hK j hj)).trans ho⟩
set_option maxRecDepth 100000
set_option maxHeartbeats 8000000
theorem wsums_any (p : Option Addr) (l : Option (List Int)) (a s top : Int) (V : World) (hp : ArP V p l) :
    Calls Try.prog 19 #[.pointer p, .agg #[.int .i64 (a), .int .i64 (s)], .int .i64 top] V fun e w' => e = .returned (.tuple #[.int .i64 (wsumA l a s top).1, .int .i64 (wsumA l a s top).2.1, .int .i64 (wsumA l a s top).2.2, .int .i64 (stopE l a s top)]) ∧ Ext V w' := by
  have HP := Lib.hid hp
  have hb4 := blk_new V #[.int .i64 a, .int .i64 s] 23 _ rfl
  have hW : Ext V (V.alloc (.cells #[.int .i64 a, .int .i64 s] 23)) := (Ext.refl V).alloc _
  obtain ⟨x0, hx0⟩ : ∃ x, stopA l a s top = x := ⟨_, rfl⟩
  obtain ⟨er, her⟩ : ∃ x, stopE l a s top = x := ⟨_, rfl⟩
  have HSA := Lib.hid hx0
  have HSE := Lib.hid her
  have HLA := Lib.hid (show wsumA l a s top = if er = 0 then sumsP ((stepsA l top a).filter fun x => !x.last) else (0, 0, 0) by rw [wsumA, her])
  clear hx0 her hp
  refine (callsIn_wide (n := 5)).1 ?_
  have hro : Fence.wide.round = none := rfl
  refine callsIn_of_wp_marks Try.func19 rfl trivial ?_ hro
  simp only [Try.ntmps19, List.size_toArray, List.length_cons, List.length_nil, Nat.reduceAdd, Nat.reduceSub, Array.replicate_succ, Array.replicate_zero, List.push_toArray, List.append_toArray, List.nil_append, List.cons_append]
  gi_wp2
  generalize V.alloc (.cells #[.int .i64 a, .int .i64 s] 23) = W at *
  refine ⟨trivial, ?_⟩
  refine (callsIn_wide.2 (stop_is p l a s top x0 er HSA.out HSE.out _ (HP.out.ext hW))).mono ?_
  rintro e w1 ⟨rfl, hx⟩
  have b4 := (hx.block (lt_of_heap hb4)).trans hb4
  have c0 : w1.cell? ⟨V.heap.size, 0, none⟩ = some (.int .i64 a) := by simp [World.cell?, b4]
  have c1 : w1.cell? ⟨V.heap.size, 1, none⟩ = some (.int .i64 s) := by simp [World.cell?, b4]
  have hlt4 := lt_of_heap b4
  have HXV := Lib.hid (hW.trans hx)
  have HB4 := Lib.hid b4
  clear hx hb4 hW b4
  by_cases h0 : er = 0
  rotate_left
  · have hne : (er != 0) = true := by simpa using h0
    have HL0 := Lib.hid (HLA.out.trans (if_neg h0))
    clear h0 HLA
    gi_wp2
    exact ⟨.tuple #[.int .i64 0, .int .i64 0, .int .i64 0, .int .i64 er], (by simp only [results, Try.results19]; go_simp), by rw [HSE.out, HL0.out], HXV.out⟩
  subst h0
  have HL0 := Lib.hid (HLA.out.trans (if_pos rfl))
  clear HLA
  have hk : wkB a s top = true := by
    have := HSE.out
    cases h : wkB a s top
    · rw [stopE, h] at this; simp at this
    · rfl
  obtain ⟨hm, ht⟩ : mayB a s = true ∧ (a ≤ top ∧ top ≤ a + s) := by simpa [wkB] using hk
  obtain ⟨m1, m2, m3, m4⟩ := may_bd hm
  obtain ⟨t1, t2⟩ := ht
  clear hk hm
  have hlA : V.heap.size < w1.heap.size + 1 := by omega
  have hlB : V.heap.size < w1.heap.size + 1 + 1 := by omega
  have hlC : V.heap.size < w1.heap.size + 1 + 1 + 1 := by omega
  gi_wp2_with (refine ⟨trivial, ?_⟩; gi_at_call 64; refine (callsIn_wide.2 (walk_any _ _ _ _ _)).mono ?_; rintro e w' ⟨rfl, rfl⟩)
  have f0 := (blk_old (o2 := .cells #[.int .i64 top] 3) (blk_old (o2 := .cells #[.int .i64 a, .int .i64 s] 23) (blk_old (o2 := .cells #[.pointer p] 34) (blk_old (o2 := .cells #[.int .i64 0] 3) (blk_old (o2 := .cells #[.int .i64 0] 3) (blk_new w1 #[.int .i64 0] 3 _ rfl))))))
  have f1 := (blk_old (o2 := .cells #[.int .i64 top] 3) (blk_old (o2 := .cells #[.int .i64 a, .int .i64 s] 23) (blk_old (o2 := .cells #[.pointer p] 34) (blk_old (o2 := .cells #[.int .i64 0] 3) (blk_new (w1.alloc (.cells #[.int .i64 0] 3)) #[.int .i64 0] 3 (w1.heap.size + 1) (by simp))))))
  have f2 := (blk_old (o2 := .cells #[.int .i64 top] 3) (blk_old (o2 := .cells #[.int .i64 a, .int .i64 s] 23) (blk_old (o2 := .cells #[.pointer p] 34) (blk_new ((w1.alloc (.cells #[.int .i64 0] 3)).alloc (.cells #[.int .i64 0] 3)) #[.int .i64 0] 3 (w1.heap.size + 1 + 1) (by simp)))))
  have e0 := (blk_old (o2 := .cells #[.int .i64 top] 3) (blk_old (o2 := .cells #[.int .i64 a, .int .i64 s] 23) (blk_new (((w1.alloc (.cells #[.int .i64 0] 3)).alloc (.cells #[.int .i64 0] 3)).alloc (.cells #[.int .i64 0] 3)) #[.pointer p] 34 (w1.heap.size + 1 + 1 + 1) (by simp))))
  have e1 := (blk_old (o2 := .cells #[.int .i64 top] 3) (blk_new ((((w1.alloc (.cells #[.int .i64 0] 3)).alloc (.cells #[.int .i64 0] 3)).alloc (.cells #[.int .i64 0] 3)).alloc (.cells #[.pointer p] 34)) #[.int .i64 a, .int .i64 s] 23 (w1.heap.size + 1 + 1 + 1 + 1) (by simp)))
  have e2 := blk_new (((((w1.alloc (.cells #[.int .i64 0] 3)).alloc (.cells #[.int .i64 0] 3)).alloc (.cells #[.int .i64 0] 3)).alloc (.cells #[.pointer p] 34)).alloc (.cells #[.int .i64 a, .int .i64 s] 23)) #[.int .i64 top] 3 (w1.heap.size + 1 + 1 + 1 + 2) (by simp)
  have hx2 : Ext w1 ((((((w1.alloc (.cells #[.int .i64 0] 3)).alloc (.cells #[.int .i64 0] 3)).alloc (.cells #[.int .i64 0] 3)).alloc (.cells #[.pointer p] 34)).alloc (.cells #[.int .i64 a, .int .i64 s] 23)).alloc (.cells #[.int .i64 top] 3)) := ((((((Ext.refl w1).alloc _).alloc _).alloc _).alloc _).alloc _).alloc _
  generalize (((((w1.alloc (.cells #[.int .i64 0] 3)).alloc (.cells #[.int .i64 0] 3)).alloc (.cells #[.int .i64 0] 3)).alloc (.cells #[.pointer p] 34)).alloc (.cells #[.int .i64 a, .int .i64 s] 23)).alloc (.cells #[.int .i64 top] 3) = w2 at *
  have hbs := (hx2.block hlt4).trans HB4.out
  have hV2 : Ext V w2 := HXV.out.trans hx2
  have hlV := lt_of_heap hbs
  have hl0 := lt_of_heap e0
  have hl1 := lt_of_heap e1
  have hl2 := lt_of_heap e2
  generalize w1.heap.size = C at *
  have hnl : ∀ b, ¬ Led w2 V.heap.size b := fun b ⟨n, c, h⟩ => by simp [World.cell?, hbs] at h
  clear c0 c1 hlA hlB hlC
  refine wpIn_rangeK (gf := 118) (lb := #[.pointer (some ⟨C + 3 + 1, 0, none⟩), .pointer (some ⟨C + 3 + 2, 0, none⟩), .pointer (some ⟨C + 3, 0, none⟩)]) rfl (enters_of Try.func118 (by kernel_rfl) rfl)
    (walk1_stops V.heap.size (C + 3 + 1) (C + 3 + 2) (C + 3) V.heap.size p l a s top w2 hl1 hl2 hl0 (by simp [World.cell?, e1]) (by simp [World.cell?, e2]) (by simp [World.cell?, e0]) (fun W' hb => HP.out.ext (Below.trans hV2 hb)) (by omega) m1 t1 (by omega) hlV hnl)
    (fun k hk => by rcases hk with rfl | rfl | rfl <;> omega) (by omega) (fun _ => rfl)
    (fun pre W => SumI C (sumsP pre) W ∧ Hid (∀ x ∈ pre, x.last = false) ∧ Ext V W ∧ w2.heap.size ≤ W.heap.size)
    (fun c pre W => c = .exit 0 ∧ SumI C (sumsP ((stepsA l top a).filter fun x => !x.last)) W ∧ Ext V W ∧ w2.heap.size ≤ W.heap.size)
    (fun s A B h hab => ⟨h.1.below hab.below (by omega), h.2.1, Below.trans h.2.2.1 (Below.mono hab.below (by omega)), Nat.le_trans h.2.2.2 hab.below.size⟩)
    (fun c s A B h hab => ⟨h.1, h.2.1.below hab.below (by omega), Below.trans h.2.2.1 (Below.mono hab.below (by omega)), Nat.le_trans h.2.2.2 hab.below.size⟩)
    ⟨⟨f0, f1, f2⟩, Lib.hid (by simp), hV2, Nat.le_refl _⟩
    (fun pre x a' W => SumI C (sumsP pre) W ∧ Hid (∀ x ∈ pre, x.last = false) ∧ Ext V W ∧ ∃ X, w2.heap.size ≤ X ∧ W.heap[X]? = some (.cells #[.int .i64 x.at_, .int .i64 x.h.k, .int .i64 x.h.f, .int .i64 x.h.r, .bool x.h.m, .int .i64 x.h.c, .int .i64 x.e, .bool x.last] 119 (0, 0)) ∧
      a' = { tmps := #[.pointer p, .agg #[.int .i64 a, .int .i64 s], .int .i64 top, undef, .pointer (some ⟨V.heap.size, 0, none⟩), undef, .int .i64 0, .int .i64 0, .int .i64 0, .int .i64 0, .int .i64 x0, .int .i64 0, .pointer (some ⟨C, 0, none⟩), .pointer (some ⟨C + 1, 0, none⟩), .pointer (some ⟨C + 2, 0, none⟩), .pointer (some ⟨X, 0, none⟩), .tuple #[.int .i64 x0, .int .i64 0], .pointer p, .agg #[.int .i64 a, .int .i64 s], .int .i64 top, .tuple #[.int .i64 x0, .int .i64 0], .int .i64 x0, .int .i64 0, .int .i64 0, .bool false, undef, .pointer p, .agg #[.int .i64 a, .int .i64 s], .int .i64 top, .func (.func 118) #[] #[.pointer (some ⟨C + 3 + 1, 0, none⟩), .pointer (some ⟨C + 3 + 2, 0, none⟩), .pointer (some ⟨C + 3, 0, none⟩)], .agg #[.int .i64 x.at_, .int .i64 x.h.k, .int .i64 x.h.f, .int .i64 x.h.r, .bool x.h.m, .int .i64 x.h.c, .int .i64 x.e, .bool x.last], undef, undef, undef, undef, undef, undef, undef, undef, undef, undef, undef, undef, undef, undef, undef, undef, undef], defers := [] })
    ?hax ?assign ?body ?done ?stop
  case hax =>
    rintro pre x a' A B ⟨hs, hn, hE, X, hX, hbX, rfl⟩ hb hk
    exact ⟨hs.keep hk, hn, Below.trans hE (Below.mono hb (by omega)), X, hX, hk X _ hbX rfl, rfl⟩
  case assign =>
    rintro lq pre x W K ⟨hs, hn, hE, hS⟩ hK
    have hsz := Ext.size hE
    have HS := Lib.hid hs
    have HE := Lib.hid hE
    clear hs hE
    gi_wp2
    exact hK _ _ ⟨HS.out.ext ((Ext.refl W).alloc _), hn, HE.out.alloc _, W.heap.size, hS, World.alloc_heap_new _ _, rfl⟩ ((KeepsOthers.alloc _ _).from _) (KpX.ext ((Ext.refl W).alloc _) (by omega) (by omega))
  case body =>
    rintro lq pre x a' W ⟨hs, hn, hE, X, hX, hbX, rfl⟩ hgd
    have HF := Lib.hid (fun (h : x.last = true) => filter_pre hgd hn.out h)
    have HPS := Lib.hid (sumsP_snoc pre x)
    have hltX := lt_of_heap hbX
    have hsz := Ext.size hE
    obtain ⟨n, hnx⟩ : ∃ n, hsize x.h = n := ⟨_, rfl⟩
    rw [hnx] at HPS
    have HNX := Lib.hid hnx
    clear hnx
    obtain ⟨xat, xh, xe, xl⟩ := x
    simp only at HF HNX HPS
    have g3 : W.cell? ⟨X, 7, none⟩ = some (.bool xl) := by simp [World.cell?, hbX]
    generalize ht : sumsP pre = t at *
    have HT := Lib.hid ht
    clear ht
    obtain ⟨t1', t2', t3'⟩ := t
    have HS := Lib.hid hs
    have HE := Lib.hid hE
    have HN := Lib.hid hn
    clear hs hE hn hgd
    cases xl
    · have q1 : W.cell? ⟨C, 0, none⟩ = some (.int .i64 t1') := by simp [World.cell?, HS.out.a]
      have q2 : W.frozen? ⟨C, 0, none⟩ = false := by simp [World.frozen?, HS.out.a]
      gi_wp2
      have HS1 := Lib.hid (HS.out.setA (wrap64 (t1' + 1)))
      have HK1 : Hid (KpX (fun k => k = C + 3 + 1 ∨ k = C + 3 + 2 ∨ k = C + 3) V.heap.size w2.heap.size V.heap.size W (W.setCell ⟨C, 0, none⟩ (.int .i64 (wrap64 (t1' + 1))))) := Lib.hid (KpX.setLow (by omega) (by omega) (by omega) (fun j hj => by rcases hj with rfl | rfl | rfl <;> omega))
      have HF1 : Hid (KeepsFrom w2.heap.size W (W.setCell ⟨C, 0, none⟩ (.int .i64 (wrap64 (t1' + 1))))) := Lib.hid ((KeepsOthers.setCell _ _ _).from _)
      have HE1 : Hid (Ext V (W.setCell ⟨C, 0, none⟩ (.int .i64 (wrap64 (t1' + 1))))) := Lib.hid (HE.out.setCell (by show V.heap.size ≤ C; omega) _)
      have HX1 : Hid ((W.setCell ⟨C, 0, none⟩ (.int .i64 (wrap64 (t1' + 1)))).heap[X]? = _) := Lib.hid ((Below.heap_setCell W ⟨C, 0, none⟩ _ X (by show X ≠ C; omega)).trans hbX)
      simp only at HS1
      clear q1 q2 g3 hbX HS HE
      generalize W.setCell ⟨C, 0, none⟩ (.int .i64 (wrap64 (t1' + 1))) = W3 at *
      have hxr : Ext W3 W3 := Ext.refl W3
      have hl3 : C + 2 < W3.heap.size := lt_of_heap HS1.out.c
      have hsz3 := HF1.out.size
      have l0 : ∀ u : ExtOf W3, u.1.cell? ⟨C + 1, 0, none⟩ = some (.int .i64 t2') := fun u => u.2.cell (by simp [World.cell?, HS1.out.b])
      have l1 : ∀ u : ExtOf W3, u.1.cell? ⟨X, 1, none⟩ = some (.int .i64 xh.k) := fun u => u.2.cell (by simp [World.cell?, HX1.out])
      have l2 : ∀ u : ExtOf W3, u.1.cell? ⟨X, 2, none⟩ = some (.int .i64 xh.f) := fun u => u.2.cell (by simp [World.cell?, HX1.out])
      have l3 : ∀ u : ExtOf W3, u.1.cell? ⟨X, 3, none⟩ = some (.int .i64 xh.r) := fun u => u.2.cell (by simp [World.cell?, HX1.out])
      have l4 : ∀ u : ExtOf W3, u.1.cell? ⟨X, 4, none⟩ = some (.bool xh.m) := fun u => u.2.cell (by simp [World.cell?, HX1.out])
      have l5 : ∀ u : ExtOf W3, u.1.cell? ⟨X, 5, none⟩ = some (.int .i64 xh.c) := fun u => u.2.cell (by simp [World.cell?, HX1.out])
      (refine wpIn_region_ord (W := W3) [(0, true), (1, true), (2, true), (3, false), (4, true)] [] [5] (by kernel_rfl) (by kernel_rfl) (by kernel_rfl) (by intro a w h; exact h) (by intro c a d v w h; cases d <;> first | exact h | cases h.1) (by with_reducible assumption) ?_; simp only [opsOf, List.map_cons, List.map_nil, List.getD_cons_zero, List.getD_cons_succ]; (repeat (go_big_quiet_step (first | (go_at_call 70; with_reducible exact Calls.ext_of (hsize_is xh n HNX.out _))))); refine wpQuiet_nil ?_; intro w1 hx; refine mid_nil ?_)
      have HSx := Lib.hid (HS1.out.ext hx)
      have q1 : w1.cell? ⟨C + 1, 0, none⟩ = some (.int .i64 t2') := by simp [World.cell?, HSx.out.b]
      have q2 : w1.frozen? ⟨C + 1, 0, none⟩ = false := by simp [World.frozen?, HSx.out.b]
      have hszx := Ext.size hx
      have HS2 := Lib.hid (HSx.out.setB (wrap64 (t2' + n)))
      have HK2 : Hid (KpX (fun k => k = C + 3 + 1 ∨ k = C + 3 + 2 ∨ k = C + 3) V.heap.size w2.heap.size V.heap.size W (w1.setCell ⟨C + 1, 0, none⟩ (.int .i64 (wrap64 (t2' + n))))) := Lib.hid ((HK1.out.trans (KpX.ext hx (by omega) (by omega))).trans (KpX.setLow (by omega) (by omega) (by omega) (fun j hj => by rcases hj with rfl | rfl | rfl <;> omega)))
      have HF2 : Hid (KeepsFrom w2.heap.size W (w1.setCell ⟨C + 1, 0, none⟩ (.int .i64 (wrap64 (t2' + n))))) := Lib.hid ((HF1.out.trans (keeps_ext hx)).trans ((KeepsOthers.setCell _ _ _).from _))
      have HE2 : Hid (Ext V (w1.setCell ⟨C + 1, 0, none⟩ (.int .i64 (wrap64 (t2' + n))))) := Lib.hid ((HE1.out.trans hx).setCell (by show V.heap.size ≤ C + 1; omega) _)
      have hx1 := (hx.block (show X < W3.heap.size from lt_of_heap HX1.out)).trans HX1.out
      have HX2 : Hid ((w1.setCell ⟨C + 1, 0, none⟩ (.int .i64 (wrap64 (t2' + n)))).heap[X]? = _) := Lib.hid ((Below.heap_setCell w1 ⟨C + 1, 0, none⟩ _ X (by show X ≠ C + 1; omega)).trans hx1)
      simp only at HS2
      have m0 : (w1.setCell ⟨C + 1, 0, none⟩ (.int .i64 (wrap64 (t2' + n)))).cell? ⟨C + 2, 0, none⟩ = some (.int .i64 t3') := by simp [World.cell?, HS2.out.c]
      have m1' : (w1.setCell ⟨C + 1, 0, none⟩ (.int .i64 (wrap64 (t2' + n)))).cell? ⟨X, 2, none⟩ = some (.int .i64 xh.f) := by simp [World.cell?, HX2.out]
      have m2' : (w1.setCell ⟨C + 1, 0, none⟩ (.int .i64 (wrap64 (t2' + n)))).frozen? ⟨C + 2, 0, none⟩ = false := by simp [World.frozen?, HS2.out.c]
      clear hx1 HX1 hx HSx HS1 HE1 HF1 HK1 l0 l1 l2 l3 l4 l5 hxr HX2
      have HW : Hid (∀ W4 : World, W4 = w1.setCell ⟨C + 1, 0, none⟩ (.int .i64 (wrap64 (t2' + n))) → KeepsFrom w2.heap.size W (W4.setCell ⟨C + 2, 0, none⟩ (.int .i64 (wrap64 (t3' + xh.f)))) ∧ KpX (fun k => k = C + 3 + 1 ∨ k = C + 3 + 2 ∨ k = C + 3) V.heap.size w2.heap.size V.heap.size W (W4.setCell ⟨C + 2, 0, none⟩ (.int .i64 (wrap64 (t3' + xh.f)))) ∧ SumI C (sumsP (pre ++ [{ at_ := xat, h := xh, e := xe, last := false }])) (W4.setCell ⟨C + 2, 0, none⟩ (.int .i64 (wrap64 (t3' + xh.f)))) ∧ Hid (∀ x ∈ pre ++ [{ at_ := xat, h := xh, e := xe, last := false }], x.last = false) ∧ Ext V (W4.setCell ⟨C + 2, 0, none⟩ (.int .i64 (wrap64 (t3' + xh.f)))) ∧ w2.heap.size ≤ (W4.setCell ⟨C + 2, 0, none⟩ (.int .i64 (wrap64 (t3' + xh.f)))).heap.size) := Lib.hid (by
        rintro W4 rfl
        refine ⟨HF2.out.trans ((KeepsOthers.setCell _ _ _).from _), HK2.out.trans (KpX.setLow (by omega) (by omega) (by omega) (fun j hj => by rcases hj with rfl | rfl | rfl <;> omega)), by rw [HPS.out]; exact HS2.out.setC _, Lib.hid fun y hy => ?_, HE2.out.setCell (by show V.heap.size ≤ C + 2; omega) _, by have := HF2.out.size; simp at this ⊢; omega⟩
        rcases List.mem_append.1 hy with hy | hy
        · exact HN.out.out y hy
        · rcases List.mem_singleton.1 hy with rfl
          rfl)
      go_wp2_with fail
      gi_wp2
      exact HW.out _ rfl
    · gi_wp2
      have HFF := HF.out trivial
      exact ⟨keeps_ext (Ext.refl _), rfl, by rw [HFF, HT.out]; exact HS.out, HE.out, by omega⟩
  case done =>
    rintro D ys W hD rfl ⟨h1, h2, h3⟩ hK
    exact (steps_all h2.out).elim
  case stop =>
    rintro D c pre W hD hpre ⟨rfl, h1, h2, h3⟩ hK
    generalize sumsP ((stepsA l top a).filter fun x => !x.last) = t at *
    obtain ⟨t1', t2', t3'⟩ := t
    have H1 := Lib.hid h1
    have H2 := Lib.hid h2
    clear h1 h2
    gi_wp2
    have p1 : W.cell? ⟨C, 0, none⟩ = some (.int .i64 t1') := by simp [World.cell?, H1.out.a]
    have p2 : W.cell? ⟨C + 1, 0, none⟩ = some (.int .i64 t2') := by simp [World.cell?, H1.out.b]
    have p3 : W.cell? ⟨C + 1 + 1, 0, none⟩ = some (.int .i64 t3') := by simp [World.cell?, H1.out.c]
    have hcl : C < W.heap.size := by omega
    gi_region
    all_goals gi_wp2
    all_goals
      have hab : AbI w2.heap.size V.heap.size W.drew (W.drew.putObj D (.deferred none)) := AbI.putObj hD hK rfl
      refine ⟨by simp, .inl ⟨_, _, rfl, run_takeDeferred hK, ?_⟩⟩
      exact ⟨.tuple #[.int .i64 t1', .int .i64 t2', .int .i64 t3', .int .i64 0], (by simp only [results, Try.results19]; go_simp), (by rw [HL0.out, HSE.out]), Below.trans H2.out.drew (Below.mono hab.below (by omega))⟩
end Go.Proofs.Ytkcpfimhbogdcaa

/- How many words and fields the reference's walk has: ref09.Sums. -/
set_option linter.unusedSimpArgs false
set_option linter.unusedVariables false
namespace Go.Proofs.Ytkcpfimhbogdcaa
open Go.RowKit Go.Shelf

theorem steps_headF (l : Option (List Int)) (top : Int) : ∀ (n : Nat) (i : Int) (x : Stp), x ∈ stepsF l top n i → x.last = false → x.h = headH l x.at_ ∧ i ≤ x.at_ ∧ x.at_ < top := by
  intro n
  induction n with
  | zero => intro i x hx hl; simp only [stepsF, List.mem_singleton] at hx; subst hx; cases hl
  | succ n ih =>
    intro i x hx hl
    rw [stepsF] at hx
    split at hx
    · split at hx
      · rename_i h1 h2
        rcases List.mem_cons.1 hx with rfl | hx
        · exact ⟨rfl, Int.le_refl _, h1⟩
        · obtain ⟨h3, h4, h5⟩ := ih _ _ hx hl
          have := head_size (wkE_head h2).1
          exact ⟨h3, by omega, h5⟩
      · simp only [List.mem_singleton] at hx; subst hx; cases hl
    · simp only [List.mem_singleton] at hx; subst hx; cases hl
/-- How many words and fields the objects at some places have. -/
def rsumP (l : Option (List Int)) (ps : List Int) : Int × Int := ps.foldl (fun t x => (wrap64 (t.1 + hsize (headH l x)), wrap64 (t.2 + (headH l x).f))) (0, 0)
theorem rsumP_snoc (l : Option (List Int)) (ps : List Int) (x : Int) : rsumP l (ps ++ [x]) = (wrap64 ((rsumP l ps).1 + hsize (headH l x)), wrap64 ((rsumP l ps).2 + (headH l x).f)) := by simp [rsumP]
theorem sums_fold (l : Option (List Int)) : ∀ (xs : List Stp) (c a b : Int), (∀ x ∈ xs, x.h = headH l x.at_) → 0 ≤ c → c + xs.length ≤ 9223372036854775807 →
    xs.foldl (fun (t : Int × Int × Int) x => (wrap64 (t.1 + 1), wrap64 (t.2.1 + hsize x.h), wrap64 (t.2.2 + x.h.f))) (c, a, b) =
      (c + xs.length, (xs.map (·.at_)).foldl (fun t x => (wrap64 (t.1 + hsize (headH l x)), wrap64 (t.2 + (headH l x).f))) (a, b)) := by
  intro xs
  induction xs with
  | nil => intro c a b _ _ _; simp
  | cons x xs ih =>
    intro c a b h h0 hn
    simp only [List.length_cons, Int.natCast_add, Int.cast_ofNat_Int] at hn
    have hw : wrap64 (c + 1) = c + 1 := IntWalk.wrap64_in _ ⟨by omega, by omega⟩
    rw [List.foldl_cons, List.map_cons, List.foldl_cons]
    simp only
    rw [hw, ih (c + 1) _ _ (fun y hy => h y (List.mem_cons_of_mem _ hy)) (by omega) (by omega), h x (List.mem_cons_self ..)]
    simp only [List.length_cons, Int.natCast_add, Int.cast_ofNat_Int, Prod.mk.injEq, and_true]
    omega
theorem walk_bd {l : Option (List Int)} {a s top : Int} (h : stopE l a s top = 0) : 0 ≤ a ∧ a ≤ top ∧ top ≤ 2199023255552 := by
  have hk : wkB a s top = true := by
    cases hh : wkB a s top
    · rw [stopE, hh] at h; simp at h
    · rfl
  obtain ⟨hm, ht⟩ : mayB a s = true ∧ (a ≤ top ∧ top ≤ a + s) := by simpa [wkB] using hk
  have := may_bd hm
  omega
theorem list_bd {l : Option (List Int)} {a s top x : Int} (h : x ∈ listA l a s top) : a ≤ x ∧ x < top ∧ 0 ≤ x ∧ x < 2199023255552 := by
  rw [listA] at h
  split at h
  · rename_i h0
    have := walk_bd h0
    rw [placesL] at h
    obtain ⟨y, hy, rfl⟩ := List.mem_map.1 h
    obtain ⟨hy, hl⟩ := List.mem_filter.1 hy
    have := steps_headF _ _ _ _ _ hy (by simpa using hl)
    omega
  · simp at h
theorem list_len (l : Option (List Int)) (a s top : Int) : (listA l a s top).length ≤ 2199023255553 := by
  rw [listA]
  split
  · rename_i h0
    have := walk_bd h0
    have h1 := places_len (stepsA l top a)
    have h2 := steps_len l top (top - a).toNat a
    rw [← stepsA] at h2
    omega
  · simp
/-- A walk's sums are those of its places. -/
theorem wsum_r (l : Option (List Int)) (a s top : Int) : wsumA l a s top = (((listA l a s top).length : Int), rsumP l (listA l a s top)) := by
  rw [wsumA]
  by_cases h0 : stopE l a s top = 0
  · have hb := walk_bd h0
    have hlen := list_len l a s top
    rw [if_pos h0, listA, if_pos h0, placesL, sumsP, rsumP]
    rw [listA, if_pos h0, placesL, List.length_map] at hlen
    rw [sums_fold l ((stepsA l top a).filter fun x => !x.last) 0 0 0 (fun x hx => (steps_headF l top _ a x (List.mem_filter.1 hx).1 (by simpa using (List.mem_filter.1 hx).2)).1) (by omega) (by omega)]
    simp
  · rw [if_neg h0, listA, if_neg h0]; rfl
set_option maxRecDepth 100000
set_option maxHeartbeats 2000000
theorem refsums_any (A : Option Addr) (cap : Nat) (ws : List Int) (a s top : Int) (V : World) (hl : WordsAt V A ws) (hlen : ws.length ≤ 98304) (hbd : ∀ z ∈ ws, 0 ≤ z ∧ z < 18446744073709551616) :
    Calls Try.prog 20 #[.slice A ws.length cap, .agg #[.int .i64 (a), .int .i64 (s)], .int .i64 top] V fun e w' => e = .returned (.tuple #[.int .i64 (wsumA (some ws) a s top).1, .int .i64 (wsumA (some ws) a s top).2.1, .int .i64 (wsumA (some ws) a s top).2.2, .int .i64 (stopE (some ws) a s top)]) ∧ Ext V w' := by
  rw [wsum_r]
  simp only
  have HL := pers_row hl
  have HLN := Lib.hid hlen
  have HBD := Lib.hid hbd
  have hzl := list_len (some ws) a s top
  have HZB := Lib.hid (fun x (h : x ∈ listA (some ws) a s top) => list_bd h)
  obtain ⟨x0, hx0⟩ : ∃ x, stopA (some ws) a s top = x := ⟨_, rfl⟩
  obtain ⟨er, her⟩ : ∃ x, stopE (some ws) a s top = x := ⟨_, rfl⟩
  have Z := refwalk_any A cap ws a s top (V.alloc (.cells #[.int .i64 a, .int .i64 s] 23)) (HL.at ((Ext.refl V).alloc _)) HLN.out HBD.out
  rw [hx0, her] at Z
  rw [her]
  generalize listA (some ws) a s top = zs at *
  have HX := Lib.hid ((Ext.refl V).alloc (.cells #[.int .i64 a, .int .i64 s] 23))
  clear hl hlen hbd hx0 her
  go_enter Try.func20, Try.ntmps20
  go_wp2_with fail
  refine Z.mono ?_
  clear Z
  rintro e W ⟨A1, cap1, rfl, hz, hx⟩
  replace HX := Lib.hid (HX.out.trans hx)
  replace HL := HL.re HX.out
  have HZ := pers_row hz
  have hxw := Ext.refl W
  clear hz hx
  go_wp2_with fail
  go_loopw [13, 14, 15, 16, 17] (fun p q i _ _ wr => ∃ k : Nat, k ≤ zs.length ∧ i = .int .i64 k ∧ p = .int .i64 (rsumP (some ws) (zs.take k)).1 ∧ q = .int .i64 (rsumP (some ws) (zs.take k)).2 ∧ Ext W wr) (fun _ _ i _ _ _ => zs.length - (intOf i).toNat)
  case atStart => exact ⟨0, by omega, rfl, rfl, rfl, hxw⟩
  case round =>
    obtain ⟨k, hk, rfl, rfl, rfl, hxr⟩ := hrel
    by_cases hlt : k < zs.length
    rotate_left
    · have HT : Hid (zs.take k = zs) := Lib.hid (List.take_of_length_le (by omega))
      generalize zs.take k = ys at *
      go_wp2_with fail
      ((try simp only [Exit.inBlock, Exit.then]); refine bodyPost_ret (v := .tuple #[.int .i64 zs.length, .int .i64 (rsumP (some ws) ys).1, .int .i64 (rsumP (some ws) ys).2, .int .i64 er]) (by simp only [results, Try.results20]; go_simp) rfl ?_)
      exact ⟨by rw [HT.out], HX.out.trans hxr⟩
    obtain ⟨lb, off, rfl, hc⟩ := HZ.here.get (by omega)
    have c1 := pers_cell (ints_cell hc hlt)
    have ib1 : (k : Int) < (zs.length : Int) := by omega
    have hzb := HZB.out _ (getD_mem (d := 0) hlt)
    have HSN : Hid (rsumP (some ws) (zs.take (k + 1)) = _) := Lib.hid (by
      rw [List.take_succ_eq_append_getElem hlt, rsumP_snoc])
    have HGE : Hid (zs[k] = zs.getD k 0) := Lib.hid (by simp [hlt])
    rw [HGE.out] at HSN
    generalize zs.getD k 0 = z at *
    clear hc HZ HZB HGE
    obtain ⟨er2, her2⟩ : ∃ e, headE (some ws) z = e := ⟨_, rfl⟩
    obtain ⟨h, hh⟩ : ∃ h, headH (some ws) z = h := ⟨_, rfl⟩
    obtain ⟨n, hn⟩ : ∃ n, hsize h = n := ⟨_, rfl⟩
    rw [hh, hn] at HSN
    have HER := Lib.hid her2
    have HH := Lib.hid hh
    have HN := Lib.hid hn
    clear her2 hh hn
    generalize rsumP (some ws) (zs.take k) = t at *
    obtain ⟨t1, t2⟩ := t
    obtain ⟨u0, rfl⟩ : ∃ u : ExtOf W, wr = u.1 := ⟨⟨wr, hxr⟩, rfl⟩
    clear hxr
    go_wp2_with fail
    (refine (refhead_is A cap ws z er2 h HER.out HH.out _ (HL.at (by repeat (first | (with_reducible exact Ext.refl _) | (with_reducible exact ExtOf.ext _) | (with_reducible assumption) | (with_reducible refine Ext.drew ?_) | (with_reducible refine Ext.alloc ?_ _)))) HLN.out HBD.out ⟨by omega, by omega⟩).mono ?_; rintro e w2 ⟨rfl, hx⟩; replace hx := Ext.trans (a := W) (by repeat (first | (with_reducible exact Ext.refl _) | (with_reducible exact ExtOf.ext _) | (with_reducible assumption) | (with_reducible refine Ext.drew ?_) | (with_reducible refine Ext.alloc ?_ _))) hx)
    have HBH := pers_new w2 #[.int .i64 h.k, .int .i64 h.f, .int .i64 h.r, .bool h.m, .int .i64 h.c] 47 _ rfl
    replace hx := hx.alloc (.cells #[.int .i64 h.k, .int .i64 h.f, .int .i64 h.r, .bool h.m, .int .i64 h.c] 47)
    have HXX := Lib.hid hx
    clear c1 ib1
    go_wp2_with fail
    generalize w2.alloc (.cells #[.int .i64 h.k, .int .i64 h.f, .int .i64 h.r, .bool h.m, .int .i64 h.c] 47) = w3 at *
    generalize w2.heap.size = X at *
    have g1 := HBH.cells
    have hx3 := Ext.refl w3
    (refine (refhsize_is h n HN.out _).mono ?_; rintro e wq ⟨rfl, hx⟩; replace hx := Ext.trans (a := w3) (by repeat (first | (with_reducible exact Ext.refl _) | (with_reducible exact ExtOf.ext _) | (with_reducible assumption) | (with_reducible refine Ext.drew ?_) | (with_reducible refine Ext.alloc ?_ _))) hx; obtain ⟨uq, rfl⟩ : ∃ u : ExtOf w3, wq = u.1 := ⟨⟨wq, hx⟩, rfl⟩; clear hx; go_wp2_with fail)
    go_roundw
    case rel => exact ⟨k + 1, by omega, by go_num, by rw [HSN.out], by rw [HSN.out], HXX.out.trans uq.2⟩
    case measure => simp [intOf]; omega
end Go.Proofs.Ytkcpfimhbogdcaa

/- Walks, plain: objects stand one behind the other. -/
set_option linter.unusedSimpArgs false
set_option linter.unusedVariables false
namespace Go.Proofs.Ytkcpfimhbogdcaa
open Go.RowKit

/-- Objects at these places, one behind the other, from i up to the top. -/
inductive Chain (l : Option (List Int)) (top : Int) : Int → List Int → Prop
  | nil : Chain l top top []
  | cons {i : Int} {zs : List Int} : i < top → headE l i = 0 → hsize (headH l i) ≤ top - i → Chain l top (i + hsize (headH l i)) zs → Chain l top i (i :: zs)
theorem last_go {l : Option (List Int)} {top i : Int} (hi : i < top) (h2 : wkE l top i = 0) : lastS l top i = lastS l top (i + hsize (headH l i)) := by
  have hg := steps_go hi h2
  obtain ⟨pre, x, e1, -, -, -⟩ := steps_last l top _ (i + hsize (headH l i)) (Nat.le_refl _)
  rw [lastS, lastS, hg, e1, ← List.cons_append]
  simp only [List.getLastD_eq_getLast?, List.getLast?_append, List.getLast?_singleton, Option.some_or, Option.getD_some]
theorem chain_of (l : Option (List Int)) (top : Int) : ∀ (n : Nat) (i : Int), (top - i).toNat ≤ n → i ≤ top → (lastS l top i).e = 0 → Chain l top i (placesL (stepsA l top i)) := by
  intro n
  induction n with
  | zero =>
    intro i hn hi _
    obtain rfl : i = top := by omega
    rw [steps_end (by omega)]
    exact Chain.nil
  | succ n ih =>
    intro i hn hi he
    by_cases h : i < top
    · by_cases h2 : wkE l top i = 0
      · have hh := wkE_head h2
        have hs := head_size hh.1
        rw [last_go h h2] at he
        have := ih (i + hsize (headH l i)) (by omega) (by omega) he
        rw [steps_go h h2]
        exact Chain.cons h hh.1 hh.2 this
      · rw [lastS, steps_err h h2] at he
        exact absurd he h2
    · obtain rfl : i = top := by omega
      rw [steps_end (by omega)]
      exact Chain.nil
theorem Chain.list {l : Option (List Int)} {top i : Int} {zs : List Int} (h : Chain l top i zs) : placesL (stepsA l top i) = zs ∧ lastS l top i = ⟨top, hd0, 0, true⟩ := by
  induction h with
  | nil => rw [lastS, steps_end (by omega)]; exact ⟨rfl, rfl⟩
  | @cons i zs h1 h2 h3 h4 ih =>
    have hw : wkE l top i = 0 := by rw [wkE, if_pos h2, if_neg (by omega)]
    refine ⟨?_, by rw [last_go h1 hw]; exact ih.2⟩
    rw [steps_go h1 hw, ← ih.1]; rfl
theorem Chain.le {l : Option (List Int)} {top i : Int} {zs : List Int} (h : Chain l top i zs) : i ≤ top ∧ ∀ z ∈ zs, i ≤ z := by
  induction h with
  | nil => exact ⟨Int.le_refl _, by simp⟩
  | cons h1 h2 h3 h4 ih =>
    have := head_size h2
    refine ⟨by omega, fun z hz => ?_⟩
    rcases List.mem_cons.1 hz with rfl | hz
    · omega
    · have := ih.2 z hz; omega
theorem Chain.take {l : Option (List Int)} {top i : Int} {zs : List Int} (h : Chain l top i zs) : ∀ (k : Nat) (hk : k < zs.length), Chain l zs[k] i (zs.take k) := by
  induction h with
  | nil => intro k hk; simp at hk
  | @cons i zs h1 h2 h3 h4 ih =>
    intro k hk
    cases k with
    | zero => exact Chain.nil
    | succ k =>
      have hk' : k < zs.length := by simpa using hk
      have := h4.le.2 zs[k] (List.getElem_mem hk')
      have hs := head_size h2
      exact Chain.cons (by simp only [List.getElem_cons_succ]; omega) h2 (by simp only [List.getElem_cons_succ]; omega) (ih k hk')
theorem Chain.head {l : Option (List Int)} {top i : Int} {zs : List Int} (h : Chain l top i zs) : zs.headD top = i := by cases h <;> rfl
theorem Chain.arena {ws : List Int} {top i : Int} {zs : List Int} (h : Chain (some ws) top i zs) (h0 : 0 ≤ i) : (zs.length : Int) ≤ top - i ∧ (zs ≠ [] → top ≤ ws.length) := by
  induction h with
  | nil => simp
  | cons h1 h2 h3 h4 ih =>
    have hs := head_size h2
    obtain ⟨h5, h6⟩ := ih (by omega)
    refine ⟨by simp only [List.length_cons, Int.natCast_add, Int.cast_ofNat_Int]; omega, fun _ => ?_⟩
    cases h4 with
    | nil =>
      have h2' := h2
      rw [headE] at h2'
      split at h2'
      · split at h2'
        · rename_i h7 h8
          split at h2'
          · cases h2'
          · rename_i h9
            rw [headH, if_pos h2]
            simp only [lenA, Option.getD_some] at h9
            omega
        · cases h2'
      · rename_i h7
        exact absurd h2' h7
    | cons a b c d => exact h6 (by simp)
/-- What objects have, as spans. -/
def cutsR (top : Int) : List Int → List (Int × Int)
  | [] => []
  | z :: zs => (z, zs.headD top - z) :: cutsR top zs
theorem cutsR_len (top : Int) (zs : List Int) : (cutsR top zs).length = zs.length := by induction zs <;> simp_all [cutsR]
theorem cutsR_get (top : Int) : ∀ (zs : List Int) (k : Nat), k < zs.length → (cutsR top zs).getD k (0, 0) = (zs.getD k 0, zs.getD (k + 1) top - zs.getD k 0) := by
  intro zs
  induction zs with
  | nil => intro k hk; simp at hk
  | cons z zs ih =>
    intro k hk
    cases k with
    | zero => cases zs <;> rfl
    | succ k => exact ih k (by simpa using hk)
theorem Chain.cover {l : Option (List Int)} {top i : Int} {zs : List Int} (h : Chain l top i zs) : ∀ p, (∃ x ∈ cutsR top zs, InS x p) ↔ i ≤ p ∧ p < top := by
  induction h with
  | nil => intro p; simp [cutsR]; try omega
  | @cons i zs h1 h2 h3 h4 ih =>
    intro p
    have hs := head_size h2
    simp only [cutsR, List.mem_cons, exists_eq_or_imp, ih p, h4.head, InS]
    omega
theorem Chain.may {l : Option (List Int)} {top i : Int} {zs : List Int} (h : Chain l top i zs) (h0 : 0 ≤ i) (ht : top ≤ 1099511627776) : ∀ x ∈ cutsR top zs, mayB x.1 x.2 = true := by
  induction h with
  | nil => simp [cutsR]
  | @cons i zs h1 h2 h3 h4 ih =>
    have hs := head_size h2
    intro x hx
    simp only [cutsR, List.mem_cons, h4.head] at hx
    rcases hx with rfl | hx
    · simp only [mayB, decide_eq_true_eq]; omega
    · exact ih (by omega) x hx
/-- All words from the beginning up to the top. -/
theorem Chain.join {l : Option (List Int)} {top i : Int} {zs : List Int} (h : Chain l top i zs) (h0 : 0 ≤ i) (ht : top ≤ 1099511627776) (hne : zs ≠ []) : joinL (cutsR top zs) = [(i, top - i)] := by
  have hlt : i < top := by
    cases h with
    | nil => exact absurd rfl hne
    | cons a b c d => exact a
  refine Canon.unique (join_canon (cutsR top zs)) ⟨by simp; omega, by simp, fun p => ?_⟩
  rw [covered_iff]
  simp only [List.mem_singleton, exists_eq_left, InS]
  constructor
  · intro hp
    obtain ⟨x, hx, hp'⟩ := (h.cover p).2 (by omega)
    exact ⟨x, hx, h.may h0 ht x hx, hp'⟩
  · rintro ⟨x, hx, -, hp⟩
    have := (h.cover p).1 ⟨x, hx, hp⟩
    omega
theorem list_chain {l : Option (List Int)} {a s top : Int} (h : stopE l a s top = 0) : Chain l top a (listA l a s top) ∧ wkB a s top = true ∧ 0 ≤ a ∧ top ≤ 1099511627776 := by
  have hk : wkB a s top = true := by
    cases hh : wkB a s top
    · rw [stopE, hh] at h; simp at h
    · rfl
  obtain ⟨hm, ht⟩ : mayB a s = true ∧ (a ≤ top ∧ top ≤ a + s) := by simpa [wkB] using hk
  have hm' := hm
  simp only [mayB, decide_eq_true_eq] at hm'
  rw [listA, if_pos h]
  refine ⟨chain_of l top _ a (Nat.le_refl _) ht.1 ?_, hk, by omega, by omega⟩
  rwa [stopE, hk] at h
theorem chain_part {l : Option (List Int)} {a s top : Int} (h : stopE l a s top = 0) {k : Nat} (hk : k < (listA l a s top).length) : listA l a s (listA l a s top)[k] = (listA l a s top).take k ∧ stopE l a s (listA l a s top)[k] = 0 := by
  obtain ⟨hc, hw, h0, ht⟩ := list_chain h
  have h1 := hc.take k hk
  have h2 := h1.le.1
  have h3 := (list_bd (List.getElem_mem hk)).2.1
  have hw2 : wkB a s (listA l a s top)[k] = true := by
    simp only [wkB, Bool.and_eq_true, decide_eq_true_eq] at hw ⊢
    exact ⟨hw.1, by omega, by omega⟩
  obtain ⟨h4, h5⟩ := h1.list
  have h6 : stopE l a s (listA l a s top)[k] = 0 := by rw [stopE, hw2, h5]; rfl
  exact ⟨by rw [listA, if_pos h6, h4], h6⟩
theorem head_sum {l : Option (List Int)} {i : Int} (h : headE l i = 0) : hsize (headH l i) = 1 + (headH l i).f + (headH l i).r ∧ 0 ≤ (headH l i).f ∧ (headH l i).f ≤ 4096 ∧ 0 ≤ (headH l i).r ∧ (headH l i).r ≤ 4096 := by
  rw [headH, if_pos h]
  unfold headE at h
  split at h
  · split at h
    · rename_i hb
      simp only [hdecB, Bool.and_eq_true] at hb
      rw [hsize, hb.2, if_pos rfl]
      have := hb.2
      simp only [hmayB, decide_eq_true_eq] at this
      omega
    · cases h
  · rename_i h2
    exact absurd h h2
/-- An object of a list, and the place behind it. -/
theorem chain_at {l : Option (List Int)} {top : Int} : ∀ {i : Int} {zs : List Int}, Chain l top i zs → ∀ k, k < zs.length → headE l (zs.getD k 0) = 0 ∧ zs.getD (k + 1) top = zs.getD k 0 + hsize (headH l (zs.getD k 0)) := by
  intro i zs h
  induction h with
  | nil => intro k hk; simp at hk
  | @cons i zs h1 h2 h3 h4 ih =>
    intro k hk
    cases k with
    | zero =>
      have h5 := h4.head
      refine ⟨h2, ?_⟩
      show zs.getD 0 top = _
      cases zs with
      | nil => exact h5
      | cons y ys => exact h5
    | succ k => exact ih k (by simpa using hk)
end Go.Proofs.Ytkcpfimhbogdcaa

