/- Where a walk ends: walk.Stop. -/
import Derived.Test.YtkcpfimhbogdcaaWkA
import Derived.Test.YtkcpfimhbogdcaaSpanA
import Derived.BigRegionIn
set_option linter.unusedSimpArgs false
set_option linter.unusedVariables false
namespace Go.Proofs.Ytkcpfimhbogdcaa
open Go.RowKit Go.Shelf
attribute [local go_sem] Oper.semAt_some

theorem mayS_is (a s : Int) (b : Bool) (h : mayB a s = b) (w : World) : Calls Try.prog 15 #[.agg #[.int .i64 (a), .int .i64 (s)]] w fun e w' => e = .returned (.bool b) ∧ Ext w w' := by
  rw [← h]; exact may_any a s w
theorem walk_any (p : Option Addr) (a s top : Int) (w : World) :
    Calls Try.prog 64 #[.pointer p, .agg #[.int .i64 (a), .int .i64 (s)], .int .i64 top] w fun e w' => e = .returned (.func (.func 118) #[] #[.pointer (some ⟨w.heap.size + 1, 0, none⟩), .pointer (some ⟨w.heap.size + 2, 0, none⟩), .pointer (some ⟨w.heap.size, 0, none⟩)]) ∧ w' = ((w.alloc (.cells #[.pointer p] 34)).alloc (.cells #[.int .i64 a, .int .i64 s] 23)).alloc (.cells #[.int .i64 top] 3) := by
  go_enter Try.func64, Try.ntmps64
  go_wp2
  go_ret
  exact ⟨rfl, rfl⟩
/-- The last step: where a walk ends, and why. -/
def lastS (l : Option (List Int)) (top i : Int) : Stp := (stepsA l top i).getLastD ⟨i, hd0, 0, true⟩
theorem steps_last (l : Option (List Int)) (top : Int) : ∀ (n : Nat) (i : Int), (top - i).toNat ≤ n → ∃ pre x, stepsA l top i = pre ++ [x] ∧ x.last = true ∧ (∀ y ∈ pre, y.last = false) ∧ x = lastS l top i := by
  intro n
  induction n with
  | zero =>
    intro i hi
    have h := steps_end (l := l) (top := top) (i := i) (by omega)
    exact ⟨[], _, h, rfl, by simp, by rw [lastS, h]; rfl⟩
  | succ n ih =>
    intro i hi
    by_cases h : i < top
    · by_cases h2 : wkE l top i = 0
      · have hg := steps_go h h2
        have := head_size (wkE_head h2).1
        obtain ⟨pre, x, h3, h4, h5, h6⟩ := ih (i + hsize (headH l i)) (by omega)
        refine ⟨⟨i, headH l i, 0, false⟩ :: pre, x, by rw [hg, h3]; rfl, h4, fun y hy => ?_, ?_⟩
        · rcases List.mem_cons.1 hy with rfl | hy
          · rfl
          · exact h5 y hy
        · rw [lastS, hg, h3, ← List.cons_append]
          simp only [List.getLastD_eq_getLast?, List.getLast?_append, List.getLast?_singleton, Option.some_or, Option.getD_some]
      · have he := steps_err h h2
        exact ⟨[], _, he, rfl, by simp, by rw [lastS, he]; rfl⟩
    · have h := steps_end (l := l) (top := top) (i := i) h
      exact ⟨[], _, h, rfl, by simp, by rw [lastS, h]; rfl⟩
theorem steps_pre {l : Option (List Int)} {top i : Int} {pre : List Stp} {x : Stp} (h : pre ++ [x] <+: stepsA l top i) (hx : x.last = true) : x = lastS l top i ∧ pre ++ [x] = stepsA l top i := by
  obtain ⟨pr, y, h1, h2, h3, h4⟩ := steps_last l top _ i (Nat.le_refl _)
  obtain ⟨t, ht⟩ := h
  rw [h1] at ht
  have hlen : pre.length ≤ pr.length := by have := congrArg List.length ht; simp at this; omega
  rcases Nat.lt_or_ge pre.length pr.length with hlt | hge
  · exfalso
    have e := congrArg (fun l => l[pre.length]?) ht
    simp only [List.append_assoc, List.getElem?_append_right (Nat.le_refl _), Nat.sub_self, List.cons_append, List.getElem?_cons_zero] at e
    rw [List.getElem?_append_left hlt, List.getElem?_eq_getElem hlt] at e
    injection e with e
    have := h3 _ (List.getElem_mem hlt)
    rw [← e, hx] at this
    cases this
  · have hl : pre.length = pr.length := by omega
    rw [List.append_assoc] at ht
    obtain ⟨e1, e2⟩ := List.append_inj ht hl
    simp only [List.cons_append, List.nil_append, List.cons.injEq] at e2
    exact ⟨e2.1.trans h4, by rw [h1, e1, e2.1]⟩
theorem steps_all {l : Option (List Int)} {top i : Int} (h : ∀ x ∈ stepsA l top i, x.last = false) : False := by
  obtain ⟨pr, y, h1, h2, -⟩ := steps_last l top _ i (Nat.le_refl _)
  have := h y (by rw [h1]; simp)
  rw [h2] at this
  cases this

/-- May a walk be asked? -/
def wkB (a s top : Int) : Bool := mayB a s && decide (a ≤ top ∧ top ≤ a + s)
def stopA (l : Option (List Int)) (a s top : Int) : Int := if wkB a s top then (lastS l top a).at_ else 0
def stopE (l : Option (List Int)) (a s top : Int) : Int := if wkB a s top then (lastS l top a).e else 1
set_option maxRecDepth 100000
set_option maxHeartbeats 8000000
theorem stop_any (p : Option Addr) (l : Option (List Int)) (a s top : Int) (V : World) (hp : ArP V p l) :
    Calls Try.prog 14 #[.pointer p, .agg #[.int .i64 (a), .int .i64 (s)], .int .i64 top] V fun e w' => e = .returned (.tuple #[.int .i64 (stopA l a s top), .int .i64 (stopE l a s top)]) ∧ Ext V w' := by
  have HP := Lib.hid hp
  have hb4 := blk_old (o2 := .cells #[.int .i64 0] 25) (blk_old (o2 := .cells #[.int .i64 0] 3) (blk_new V #[.int .i64 a, .int .i64 s] 23 _ rfl))
  have hb6 := blk_old (o2 := .cells #[.int .i64 0] 25) (blk_new (V.alloc (.cells #[.int .i64 a, .int .i64 s] 23)) #[.int .i64 0] 3 (V.heap.size + 1) (by simp))
  have hb7 := blk_new ((V.alloc (.cells #[.int .i64 a, .int .i64 s] 23)).alloc (.cells #[.int .i64 0] 3)) #[.int .i64 0] 25 (V.heap.size + 1 + 1) (by simp)
  have hW : Ext V (((V.alloc (.cells #[.int .i64 a, .int .i64 s] 23)).alloc (.cells #[.int .i64 0] 3)).alloc (.cells #[.int .i64 0] 25)) := (((Ext.refl V).alloc _).alloc _).alloc _
  obtain ⟨b, hb⟩ : ∃ b, mayB a s = b := ⟨_, rfl⟩
  have HB := Lib.hid hb
  clear hb hp
  refine (callsIn_wide (n := 5)).1 ?_
  have hro : Fence.wide.round = none := rfl
  refine callsIn_of_wp_marks Try.func14 rfl trivial ?_ hro
  simp only [Try.ntmps14, List.size_toArray, List.length_cons, List.length_nil, Nat.reduceAdd, Nat.reduceSub, Array.replicate_succ, Array.replicate_zero, List.push_toArray, List.append_toArray, List.nil_append, List.cons_append]
  gi_wp2
  generalize ((V.alloc (.cells #[.int .i64 a, .int .i64 s] 23)).alloc (.cells #[.int .i64 0] 3)).alloc (.cells #[.int .i64 0] 25) = W at *
  generalize hX7 : V.heap.size + 1 + 1 = X7 at *
  generalize hX6 : V.heap.size + 1 = X6 at *
  have HX6 := Lib.hid hX6
  have HX7 := Lib.hid hX7
  clear hX6 hX7
  have HB4 := Lib.hid hb4
  have HB6 := Lib.hid hb6
  have HB7 := Lib.hid hb7
  have HW := Lib.hid hW
  clear hb4 hb6 hb7 hW
  refine ⟨trivial, ?_⟩
  refine (callsIn_wide.2 (mayS_is a s b HB.out _)).mono ?_
  rintro e w1 ⟨rfl, hx⟩
  have b4 := (hx.block (lt_of_heap HB4.out)).trans HB4.out
  have b6 := (hx.block (lt_of_heap HB6.out)).trans HB6.out
  have b7 := (hx.block (lt_of_heap HB7.out)).trans HB7.out
  have HXW := Lib.hid (HW.out.trans hx)
  have c0 : w1.cell? ⟨V.heap.size, 0, none⟩ = some (.int .i64 a) := by simp [World.cell?, b4]
  have c1 : w1.cell? ⟨V.heap.size, 1, none⟩ = some (.int .i64 s) := by simp [World.cell?, b4]
  have c2 : w1.cell? ⟨X6, 0, none⟩ = some (.int .i64 0) := by simp [World.cell?, b6]
  have c3 : w1.cell? ⟨X7, 0, none⟩ = some (.int .i64 0) := by simp [World.cell?, b7]
  have f2 : w1.frozen? ⟨X6, 0, none⟩ = false := by simp [World.frozen?, b6]
  have f3 : w1.frozen? ⟨X7, 0, none⟩ = false := by simp [World.frozen?, b7]
  have n67 : X6 ≠ X7 := by have := HX6.out; have := HX7.out; omega
  have n76 : X7 ≠ X6 := fun e => n67 e.symm
  have HBB4 := Lib.hid b4
  have HBB6 := Lib.hid b6
  have HBB7 := Lib.hid b7
  clear hx b4 b6 b7
  by_cases hk : wkB a s top = true
  rotate_left
  · have hk' : wkB a s top = false := by simpa using hk
    have HA : Hid (stopA l a s top = 0 ∧ stopE l a s top = 1) := Lib.hid (by rw [stopA, stopE, hk']; exact ⟨rfl, rfl⟩)
    have HXS : Hid (Ext V ((w1.setCell ⟨X6, 0, none⟩ (.int .i64 0)).setCell ⟨X7, 0, none⟩ (.int .i64 1))) := Lib.hid ((HXW.out.setCell (by have h1 := HX6.out; show V.heap.size ≤ X6; omega) _).setCell (by have h1 := HX6.out; have h2 := HX7.out; show V.heap.size ≤ X7; omega) _)
    cases b
    · clear hk hk'
      gi_wp2
      exact ⟨.tuple #[.int .i64 0, .int .i64 1], (by simp only [results, Try.results14]; go_simp), (by rw [HA.out.1, HA.out.2]), HXS.out⟩
    · obtain ⟨m1, m2, m3, m4⟩ := may_bd HB.out
      have hw : wrap64 (a + s) = a + s := IntWalk.wrap64_in _ ⟨by omega, by omega⟩
      by_cases h1 : top < a
      · have d1 : decide (top < a) = true := by simpa using h1
        clear hk hk'
        gi_wp2
        exact ⟨.tuple #[.int .i64 0, .int .i64 1], (by simp only [results, Try.results14]; go_simp), (by rw [HA.out.1, HA.out.2]), HXS.out⟩
      have d1 : decide (top < a) = false := by simpa using h1
      have d2 : decide (a + s < top) = true := by
        have := HB.out
        simp only [wkB, this, Bool.true_and, decide_eq_false_iff_not] at hk'
        simp only [decide_eq_true_eq]
        omega
      clear hk hk'
      gi_wp2
      exact ⟨.tuple #[.int .i64 0, .int .i64 1], (by simp only [results, Try.results14]; go_simp), (by rw [HA.out.1, HA.out.2]), HXS.out⟩
  obtain rfl : b = true := by
    have := HB.out
    unfold wkB at hk
    rw [this] at hk
    cases b
    · simp at hk
    · rfl
  obtain ⟨m1, m2, m3, m4⟩ := may_bd HB.out
  have hw : wrap64 (a + s) = a + s := IntWalk.wrap64_in _ ⟨by omega, by omega⟩
  obtain ⟨t1, t2⟩ : a ≤ top ∧ top ≤ a + s := by simpa [wkB, HB.out] using hk
  have d1 : decide (top < a) = false := by simp; omega
  have d2 : decide (a + s < top) = false := by simp; omega
  have HA : Hid (stopA l a s top = (lastS l top a).at_ ∧ stopE l a s top = (lastS l top a).e) := Lib.hid (by rw [stopA, stopE, hk]; exact ⟨rfl, rfl⟩)
  clear hk
  gi_wp2_with (refine ⟨trivial, ?_⟩; gi_at_call 64; refine (callsIn_wide.2 (walk_any _ _ _ _ _)).mono ?_; rintro e w' ⟨rfl, rfl⟩)
  have e0 := blk_old (o2 := .cells #[.int .i64 top] 3) (blk_old (o2 := .cells #[.int .i64 a, .int .i64 s] 23) (blk_new w1 #[.pointer p] 34 _ rfl))
  have e1 := blk_old (o2 := .cells #[.int .i64 top] 3) (blk_new (w1.alloc (.cells #[.pointer p] 34)) #[.int .i64 a, .int .i64 s] 23 (w1.heap.size + 1) (by simp))
  have e2 := blk_new ((w1.alloc (.cells #[.pointer p] 34)).alloc (.cells #[.int .i64 a, .int .i64 s] 23)) #[.int .i64 top] 3 (w1.heap.size + 2) (by simp)
  have hx2 : Ext w1 (((w1.alloc (.cells #[.pointer p] 34)).alloc (.cells #[.int .i64 a, .int .i64 s] 23)).alloc (.cells #[.int .i64 top] 3)) := (((Ext.refl w1).alloc _).alloc _).alloc _
  generalize ((w1.alloc (.cells #[.pointer p] 34)).alloc (.cells #[.int .i64 a, .int .i64 s] 23)).alloc (.cells #[.int .i64 top] 3) = w2 at *
  have hbg6 := (hx2.block (lt_of_heap HBB6.out)).trans HBB6.out
  have hbg7 := (hx2.block (lt_of_heap HBB7.out)).trans HBB7.out
  have hV2 : Ext V w2 := HXW.out.trans hx2
  have hl0 := lt_of_heap e0
  have hl1 := lt_of_heap e1
  have hl2 := lt_of_heap e2
  have hl6 := lt_of_heap hbg6
  have hl7 := lt_of_heap hbg7
  have hv6 := HX6.out
  have hv7 := HX7.out
  have hnl : ∀ b, ¬ Led w2 X6 b := fun b ⟨n, c, h⟩ => by simp [World.cell?, hbg6] at h
  clear c0 c1 c2 c3 f2 f3
  refine wpIn_rangeK (gf := 118) (lb := #[.pointer (some ⟨w1.heap.size + 1, 0, none⟩), .pointer (some ⟨w1.heap.size + 2, 0, none⟩), .pointer (some ⟨w1.heap.size, 0, none⟩)]) rfl (enters_of Try.func118 (by kernel_rfl) rfl)
    (walk1_stops w2.heap.size (w1.heap.size + 1) (w1.heap.size + 2) w1.heap.size X6 p l a s top w2 hl1 hl2 hl0 (by simp [World.cell?, e1]) (by simp [World.cell?, e2]) (by simp [World.cell?, e0]) (fun W' hb => HP.out.ext (hV2.trans hb)) (Nat.le_refl _) m1 t1 (by omega) hl6 hnl)
    (fun k hk => by rcases hk with rfl | rfl | rfl <;> omega) (Nat.le_refl _) (fun _ => rfl)
    (fun pre W => Ext w2 W ∧ Hid (∀ x ∈ pre, x.last = false))
    (fun c pre W => c = .ret ∧ Ext V W ∧ W.heap[X6]? = some (.cells #[.int .i64 (lastS l top a).at_] 3 (0, 0)) ∧ W.heap[X7]? = some (.cells #[.int .i64 (lastS l top a).e] 25 (0, 0)) ∧ w2.heap.size ≤ W.heap.size)
    (fun s A B h hab => ⟨Below.trans h.1 hab.below, h.2⟩)
    (fun c s A B h hab => ⟨h.1, Below.trans h.2.1 (Below.mono hab.below (by have := hV2.size; omega)), (hab.below.block X6 (by omega)).trans h.2.2.1, (hab.below.block X7 (by omega)).trans h.2.2.2.1, Nat.le_trans h.2.2.2.2 hab.below.size⟩)
    ⟨Ext.refl _, Lib.hid (by simp)⟩
    (fun pre x a' W => Ext w2 W ∧ Hid (∀ x ∈ pre, x.last = false) ∧ ∃ X, w2.heap.size ≤ X ∧ W.heap[X]? = some (.cells #[.int .i64 x.at_, .int .i64 x.h.k, .int .i64 x.h.f, .int .i64 x.h.r, .bool x.h.m, .int .i64 x.h.c, .int .i64 x.e, .bool x.last] 119 (0, 0)) ∧
      a' = { tmps := #[.pointer p, .agg #[.int .i64 a, .int .i64 s], .int .i64 top, undef, .pointer (some ⟨V.heap.size, 0, none⟩), undef, .pointer (some ⟨X6, 0, none⟩), .pointer (some ⟨X7, 0, none⟩), .pointer (some ⟨X, 0, none⟩), .agg #[.int .i64 a, .int .i64 s], .bool true, .bool false, .bool false, .int .i64 top, .pointer (some ⟨V.heap.size, 0, none⟩), .int .i64 a, .bool false, .bool false, .bool false, .int .i64 top, .pointer (some ⟨V.heap.size, 0, none⟩), .int .i64 a, .pointer (some ⟨V.heap.size, 1, none⟩), .int .i64 s, .int .i64 (a + s), .bool false, .bool false, .pointer p, .agg #[.int .i64 a, .int .i64 s], .int .i64 top, .func (.func 118) #[] #[.pointer (some ⟨w1.heap.size + 1, 0, none⟩), .pointer (some ⟨w1.heap.size + 2, 0, none⟩), .pointer (some ⟨w1.heap.size, 0, none⟩)], .agg #[.int .i64 x.at_, .int .i64 x.h.k, .int .i64 x.h.f, .int .i64 x.h.r, .bool x.h.m, .int .i64 x.h.c, .int .i64 x.e, .bool x.last], undef, undef, undef, undef, undef, undef, undef], defers := [] })
    ?hax ?assign ?body ?done ?stop
  case hax =>
    rintro pre x a' A B ⟨h1, h2, X, hX, hbX, rfl⟩ hb hk
    exact ⟨Below.trans h1 hb, h2, X, hX, hk X _ hbX rfl, rfl⟩
  case assign =>
    rintro lq pre x W K ⟨h1, h2⟩ hK
    have hsz := h1.size
    have H1 := Lib.hid h1
    clear h1
    gi_wp2
    exact hK _ _ ⟨H1.out.alloc _, h2, W.heap.size, hsz, World.alloc_heap_new _ _, rfl⟩ ((KeepsOthers.alloc _ _).from _) (KpX.ext ((Ext.refl W).alloc _) hsz (by omega))
  case body =>
    rintro lq pre x a' W ⟨h1, h2, X, hX, hbX, rfl⟩ hgd
    have HGD := Lib.hid (fun (h : x.last = true) => steps_pre hgd h)
    have H1 := Lib.hid h1
    have hs1 := h1.size
    have HB6W := Lib.hid ((h1.block hl6).trans hbg6)
    have HB7W := Lib.hid ((h1.block hl7).trans hbg7)
    have HBXW := Lib.hid hbX
    obtain ⟨xat, xh, xe, xl⟩ := x
    simp only at HGD
    have g3 : W.cell? ⟨X, 7, none⟩ = some (.bool xl) := by simp [World.cell?, hbX]
    clear h1 hgd hbX
    cases xl
    · gi_wp2
      refine ⟨keeps_ext (Ext.refl _), KpX.ext (Ext.refl _) hs1 (by omega), H1.out, Lib.hid fun y hy => ?_⟩
      rcases List.mem_append.1 hy with hy | hy
      · exact h2.out y hy
      · rcases List.mem_singleton.1 hy with rfl
        rfl
    · gi_wp2
      obtain ⟨hxl, hxe⟩ := HGD.out trivial
      have q0 : W.cell? ⟨X, 0, none⟩ = some (.int .i64 xat) := by simp [World.cell?, HBXW.out]
      have q2 : W.cell? ⟨X, 6, none⟩ = some (.int .i64 xe) := by simp [World.cell?, HBXW.out]
      have c6 : W.cell? ⟨X6, 0, none⟩ = some (.int .i64 0) := by simp [World.cell?, HB6W.out]
      have c7 : W.cell? ⟨X7, 0, none⟩ = some (.int .i64 0) := by simp [World.cell?, HB7W.out]
      have f6 : W.frozen? ⟨X6, 0, none⟩ = false := by simp [World.frozen?, HB6W.out]
      have f7 : W.frozen? ⟨X7, 0, none⟩ = false := by simp [World.frozen?, HB7W.out]
      have nx6 : X ≠ X6 := by omega
      have nx7 : X ≠ X7 := by omega
      have HXL := Lib.hid hxl
      clear g3 hxl hxe
      have HK2 := Lib.hid (((KeepsOthers.setCell W ⟨X6, 0, none⟩ (.int .i64 xat)).from w2.heap.size).trans ((KeepsOthers.setCell (W.setCell ⟨X6, 0, none⟩ (.int .i64 xat)) ⟨X7, 0, none⟩ (.int .i64 xe)).from w2.heap.size))
      have HXV := Lib.hid (((hV2.trans H1.out).setCell (p := ⟨X6, 0, none⟩) (by show V.heap.size ≤ X6; omega) (.int .i64 xat)).setCell (p := ⟨X7, 0, none⟩) (by show V.heap.size ≤ X7; omega) (.int .i64 xe))
      have HR6 : Hid (((W.setCell ⟨X6, 0, none⟩ (.int .i64 xat)).setCell ⟨X7, 0, none⟩ (.int .i64 xe)).heap[X6]? = some (.cells #[.int .i64 xat] 3 (0, 0))) := Lib.hid ((Below.heap_setCell _ ⟨X7, 0, none⟩ _ X6 n67).trans (by rw [heap_setCell_same W X6 0 _ _ _ HB6W.out]; rfl))
      have HR7 : Hid (((W.setCell ⟨X6, 0, none⟩ (.int .i64 xat)).setCell ⟨X7, 0, none⟩ (.int .i64 xe)).heap[X7]? = some (.cells #[.int .i64 xe] 25 (0, 0))) := Lib.hid (by
        have h5 := (Below.heap_setCell W ⟨X6, 0, none⟩ (.int .i64 xat) X7 n76).trans HB7W.out
        rw [heap_setCell_same _ X7 0 _ _ _ h5]; rfl)
      have hsz : w2.heap.size ≤ ((W.setCell ⟨X6, 0, none⟩ (.int .i64 xat)).setCell ⟨X7, 0, none⟩ (.int .i64 xe)).heap.size := by simpa using hs1
      gi_region
      all_goals gi_wp2
      all_goals (refine ⟨⟨HK2.out.size, HK2.out.same⟩, rfl, HXV.out.drew, ?_, ?_, hsz⟩)
      all_goals rw [← HXL.out]
      all_goals first | exact HR6.out | exact HR7.out
  case done =>
    rintro D ys W hD rfl ⟨h1, h2⟩ hK
    exact (steps_all h2.out).elim
  case stop =>
    rintro D c pre W hD hpre ⟨rfl, h1, h6, h7, h8⟩ hK
    gi_wp2
    refine ⟨by simp, .inl ⟨_, _, rfl, run_takeDeferred hK, ?_⟩⟩
    have hab : AbI w2.heap.size X6 W (W.putObj D (.deferred none)) := AbI.putObj hD hK rfl
    have g6 : (W.putObj D (.deferred none)).cell? ⟨X6, 0, none⟩ = some (.int .i64 (lastS l top a).at_) := by
      have := (hab.below.block X6 (by omega)).trans h6
      simp [World.cell?, this]
    have g7 : (W.putObj D (.deferred none)).cell? ⟨X7, 0, none⟩ = some (.int .i64 (lastS l top a).e) := by
      have := (hab.below.block X7 (by omega)).trans h7
      simp [World.cell?, this]
    have hxx := Below.trans h1 (Below.mono hab.below (by have := hV2.size; omega))
    generalize W.putObj D (.deferred none) = W4 at *
    exact ⟨.tuple #[.int .i64 (lastS l top a).at_, .int .i64 (lastS l top a).e], (by simp only [results, Try.results14]; go_simp), (by rw [HA.out.1, HA.out.2]), hxx⟩
end Go.Proofs.Ytkcpfimhbogdcaa
