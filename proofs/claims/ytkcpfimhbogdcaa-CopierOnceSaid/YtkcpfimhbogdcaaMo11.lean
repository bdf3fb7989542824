/- Merged by program (merge.py) out of: WkB, WkC, StA, WkD, AwA, LwN, RfC. -/
import Derived.BigRegionIn
import Derived.Test.YtkcpfimhbogdcaaMo10
import Derived.Test.YtkcpfimhbogdcaaMo1
import Derived.Test.YtkcpfimhbogdcaaMo7
import Derived.Test.YtkcpfimhbogdcaaMo9
/- Where a walk ends: walk.Stop. -/
set_option linter.unusedSimpArgs false
set_option linter.unusedVariables false
namespace Go.Proofs.Ytkcpfimhbogdcaa
open Go.RowKit Go.Shelf
attribute [local go_sem] Oper.semAt_some

theorem mayS_is (a s : Int) (b : Bool) (h : mayB a s = b) (w : World) : Calls Try.prog 15 #[.agg #[.int .i64 (a), .int .i64 (s)]] w fun e w' => e = .returned (.bool b) ∧ Ext w w' := by
  rw [← h]; exact may_any a s w
theorem walk_any (p : Option Addr) (a s top : Int) (w : World) :
    Calls Try.prog 64 #[.pointer p, .agg #[.int .i64 (a), .int .i64 (s)], .int .i64 top] w fun e w' => e = .returned (.func (.func 118) #[] #[.pointer (some ⟨w.heap.size + 1, 0, none⟩), .pointer (some ⟨w.heap.size + 2, 0, none⟩), .pointer (some ⟨w.heap.size, 0, none⟩)]) ∧ w' = ((w.alloc (.cells #[.pointer p] 34)).alloc (.cells #[.int .i64 a, .int .i64 s] 23)).alloc (.cells #[.int .i64 top] 3) := by
  go_enter Try.func64, Try.ntmps64
  go_wp2
  go_ret
  exact ⟨rfl, rfl⟩
/-- The last step: where a walk ends, and why. -/
def lastS (l : Option (List Int)) (top i : Int) : Stp := (stepsA l top i).getLastD ⟨i, hd0, 0, true⟩
theorem steps_last (l : Option (List Int)) (top : Int) : ∀ (n : Nat) (i : Int), (top - i).toNat ≤ n → ∃ pre x, stepsA l top i = pre ++ [x] ∧ x.last = true ∧ (∀ y ∈ pre, y.last = false) ∧ x = lastS l top i := by
  intro n
  induction n with
  | zero =>
    intro i hi
    have h := steps_end (l := l) (top := top) (i := i) (by omega)
    exact ⟨[], _, h, rfl, by simp, by rw [lastS, h]; rfl⟩
  | succ n ih =>
    intro i hi
    by_cases h : i < top
    · by_cases h2 : wkE l top i = 0
      · have hg := steps_go h h2
        have := head_size (wkE_head h2).1
        obtain ⟨pre, x, h3, h4, h5, h6⟩ := ih (i + hsize (headH l i)) (by omega)
        refine ⟨⟨i, headH l i, 0, false⟩ :: pre, x, by rw [hg, h3]; rfl, h4, fun y hy => ?_, ?_⟩
        · rcases List.mem_cons.1 hy with rfl | hy
          · rfl
          · exact h5 y hy
        · rw [lastS, hg, h3, ← List.cons_append]
          simp only [List.getLastD_eq_getLast?, List.getLast?_append, List.getLast?_singleton, Option.some_or, Option.getD_some]
      · have he := steps_err h h2
        exact ⟨[], _, he, rfl, by simp, by rw [lastS, he]; rfl⟩
    · have h := steps_end (l := l) (top := top) (i := i) h
      exact ⟨[], _, h, rfl, by simp, by rw [lastS, h]; rfl⟩
theorem steps_pre {l : Option (List Int)} {top i : Int} {pre : List Stp} {x : Stp} (h : pre ++ [x] <+: stepsA l top i) (hx : x.last = true) : x = lastS l top i ∧ pre ++ [x] = stepsA l top i := by
  obtain ⟨pr, y, h1, h2, h3, h4⟩ := steps_last l top _ i (Nat.le_refl _)
  obtain ⟨t, ht⟩ := h
  rw [h1] at ht
  have hlen : pre.length ≤ pr.length := by have := congrArg List.length ht; simp at this; omega
  rcases Nat.lt_or_ge pre.length pr.length with hlt | hge
  · exfalso
    have e := congrArg (fun l => l[pre.length]?) ht
    simp only [List.append_assoc, List.getElem?_append_right (Nat.le_refl _), Nat.sub_self, List.cons_append, List.getElem?_cons_zero] at e
    rw [List.getElem?_append_left hlt, List.getElem?_eq_getElem hlt] at e
    injection e with e
    have := h3 _ (List.getElem_mem hlt)
    rw [← e, hx] at this
    cases this
  · have hl : pre.length = pr.length := by omega
    rw [List.append_assoc] at ht
    obtain ⟨e1, e2⟩ := List.append_inj ht hl
    simp only [List.cons_append, List.nil_append, List.cons.injEq] at e2
    exact ⟨e2.1.trans h4, by rw [h1, e1, e2.1]⟩
theorem steps_all {l : Option (List Int)} {top i : Int} (h : ∀ x ∈ stepsA l top i, x.last = false) : False := by
  obtain ⟨pr, y, h1, h2, -⟩ := steps_last l top _ i (Nat.le_refl _)
  have := h y (by rw [h1]; simp)
  rw [h2] at this
  cases this

/-- May a walk be asked? -/
def wkB (a s top : Int) : Bool := mayB a s && decide (a ≤ top ∧ top ≤ a + s)
def stopA (l : Option (List Int)) (a s top : Int) : Int := if wkB a s top then (lastS l top a).at_ else 0
def stopE (l : Option (List Int)) (a s top : Int) : Int := if wkB a s top then (lastS l top a).e else 1
set_option maxRecDepth 100000
set_option maxHeartbeats 8000000
theorem stop_any (p : Option Addr) (l : Option (List Int)) (a s top : Int) (V : World) (hp : ArP V p l) :
    Calls Try.prog 14 #[.pointer p, .agg #[.int .i64 (a), .int .i64 (s)], .int .i64 top] V fun e w' => e = .returned (.tuple #[.int .i64 (stopA l a s top), .int .i64 (stopE l a s top)]) ∧ Ext V w' := by
  have HP := Lib.hid hp
  have hb4 := blk_old (o2 := .cells #[.int .i64 0] 25) (blk_old (o2 := .cells #[.int .i64 0] 3) (blk_new V #[.int .i64 a, .int .i64 s] 23 _ rfl))
  have hb6 := blk_old (o2 := .cells #[.int .i64 0] 25) (blk_new (V.alloc (.cells #[.int .i64 a, .int .i64 s] 23)) #[.int .i64 0] 3 (V.heap.size + 1) (by simp))
  have hb7 := blk_new ((V.alloc (.cells #[.int .i64 a, .int .i64 s] 23)).alloc (.cells #[.int .i64 0] 3)) #[.int .i64 0] 25 (V.heap.size + 1 + 1) (by simp)
  have hW : Ext V (((V.alloc (.cells #[.int .i64 a, .int .i64 s] 23)).alloc (.cells #[.int .i64 0] 3)).alloc (.cells #[.int .i64 0] 25)) := (((Ext.refl V).alloc _).alloc _).alloc _
  obtain ⟨b, hb⟩ : ∃ b, mayB a s = b := ⟨_, rfl⟩
  have HB := Lib.hid hb
  clear hb hp
  refine (callsIn_wide (n := 5)).1 ?_
  have hro : Fence.wide.round = none := rfl
  refine callsIn_of_wp_marks Try.func14 rfl trivial ?_ hro
  simp only [Try.ntmps14, List.size_toArray, List.length_cons, List.length_nil, Nat.reduceAdd, Nat.reduceSub, Array.replicate_succ, Array.replicate_zero, List.push_toArray, List.append_toArray, List.nil_append, List.cons_append]
  gi_wp2
  generalize ((V.alloc (.cells #[.int .i64 a, .int .i64 s] 23)).alloc (.cells #[.int .i64 0] 3)).alloc (.cells #[.int .i64 0] 25) = W at *
  generalize hX7 : V.heap.size + 1 + 1 = X7 at *
  generalize hX6 : V.heap.size + 1 = X6 at *
  have HX6 := Lib.hid hX6
  have HX7 := Lib.hid hX7
  clear hX6 hX7
  have HB4 := Lib.hid hb4
  have HB6 := Lib.hid hb6
  have HB7 := Lib.hid hb7
  have HW := Lib.hid hW
  clear hb4 hb6 hb7 hW
  refine ⟨trivial, ?_⟩
  refine (callsIn_wide.2 (mayS_is a s b HB.out _)).mono ?_
  rintro e w1 ⟨rfl, hx⟩
  have b4 := (hx.block (lt_of_heap HB4.out)).trans HB4.out
  have b6 := (hx.block (lt_of_heap HB6.out)).trans HB6.out
  have b7 := (hx.block (lt_of_heap HB7.out)).trans HB7.out
  have HXW := Lib.hid (HW.out.trans hx)
  have c0 : w1.cell? ⟨V.heap.size, 0, none⟩ = some (.int .i64 a) := by simp [World.cell?, b4]
  have c1 : w1.cell? ⟨V.heap.size, 1, none⟩ = some (.int .i64 s) := by simp [World.cell?, b4]
  have c2 : w1.cell? ⟨X6, 0, none⟩ = some (.int .i64 0) := by simp [World.cell?, b6]
  have c3 : w1.cell? ⟨X7, 0, none⟩ = some (.int .i64 0) := by simp [World.cell?, b7]
  have f2 : w1.frozen? ⟨X6, 0, none⟩ = false := by simp [World.frozen?, b6]
  have f3 : w1.frozen? ⟨X7, 0, none⟩ = false := by simp [World.frozen?, b7]
  have n67 : X6 ≠ X7 := by have := HX6.out; have := HX7.out; omega
  have n76 : X7 ≠ X6 := fun e => n67 e.symm
  have HBB4 := Lib.hid b4
  have HBB6 := Lib.hid b6
  have HBB7 := Lib.hid b7
  clear hx b4 b6 b7
  by_cases hk : wkB a s top = true
  rotate_left
  · have hk' : wkB a s top = false := by simpa using hk
    have HA : Hid (stopA l a s top = 0 ∧ stopE l a s top = 1) := Lib.hid (by rw [stopA, stopE, hk']; exact ⟨rfl, rfl⟩)
    have HXS : Hid (Ext V ((w1.setCell ⟨X6, 0, none⟩ (.int .i64 0)).setCell ⟨X7, 0, none⟩ (.int .i64 1))) := Lib.hid ((HXW.out.setCell (by have h1 := HX6.out; show V.heap.size ≤ X6; omega) _).setCell (by have h1 := HX6.out; have h2 := HX7.out; show V.heap.size ≤ X7; omega) _)
    cases b
    · clear hk hk'
      gi_wp2
      exact ⟨.tuple #[.int .i64 0, .int .i64 1], (by simp only [results, Try.results14]; go_simp), (by rw [HA.out.1, HA.out.2]), HXS.out⟩
    · obtain ⟨m1, m2, m3, m4⟩ := may_bd HB.out
      have hw : wrap64 (a + s) = a + s := IntWalk.wrap64_in _ ⟨by omega, by omega⟩
      by_cases h1 : top < a
      · have d1 : decide (top < a) = true := by simpa using h1
        clear hk hk'
        gi_wp2
        exact ⟨.tuple #[.int .i64 0, .int .i64 1], (by simp only [results, Try.results14]; go_simp), (by rw [HA.out.1, HA.out.2]), HXS.out⟩
      have d1 : decide (top < a) = false := by simpa using h1
      have d2 : decide (a + s < top) = true := by
        have := HB.out
        simp only [wkB, this, Bool.true_and, decide_eq_false_iff_not] at hk'
        simp only [decide_eq_true_eq]
        omega
      clear hk hk'
      gi_wp2
      exact ⟨.tuple #[.int .i64 0, .int .i64 1], (by simp only [results, Try.results14]; go_simp), (by rw [HA.out.1, HA.out.2]), HXS.out⟩
  obtain rfl : b = true := by
    have := HB.out
    unfold wkB at hk
    rw [this] at hk
    cases b
    · simp at hk
    · rfl
  obtain ⟨m1, m2, m3, m4⟩ := may_bd HB.out
  have hw : wrap64 (a + s) = a + s := IntWalk.wrap64_in _ ⟨by omega, by omega⟩
  obtain ⟨t1, t2⟩ : a ≤ top ∧ top ≤ a + s := by simpa [wkB, HB.out] using hk
  have d1 : decide (top < a) = false := by simp; omega
  have d2 : decide (a + s < top) = false := by simp; omega
  have HA : Hid (stopA l a s top = (lastS l top a).at_ ∧ stopE l a s top = (lastS l top a).e) := Lib.hid (by rw [stopA, stopE, hk]; exact ⟨rfl, rfl⟩)
  clear hk
  gi_wp2_with (refine ⟨trivial, ?_⟩; gi_at_call 64; refine (callsIn_wide.2 (walk_any _ _ _ _ _)).mono ?_; rintro e w' ⟨rfl, rfl⟩)
  have e0 := blk_old (o2 := .cells #[.int .i64 top] 3) (blk_old (o2 := .cells #[.int .i64 a, .int .i64 s] 23) (blk_new w1 #[.pointer p] 34 _ rfl))
  have e1 := blk_old (o2 := .cells #[.int .i64 top] 3) (blk_new (w1.alloc (.cells #[.pointer p] 34)) #[.int .i64 a, .int .i64 s] 23 (w1.heap.size + 1) (by simp))
  have e2 := blk_new ((w1.alloc (.cells #[.pointer p] 34)).alloc (.cells #[.int .i64 a, .int .i64 s] 23)) #[.int .i64 top] 3 (w1.heap.size + 2) (by simp)
  have hx2 : Ext w1 (((w1.alloc (.cells #[.pointer p] 34)).alloc (.cells #[.int .i64 a, .int .i64 s] 23)).alloc (.cells #[.int .i64 top] 3)) := (((Ext.refl w1).alloc _).alloc _).alloc _
  generalize ((w1.alloc (.cells #[.pointer p] 34)).alloc (.cells #[.int .i64 a, .int .i64 s] 23)).alloc (.cells #[.int .i64 top] 3) = w2 at *
  have hbg6 := (hx2.block (lt_of_heap HBB6.out)).trans HBB6.out
  have hbg7 := (hx2.block (lt_of_heap HBB7.out)).trans HBB7.out
  have hV2 : Ext V w2 := HXW.out.trans hx2
  have hl0 := lt_of_heap e0
  have hl1 := lt_of_heap e1
  have hl2 := lt_of_heap e2
  have hl6 := lt_of_heap hbg6
  have hl7 := lt_of_heap hbg7
  have hv6 := HX6.out
  have hv7 := HX7.out
  have hnl : ∀ b, ¬ Led w2 X6 b := fun b ⟨n, c, h⟩ => by simp [World.cell?, hbg6] at h
  clear c0 c1 c2 c3 f2 f3
  refine wpIn_rangeK (gf := 118) (lb := #[.pointer (some ⟨w1.heap.size + 1, 0, none⟩), .pointer (some ⟨w1.heap.size + 2, 0, none⟩), .pointer (some ⟨w1.heap.size, 0, none⟩)]) rfl (enters_of Try.func118 (by kernel_rfl) rfl)
    (walk1_stops w2.heap.size (w1.heap.size + 1) (w1.heap.size + 2) w1.heap.size X6 p l a s top w2 hl1 hl2 hl0 (by simp [World.cell?, e1]) (by simp [World.cell?, e2]) (by simp [World.cell?, e0]) (fun W' hb => HP.out.ext (hV2.trans hb)) (Nat.le_refl _) m1 t1 (by omega) hl6 hnl)
    (fun k hk => by rcases hk with rfl | rfl | rfl <;> omega) (Nat.le_refl _) (fun _ => rfl)
    (fun pre W => Ext w2 W ∧ Hid (∀ x ∈ pre, x.last = false))
    (fun c pre W => c = .ret ∧ Ext V W ∧ W.heap[X6]? = some (.cells #[.int .i64 (lastS l top a).at_] 3 (0, 0)) ∧ W.heap[X7]? = some (.cells #[.int .i64 (lastS l top a).e] 25 (0, 0)) ∧ w2.heap.size ≤ W.heap.size)
    (fun s A B h hab => ⟨Below.trans h.1 hab.below, h.2⟩)
    (fun c s A B h hab => ⟨h.1, Below.trans h.2.1 (Below.mono hab.below (by have := hV2.size; omega)), (hab.below.block X6 (by omega)).trans h.2.2.1, (hab.below.block X7 (by omega)).trans h.2.2.2.1, Nat.le_trans h.2.2.2.2 hab.below.size⟩)
    ⟨Ext.refl _, Lib.hid (by simp)⟩
    (fun pre x a' W => Ext w2 W ∧ Hid (∀ x ∈ pre, x.last = false) ∧ ∃ X, w2.heap.size ≤ X ∧ W.heap[X]? = some (.cells #[.int .i64 x.at_, .int .i64 x.h.k, .int .i64 x.h.f, .int .i64 x.h.r, .bool x.h.m, .int .i64 x.h.c, .int .i64 x.e, .bool x.last] 119 (0, 0)) ∧
      a' = { tmps := #[.pointer p, .agg #[.int .i64 a, .int .i64 s], .int .i64 top, undef, .pointer (some ⟨V.heap.size, 0, none⟩), undef, .pointer (some ⟨X6, 0, none⟩), .pointer (some ⟨X7, 0, none⟩), .pointer (some ⟨X, 0, none⟩), .agg #[.int .i64 a, .int .i64 s], .bool true, .bool false, .bool false, .int .i64 top, .pointer (some ⟨V.heap.size, 0, none⟩), .int .i64 a, .bool false, .bool false, .bool false, .int .i64 top, .pointer (some ⟨V.heap.size, 0, none⟩), .int .i64 a, .pointer (some ⟨V.heap.size, 1, none⟩), .int .i64 s, .int .i64 (a + s), .bool false, .bool false, .pointer p, .agg #[.int .i64 a, .int .i64 s], .int .i64 top, .func (.func 118) #[] #[.pointer (some ⟨w1.heap.size + 1, 0, none⟩), .pointer (some ⟨w1.heap.size + 2, 0, none⟩), .pointer (some ⟨w1.heap.size, 0, none⟩)], .agg #[.int .i64 x.at_, .int .i64 x.h.k, .int .i64 x.h.f, .int .i64 x.h.r, .bool x.h.m, .int .i64 x.h.c, .int .i64 x.e, .bool x.last], undef, undef, undef, undef, undef, undef, undef], defers := [] })
    ?hax ?assign ?body ?done ?stop
  case hax =>
    rintro pre x a' A B ⟨h1, h2, X, hX, hbX, rfl⟩ hb hk
    exact ⟨Below.trans h1 hb, h2, X, hX, hk X _ hbX rfl, rfl⟩
  case assign =>
    rintro lq pre x W K ⟨h1, h2⟩ hK
    have hsz := h1.size
    have H1 := Lib.hid h1
    clear h1
    gi_wp2
    exact hK _ _ ⟨H1.out.alloc _, h2, W.heap.size, hsz, World.alloc_heap_new _ _, rfl⟩ ((KeepsOthers.alloc _ _).from _) (KpX.ext ((Ext.refl W).alloc _) hsz (by omega))
  case body =>
    rintro lq pre x a' W ⟨h1, h2, X, hX, hbX, rfl⟩ hgd
    have HGD := Lib.hid (fun (h : x.last = true) => steps_pre hgd h)
    have H1 := Lib.hid h1
    have hs1 := h1.size
    have HB6W := Lib.hid ((h1.block hl6).trans hbg6)
    have HB7W := Lib.hid ((h1.block hl7).trans hbg7)
    have HBXW := Lib.hid hbX
    obtain ⟨xat, xh, xe, xl⟩ := x
    simp only at HGD
    have g3 : W.cell? ⟨X, 7, none⟩ = some (.bool xl) := by simp [World.cell?, hbX]
    clear h1 hgd hbX
    cases xl
    · gi_wp2
      refine ⟨keeps_ext (Ext.refl _), KpX.ext (Ext.refl _) hs1 (by omega), H1.out, Lib.hid fun y hy => ?_⟩
      rcases List.mem_append.1 hy with hy | hy
      · exact h2.out y hy
      · rcases List.mem_singleton.1 hy with rfl
        rfl
    · gi_wp2
      obtain ⟨hxl, hxe⟩ := HGD.out trivial
      have q0 : W.cell? ⟨X, 0, none⟩ = some (.int .i64 xat) := by simp [World.cell?, HBXW.out]
      have q2 : W.cell? ⟨X, 6, none⟩ = some (.int .i64 xe) := by simp [World.cell?, HBXW.out]
      have c6 : W.cell? ⟨X6, 0, none⟩ = some (.int .i64 0) := by simp [World.cell?, HB6W.out]
      have c7 : W.cell? ⟨X7, 0, none⟩ = some (.int .i64 0) := by simp [World.cell?, HB7W.out]
      have f6 : W.frozen? ⟨X6, 0, none⟩ = false := by simp [World.frozen?, HB6W.out]
      have f7 : W.frozen? ⟨X7, 0, none⟩ = false := by simp [World.frozen?, HB7W.out]
      have nx6 : X ≠ X6 := by omega
      have nx7 : X ≠ X7 := by omega
      have HXL := Lib.hid hxl
      clear g3 hxl hxe
      have HK2 := Lib.hid (((KeepsOthers.setCell W ⟨X6, 0, none⟩ (.int .i64 xat)).from w2.heap.size).trans ((KeepsOthers.setCell (W.setCell ⟨X6, 0, none⟩ (.int .i64 xat)) ⟨X7, 0, none⟩ (.int .i64 xe)).from w2.heap.size))
      have HXV := Lib.hid (((hV2.trans H1.out).setCell (p := ⟨X6, 0, none⟩) (by show V.heap.size ≤ X6; omega) (.int .i64 xat)).setCell (p := ⟨X7, 0, none⟩) (by show V.heap.size ≤ X7; omega) (.int .i64 xe))
      have HR6 : Hid (((W.setCell ⟨X6, 0, none⟩ (.int .i64 xat)).setCell ⟨X7, 0, none⟩ (.int .i64 xe)).heap[X6]? = some (.cells #[.int .i64 xat] 3 (0, 0))) := Lib.hid ((Below.heap_setCell _ ⟨X7, 0, none⟩ _ X6 n67).trans (by rw [heap_setCell_same W X6 0 _ _ _ HB6W.out]; rfl))
      have HR7 : Hid (((W.setCell ⟨X6, 0, none⟩ (.int .i64 xat)).setCell ⟨X7, 0, none⟩ (.int .i64 xe)).heap[X7]? = some (.cells #[.int .i64 xe] 25 (0, 0))) := Lib.hid (by
        have h5 := (Below.heap_setCell W ⟨X6, 0, none⟩ (.int .i64 xat) X7 n76).trans HB7W.out
        rw [heap_setCell_same _ X7 0 _ _ _ h5]; rfl)
      have hsz : w2.heap.size ≤ ((W.setCell ⟨X6, 0, none⟩ (.int .i64 xat)).setCell ⟨X7, 0, none⟩ (.int .i64 xe)).heap.size := by simpa using hs1
      gi_region
      all_goals gi_wp2
      all_goals (refine ⟨⟨HK2.out.size, HK2.out.same⟩, rfl, HXV.out.drew, ?_, ?_, hsz⟩)
      all_goals rw [← HXL.out]
      all_goals first | exact HR6.out | exact HR7.out
  case done =>
    rintro D ys W hD rfl ⟨h1, h2⟩ hK
    exact (steps_all h2.out).elim
  case stop =>
    rintro D c pre W hD hpre ⟨rfl, h1, h6, h7, h8⟩ hK
    gi_wp2
    refine ⟨by simp, .inl ⟨_, _, rfl, run_takeDeferred hK, ?_⟩⟩
    have hab : AbI w2.heap.size X6 W (W.putObj D (.deferred none)) := AbI.putObj hD hK rfl
    have g6 : (W.putObj D (.deferred none)).cell? ⟨X6, 0, none⟩ = some (.int .i64 (lastS l top a).at_) := by
      have := (hab.below.block X6 (by omega)).trans h6
      simp [World.cell?, this]
    have g7 : (W.putObj D (.deferred none)).cell? ⟨X7, 0, none⟩ = some (.int .i64 (lastS l top a).e) := by
      have := (hab.below.block X7 (by omega)).trans h7
      simp [World.cell?, this]
    have hxx := Below.trans h1 (Below.mono hab.below (by have := hV2.size; omega))
    generalize W.putObj D (.deferred none) = W4 at *
    exact ⟨.tuple #[.int .i64 (lastS l top a).at_, .int .i64 (lastS l top a).e], (by simp only [results, Try.results14]; go_simp), (by rw [HA.out.1, HA.out.2]), hxx⟩
end Go.Proofs.Ytkcpfimhbogdcaa

/- The places of all objects of a walk: walk.List. -/
set_option linter.unusedSimpArgs false
set_option linter.unusedVariables false
namespace Go.Proofs.Ytkcpfimhbogdcaa
open Go.RowKit Go.Shelf
attribute [local go_sem] Oper.semAt_some

def placesL (pre : List Stp) : List Int := (pre.filter fun x => !x.last).map (·.at_)
theorem places_go (pre : List Stp) (x : Stp) (h : x.last = false) : placesL (pre ++ [x]) = placesL pre ++ [x.at_] := by simp [placesL, h]
theorem places_last (pre : List Stp) (x : Stp) (h : x.last = true) : placesL (pre ++ [x]) = placesL pre := by simp [placesL, h]
theorem places_len (pre : List Stp) : (placesL pre).length ≤ pre.length := by simp only [placesL, List.length_map]; exact List.length_filter_le _ _
theorem steps_len (l : Option (List Int)) (top : Int) : ∀ (n : Nat) (i : Int), (stepsF l top n i).length ≤ n + 1 := by
  intro n
  induction n with
  | zero => intro i; simp [stepsF]
  | succ n ih =>
    intro i
    rw [stepsF]
    split
    · split
      · have := ih (i + hsize (headH l i)); simp; omega
      · simp
    · simp
/-- The places of the objects of a walk. -/
def listA (l : Option (List Int)) (a s top : Int) : List Int := if stopE l a s top = 0 then placesL (stepsA l top a) else []
theorem stop_is (p : Option Addr) (l : Option (List Int)) (a s top x er : Int) (h1 : stopA l a s top = x) (h2 : stopE l a s top = er) (V : World) (hp : ArP V p l) :
    Calls Try.prog 14 #[.pointer p, .agg #[.int .i64 (a), .int .i64 (s)], .int .i64 top] V fun e w' => e = .returned (.tuple #[.int .i64 x, .int .i64 er]) ∧ Ext V w' := by
  rw [← h1, ← h2]; exact stop_any p l a s top V hp
/-- A slice of numbers and an error come back. -/
def RetIE (V : World) (zs : List Int) (er : Int) (e : Ending) (w' : World) : Prop := ∃ A1 cap1, e = .returned (.tuple #[.slice A1 zs.length cap1, .int .i64 er]) ∧ IntsAt w' A1 zs ∧ Ext V w'
/-- The same, the slice being the call's own. -/
def RetIO (V : World) (zs : List Int) (er : Int) (e : Ending) (w' : World) : Prop := ∃ A1 cap1, e = .returned (.tuple #[.slice A1 zs.length cap1, .int .i64 er]) ∧ Own 3 1 intC w' V.heap.size (.slice A1 zs.length cap1) zs ∧ Ext V w'
set_option maxRecDepth 100000
set_option maxHeartbeats 8000000
theorem list_own (p : Option Addr) (l : Option (List Int)) (a s top : Int) (V : World) (hp : ArP V p l) :
    Calls Try.prog 13 #[.pointer p, .agg #[.int .i64 (a), .int .i64 (s)], .int .i64 top] V (RetIO V (listA l a s top) (stopE l a s top)) := by
  have HP := Lib.hid hp
  have hb4 := blk_new V #[.int .i64 a, .int .i64 s] 23 _ rfl
  have hW : Ext V (V.alloc (.cells #[.int .i64 a, .int .i64 s] 23)) := (Ext.refl V).alloc _
  obtain ⟨x0, hx0⟩ : ∃ x, stopA l a s top = x := ⟨_, rfl⟩
  obtain ⟨er, her⟩ : ∃ x, stopE l a s top = x := ⟨_, rfl⟩
  have HSA := Lib.hid hx0
  have HSE := Lib.hid her
  have HLA := Lib.hid (show listA l a s top = if er = 0 then placesL (stepsA l top a) else [] by rw [listA, her])
  clear hx0 her hp
  refine (callsIn_wide (n := 5)).1 ?_
  have hro : Fence.wide.round = none := rfl
  refine callsIn_of_wp_marks Try.func13 rfl trivial ?_ hro
  simp only [Try.ntmps13, List.size_toArray, List.length_cons, List.length_nil, Nat.reduceAdd, Nat.reduceSub, Array.replicate_succ, Array.replicate_zero, List.push_toArray, List.append_toArray, List.nil_append, List.cons_append]
  gi_wp2
  generalize V.alloc (.cells #[.int .i64 a, .int .i64 s] 23) = W at *
  refine ⟨trivial, ?_⟩
  refine (callsIn_wide.2 (stop_is p l a s top x0 er HSA.out HSE.out _ (HP.out.ext hW))).mono ?_
  rintro e w1 ⟨rfl, hx⟩
  have b4 := (hx.block (lt_of_heap hb4)).trans hb4
  have c0 : w1.cell? ⟨V.heap.size, 0, none⟩ = some (.int .i64 a) := by simp [World.cell?, b4]
  have c1 : w1.cell? ⟨V.heap.size, 1, none⟩ = some (.int .i64 s) := by simp [World.cell?, b4]
  have hlt4 := lt_of_heap b4
  have HXV := Lib.hid (hW.trans hx)
  clear hx hb4 hW b4
  by_cases h0 : er = 0
  rotate_left
  · have hne : (er != 0) = true := by simpa using h0
    have HL0 := Lib.hid (HLA.out.trans (if_neg h0))
    clear h0 HLA
    gi_wp2
    exact ⟨.tuple #[.slice none 0 0, .int .i64 er], (by simp only [results, Try.results13]; go_simp), by rw [HSE.out, HL0.out]; exact ⟨none, 0, rfl, Own.nil _ _ _ _ _, HXV.out⟩⟩
  subst h0
  have HL0 := Lib.hid (HLA.out.trans (if_pos rfl))
  clear HLA
  have hk : wkB a s top = true := by
    have := HSE.out
    cases h : wkB a s top
    · rw [stopE, h] at this; simp at this
    · rfl
  obtain ⟨hm, ht⟩ : mayB a s = true ∧ (a ≤ top ∧ top ≤ a + s) := by simpa [wkB] using hk
  obtain ⟨m1, m2, m3, m4⟩ := may_bd hm
  obtain ⟨t1, t2⟩ := ht
  clear hk hm
  gi_wp2_with (refine ⟨trivial, ?_⟩; gi_at_call 64; refine (callsIn_wide.2 (walk_any _ _ _ _ _)).mono ?_; rintro e w' ⟨rfl, rfl⟩)
  have eC := blk_old (o2 := .cells #[.int .i64 top] 3) (blk_old (o2 := .cells #[.int .i64 a, .int .i64 s] 23) (blk_old (o2 := .cells #[.pointer p] 34) (blk_new w1 #[.slice none 0 0] 24 _ rfl)))
  have e0 := blk_old (o2 := .cells #[.int .i64 top] 3) (blk_old (o2 := .cells #[.int .i64 a, .int .i64 s] 23) (blk_new (w1.alloc (.cells #[.slice none 0 0] 24)) #[.pointer p] 34 (w1.heap.size + 1) (by simp)))
  have e1 := blk_old (o2 := .cells #[.int .i64 top] 3) (blk_new ((w1.alloc (.cells #[.slice none 0 0] 24)).alloc (.cells #[.pointer p] 34)) #[.int .i64 a, .int .i64 s] 23 (w1.heap.size + 1 + 1) (by simp))
  have e2 := blk_new (((w1.alloc (.cells #[.slice none 0 0] 24)).alloc (.cells #[.pointer p] 34)).alloc (.cells #[.int .i64 a, .int .i64 s] 23)) #[.int .i64 top] 3 (w1.heap.size + 1 + 2) (by simp)
  have hx2 : Ext w1 ((((w1.alloc (.cells #[.slice none 0 0] 24)).alloc (.cells #[.pointer p] 34)).alloc (.cells #[.int .i64 a, .int .i64 s] 23)).alloc (.cells #[.int .i64 top] 3)) := ((((Ext.refl w1).alloc _).alloc _).alloc _).alloc _
  generalize (((w1.alloc (.cells #[.slice none 0 0] 24)).alloc (.cells #[.pointer p] 34)).alloc (.cells #[.int .i64 a, .int .i64 s] 23)).alloc (.cells #[.int .i64 top] 3) = w2 at *
  have hV2 : Ext V w2 := HXV.out.trans hx2
  have hvc : V.heap.size < w1.heap.size := hlt4
  have hlC := lt_of_heap eC
  have hl0 := lt_of_heap e0
  have hl1 := lt_of_heap e1
  have hl2 := lt_of_heap e2
  generalize w1.heap.size = C at *
  have hnl : ∀ b, ¬ Led w2 C b := fun b ⟨n, c, h⟩ => by simp [World.cell?, eC] at h
  have HLN : Hid ((stepsA l top a).length ≤ 1099511627777) := Lib.hid (by have := steps_len l top (top - a).toNat a; unfold stepsA; omega)
  clear c0 c1
  refine wpIn_rangeK (gf := 118) (lb := #[.pointer (some ⟨C + 1 + 1, 0, none⟩), .pointer (some ⟨C + 1 + 2, 0, none⟩), .pointer (some ⟨C + 1, 0, none⟩)]) rfl (enters_of Try.func118 (by kernel_rfl) rfl)
    (walk1_stops V.heap.size (C + 1 + 1) (C + 1 + 2) (C + 1) C p l a s top w2 hl1 hl2 hl0 (by simp [World.cell?, e1]) (by simp [World.cell?, e2]) (by simp [World.cell?, e0]) (fun W' hb => HP.out.ext (Below.trans hV2 hb)) (by omega) m1 t1 (by omega) hlC hnl)
    (fun k hk => by rcases hk with rfl | rfl | rfl <;> omega) (by omega) (fun _ => rfl)
    (fun pre W => (∃ v, CollG 3 1 intC w2.heap.size C 24 (placesL pre) W v) ∧ Ext V W ∧ w2.heap.size ≤ W.heap.size) (fun _ _ _ => False)
    (fun s A B h hab => ⟨h.1.imp fun v hv => hv.abI (by omega) hab, Below.trans h.2.1 (Below.mono hab.below (by omega)), Nat.le_trans h.2.2 hab.below.size⟩)
    (fun _ _ _ _ h _ => h)
    ⟨⟨_, eC, Own.nil _ _ _ _ _⟩, hV2, Nat.le_refl _⟩
    (fun pre x a' W => (∃ v, CollG 3 1 intC w2.heap.size C 24 (placesL pre) W v) ∧ Ext V W ∧ ∃ X, w2.heap.size ≤ X ∧ W.heap[X]? = some (.cells #[.int .i64 x.at_, .int .i64 x.h.k, .int .i64 x.h.f, .int .i64 x.h.r, .bool x.h.m, .int .i64 x.h.c, .int .i64 x.e, .bool x.last] 119 (0, 0)) ∧
      a' = { tmps := #[.pointer p, .agg #[.int .i64 a, .int .i64 s], .int .i64 top, undef, .pointer (some ⟨V.heap.size, 0, none⟩), undef, .slice none 0 0, .int .i64 0, .int .i64 x0, .int .i64 0, .pointer (some ⟨C, 0, none⟩), .pointer (some ⟨X, 0, none⟩), .tuple #[.int .i64 x0, .int .i64 0], .pointer p, .agg #[.int .i64 a, .int .i64 s], .int .i64 top, .tuple #[.int .i64 x0, .int .i64 0], .int .i64 x0, .int .i64 0, .int .i64 0, .bool false, undef, .pointer p, .agg #[.int .i64 a, .int .i64 s], .int .i64 top, .func (.func 118) #[] #[.pointer (some ⟨C + 1 + 1, 0, none⟩), .pointer (some ⟨C + 1 + 2, 0, none⟩), .pointer (some ⟨C + 1, 0, none⟩)], .agg #[.int .i64 x.at_, .int .i64 x.h.k, .int .i64 x.h.f, .int .i64 x.h.r, .bool x.h.m, .int .i64 x.h.c, .int .i64 x.e, .bool x.last], undef, undef, undef, undef, undef, undef, undef, undef, undef], defers := [] })
    ?hax ?assign ?body ?done ?stop
  case hax =>
    rintro pre x a' A B ⟨⟨v, hv⟩, hE, X, hX, hbX, rfl⟩ hb hk
    exact ⟨⟨v, hv.keep (by omega) hk⟩, Below.trans hE (Below.mono hb (by omega)), X, hX, hk X _ hbX rfl, rfl⟩
  case assign =>
    rintro lq pre x W K ⟨⟨v, hv⟩, hE, hS⟩ hK
    have hsz := Ext.size hE
    have HV := Lib.hid hv
    have HE := Lib.hid hE
    clear hv hE
    gi_wp2
    exact hK _ _ ⟨⟨v, HV.out.ext ((Ext.refl W).alloc _)⟩, HE.out.alloc _, W.heap.size, hS, World.alloc_heap_new _ _, rfl⟩ ((KeepsOthers.alloc _ _).from _) (KpX.ext ((Ext.refl W).alloc _) (by omega) (by omega))
  case body =>
    rintro lq pre x a' W ⟨⟨v, hv⟩, hE, X, hX, hbX, rfl⟩ hgd
    have hlen : (placesL pre).length ≤ 1099511627777 := by
      have h1 := hgd.length_le
      have h2 := places_len pre
      have h3 := HLN.out
      simp only [List.length_append] at h1
      omega
    have hltX := lt_of_heap hbX
    have hsz := Ext.size hE
    have HV := Lib.hid hv
    have HE := Lib.hid hE
    obtain ⟨xat, xh, xe, xl⟩ := x
    have g3 : W.cell? ⟨X, 7, none⟩ = some (.bool xl) := by simp [World.cell?, hbX]
    have g0 : W.cell? ⟨X, 0, none⟩ = some (.int .i64 xat) := by simp [World.cell?, hbX]
    obtain ⟨c1, c2⟩ := hv.cell
    clear hv hE hbX hgd
    cases xl
    · have HPG := Lib.hid (places_go pre ⟨xat, xh, xe, false⟩ rfl)
      gi_wp2_with (gi_at_builtin; refine wpListIn_app_lit rfl (.tmp 30) (.tmp 33) 24 rfl intInfo intCells rfl (by exact HV.out.own) [xat] 1 _ rfl ((placesL pre).length + 1) 1 (by simp) rfl W.heap.size rfl rfl (by omega) (by simp [maxLen]; omega) (by omega) ?_; intro A1 cap1 w3 hown1 hgr1 hat1; obtain ⟨⟨d1, d2⟩, hc2, hk2, hf2, hot⟩ := CollG.app (HV.out.ext ((Ext.refl W).alloc _)) (by omega) (nV := V.heap.size) (by omega) (by simp; omega) (H := W.heap.size + 1) (by simp) hown1 hgr1 hat1; have HC2 := Lib.hid hc2; have HK2 := Lib.hid hk2; have HF2 := Lib.hid hf2; have HOT := Lib.hid hot; clear hown1 hgr1 hat1 hc2 hk2 hf2 hot)
      have hk0 : Kp V.heap.size w2.heap.size C W (W.alloc (.cells #[.int .i64 xat] 3)) := Kp.ext ((Below.refl _ W).alloc (Nat.le_refl _) _) (by omega) (by omega)
      refine ⟨KeepsFrom.trans ((KeepsOthers.alloc _ _).from _) HF2.out, ⟨hk0.trans HK2.out, fun k o hk ho => ?_⟩, ⟨_, by rw [HPG.out]; exact HC2.out⟩, Below.trans HE.out (hk0.trans HK2.out).below, by have := (hk0.trans HK2.out).below.size; omega⟩
      have hkl : k < w2.heap.size ∧ k ≠ C := by rcases hk with rfl | rfl | rfl <;> omega
      have h1 : (W.alloc (.cells #[.int .i64 xat] 3)).heap[k]? = some o := blk_old ho
      exact (HOT.out k (lt_of_heap h1) hkl.2 (fun e => by have := (World.ownsRow.lt HV.out.own k e).1; omega)).trans h1
    · have HPG := Lib.hid (places_last pre ⟨xat, xh, xe, true⟩ rfl)
      gi_wp2
      exact ⟨keeps_ext (Ext.refl _), KpX.ext (Ext.refl _) (by omega) (by omega), ⟨v, by rw [HPG.out]; exact HV.out⟩, HE.out, by omega⟩
  case done =>
    rintro D ys W hD rfl ⟨⟨v, hv⟩, hE, hS⟩ hK
    obtain ⟨c1, c2⟩ := hv.cell
    have HV := Lib.hid hv
    have HE := Lib.hid hE
    clear hv hE
    gi_wp2
    refine ⟨by simp, .inl ⟨_, _, rfl, run_takeDeferred hK, ?_⟩⟩
    have hab : AbI w2.heap.size C W (W.putObj D (.deferred none)) := AbI.putObj hD hK rfl
    have hcf := HV.out.abI (by omega) hab
    have hEE := Below.trans HE.out (Below.mono hab.below (by omega))
    obtain ⟨A1, cap1, rfl, -⟩ := hcf.own.form intCells (by decide)
    have hrow := hcf.own.mono (B' := V.heap.size) (by omega)
    exact ⟨.tuple #[.slice A1 (placesL (stepsA l top a)).length cap1, .int .i64 0], (by simp only [results, Try.results13]; go_simp), by rw [HL0.out, HSE.out]; exact ⟨A1, cap1, rfl, hrow, hEE⟩⟩
  case stop =>
    rintro D c pre W _ _ h _
    exact h.elim
theorem list_any (p : Option Addr) (l : Option (List Int)) (a s top : Int) (V : World) (hp : ArP V p l) :
    Calls Try.prog 13 #[.pointer p, .agg #[.int .i64 (a), .int .i64 (s)], .int .i64 top] V (RetIE V (listA l a s top) (stopE l a s top)) := by
  refine (list_own p l a s top V hp).mono ?_
  rintro e w' ⟨A1, cap1, rfl, ho, hx⟩
  exact ⟨A1, cap1, rfl, (own_row ho intCells (by decide)).1, hx⟩
theorem listO_is (p : Option Addr) (l : Option (List Int)) (a s top er : Int) (zs : List Int) (h1 : listA l a s top = zs) (h2 : stopE l a s top = er) (V : World) (hp : ArP V p l) :
    Calls Try.prog 13 #[.pointer p, .agg #[.int .i64 (a), .int .i64 (s)], .int .i64 top] V (RetIO V zs er) := by
  have := list_own p l a s top V hp
  rwa [h1, h2] at this
end Go.Proofs.Ytkcpfimhbogdcaa

/- Is a number among some: slices.Index, Contains, walk.Starts, and the references' Starts and Ints. -/
set_option linter.unusedSimpArgs false
set_option linter.unusedVariables false
namespace Go.Proofs.Ytkcpfimhbogdcaa
open Go.RowKit Go.Shelf

set_option maxRecDepth 100000
set_option maxHeartbeats 4000000
/-- A number stands in a row, or in none of its places. -/
theorem mem_at {zs : List Int} {k : Nat} (hk : k < zs.length) {v : Int} (h : v = zs.getD k 0) : decide (v ∈ zs) = true := by
  rw [decide_eq_true_eq, h, List.getD_eq_getElem?_getD, List.getElem?_eq_getElem hk]
  exact List.getElem_mem hk
theorem mem_none {zs : List Int} {v : Int} (h : ∀ i, i < zs.length → v ≠ zs.getD i 0) : decide (v ∈ zs) = false := by
  rw [decide_eq_false_iff_not]
  intro hm
  obtain ⟨i, hi, he⟩ := List.getElem_of_mem hm
  exact h i hi (by rw [List.getD_eq_getElem?_getD, List.getElem?_eq_getElem hi]; exact he.symm)
theorem indexI_any (A : Option Addr) (cap : Nat) (zs : List Int) (v : Int) (W : World) (hlen : zs.length ≤ 9223372036854775807) (hl : IntsAt W A zs) :
    Calls Try.prog 124 #[.slice A zs.length cap, .int .i64 v] W fun e w' => (∃ r : Int, e = .returned (.int .i64 r) ∧ decide (0 ≤ r) = decide (v ∈ zs)) ∧ Ext W w' := by
  have HL := Lib.hid hl
  clear hl
  go_enter Try.func124, Try.ntmps124
  go_wp2_with fail
  go_loopw [5, 8] (fun _ i wr => ∃ k : Nat, k ≤ zs.length ∧ i = .int .i64 k ∧ Ext W wr ∧ Hid (∀ i, i < k → v ≠ zs.getD i 0)) (fun _ i _ => zs.length - (intOf i).toNat)
  case atStart => exact ⟨0, by omega, rfl, Ext.refl _, Lib.hid (by omega)⟩
  case round =>
    obtain ⟨k, hk, rfl, hxr, hq⟩ := hrel
    by_cases hlt : k < zs.length
    rotate_left
    · have HR := Lib.hid (mem_none fun i hi => hq.out i (by omega))
      clear hq
      go_wp2_with fail
      go_ret
      exact ⟨⟨-1, rfl, by rw [HR.out]; rfl⟩, hxr⟩
    obtain ⟨lb, off, rfl, hc⟩ := HL.out.get (by omega)
    have c1 := hxr.cell (ints_cell hc hlt)
    have HS := Lib.hid (fun (h : v ≠ zs.getD k 0) => (fun i (hi : i < k + 1) => by
      rcases Nat.lt_or_ge i k with h' | h'
      · exact hq.out i h'
      · obtain rfl : i = k := by omega
        exact h : ∀ i, i < k + 1 → v ≠ zs.getD i 0))
    have HD := Lib.hid (fun (h : v = zs.getD k 0) => mem_at hlt h)
    clear hc HL hq
    generalize zs.getD k 0 = x at *
    have ib1 : (k : Int) < (zs.length : Int) := by omega
    by_cases he : v = x
    · have HE := Lib.hid (HD.out he)
      have hb : (v == x) = true := by rw [beq_iff_eq]; exact he
      clear he HD HS
      go_wp2_with fail
      go_ret
      exact ⟨⟨k, rfl, by rw [HE.out]; simp⟩, hxr⟩
    · have hb : (v == x) = false := by rw [beq_eq_false_iff_ne]; exact he
      have HE := Lib.hid (HS.out he)
      clear he HD HS
      go_wp2_with fail
      go_roundw
      case rel => exact ⟨k + 1, by omega, by go_num, hxr, HE⟩
      case measure => simp [intOf]; omega
theorem containsI_any (A : Option Addr) (cap : Nat) (zs : List Int) (v : Int) (W : World) (hlen : zs.length ≤ 9223372036854775807) (hl : IntsAt W A zs) :
    Calls Try.prog 71 #[.slice A zs.length cap, .int .i64 v] W fun e w' => e = .returned (.bool (decide (v ∈ zs))) ∧ Ext W w' := by
  have HL := Lib.hid hl
  clear hl
  go_enter Try.func71, Try.ntmps71
  go_wp2_with fail
  refine (indexI_any A cap zs v W hlen HL.out).mono ?_
  rintro e w1 ⟨⟨r, rfl, hr⟩, hx⟩
  have HR := Lib.hid hr
  clear hr
  go_wp2_with fail
  go_ret
  exact ⟨ret_bool HR.out, hx⟩
theorem starts_any (A : Option Addr) (cap : Nat) (zs : List Int) (v : Int) (W : World) (hlen : zs.length ≤ 9223372036854775807) (hl : IntsAt W A zs) :
    Calls Try.prog 22 #[.slice A zs.length cap, .int .i64 v] W fun e w' => e = .returned (.bool (decide (v ∈ zs))) ∧ Ext W w' := by
  have HL := Lib.hid hl
  clear hl
  go_enter Try.func22, Try.ntmps22
  go_wp2_with fail
  refine (containsI_any A cap zs v W hlen HL.out).mono ?_
  rintro e w1 ⟨rfl, hx⟩
  go_wp2_with fail
  go_ret
  exact ⟨rfl, hx⟩
theorem refstarts_any (A : Option Addr) (cap : Nat) (zs : List Int) (v : Int) (W : World) (hlen : zs.length ≤ 9223372036854775807) (hl : IntsAt W A zs) :
    Calls Try.prog 23 #[.slice A zs.length cap, .int .i64 v] W fun e w' => e = .returned (.bool (decide (v ∈ zs))) ∧ Ext W w' := by
  have HL := Lib.hid hl
  clear hl
  go_enter Try.func23, Try.ntmps23
  go_wp2_with fail
  go_loopw [5] (fun i wr => ∃ k : Nat, k ≤ zs.length ∧ i = .int .i64 k ∧ Ext W wr ∧ Hid (∀ i, i < k → v ≠ zs.getD i 0)) (fun i _ => zs.length - (intOf i).toNat)
  case atStart => exact ⟨0, by omega, rfl, Ext.refl _, Lib.hid (by omega)⟩
  case round =>
    obtain ⟨k, hk, rfl, hxr, hq⟩ := hrel
    by_cases hlt : k < zs.length
    rotate_left
    · have HR := Lib.hid (mem_none fun i hi => hq.out i (by omega))
      clear hq
      go_wp2_with fail
      go_ret
      exact ⟨ret_bool HR.out.symm, hxr⟩
    obtain ⟨lb, off, rfl, hc⟩ := HL.out.get (by omega)
    have c1 := hxr.cell (ints_cell hc hlt)
    have HS := Lib.hid (fun (h : v ≠ zs.getD k 0) => (fun i (hi : i < k + 1) => by
      rcases Nat.lt_or_ge i k with h' | h'
      · exact hq.out i h'
      · obtain rfl : i = k := by omega
        exact h : ∀ i, i < k + 1 → v ≠ zs.getD i 0))
    have HD := Lib.hid (fun (h : v = zs.getD k 0) => mem_at hlt h)
    clear hc HL hq
    generalize zs.getD k 0 = x at *
    have ib1 : (k : Int) < (zs.length : Int) := by omega
    by_cases he : v = x
    · have HE := Lib.hid (HD.out he)
      have hb : (x == v) = true := by rw [beq_iff_eq]; exact he.symm
      clear he HD HS
      go_wp2_with fail
      go_ret
      exact ⟨ret_bool HE.out.symm, hxr⟩
    · have hb : (x == v) = false := by rw [beq_eq_false_iff_ne]; exact fun h => he h.symm
      have HE := Lib.hid (HS.out he)
      clear he HD HS
      go_wp2_with fail
      go_roundw
      case rel => exact ⟨k + 1, by omega, by go_num, hxr, HE⟩
      case measure => simp [intOf]; omega
end Go.Proofs.Ytkcpfimhbogdcaa

/- How many objects, words and fields a walk has: walk.Sums. -/
set_option linter.unusedSimpArgs false
set_option linter.unusedVariables false
namespace Go.Proofs.Ytkcpfimhbogdcaa
open Go.RowKit Go.Shelf
attribute [local go_sem] Oper.semAt_some

def sumsP (pre : List Stp) : Int × Int × Int := pre.foldl (fun (t : Int × Int × Int) x => (wrap64 (t.1 + 1), wrap64 (t.2.1 + hsize x.h), wrap64 (t.2.2 + x.h.f))) (0, 0, 0)
theorem sumsP_snoc (pre : List Stp) (x : Stp) : sumsP (pre ++ [x]) = (wrap64 ((sumsP pre).1 + 1), wrap64 ((sumsP pre).2.1 + hsize x.h), wrap64 ((sumsP pre).2.2 + x.h.f)) := by simp [sumsP]
/-- The sums of a walk. -/
def wsumA (l : Option (List Int)) (a s top : Int) : Int × Int × Int := if stopE l a s top = 0 then sumsP ((stepsA l top a).filter fun x => !x.last) else (0, 0, 0)
theorem filter_pre {l : Option (List Int)} {top i : Int} {pre : List Stp} {x : Stp} (h : pre ++ [x] <+: stepsA l top i) (hp : ∀ y ∈ pre, y.last = false) (hx : x.last = true) : (stepsA l top i).filter (fun x => !x.last) = pre := by
  rw [← (steps_pre h hx).2, List.filter_append]
  rw [List.filter_eq_self.2 (fun y hy => by simp [hp y hy])]
  simp [hx]
/-- The three counters. -/
structure SumI (C : Nat) (t : Int × Int × Int) (W : World) : Prop where
  a : W.heap[C]? = some (.cells #[.int .i64 t.1] 3 (0, 0))
  b : W.heap[C + 1]? = some (.cells #[.int .i64 t.2.1] 3 (0, 0))
  c : W.heap[C + 2]? = some (.cells #[.int .i64 t.2.2] 3 (0, 0))
theorem SumI.below {C n : Nat} {t : Int × Int × Int} {A B : World} (h : SumI C t A) (hb : Below n A B) (hC : C + 2 < n) : SumI C t B := ⟨(hb.block _ (by omega)).trans h.a, (hb.block _ (by omega)).trans h.b, (hb.block _ hC).trans h.c⟩
theorem SumI.keep {C : Nat} {t : Int × Int × Int} {A B : World} (h : SumI C t A) (hk : ∀ (k : Nat) (o : Obj), A.heap[k]? = some o → o.isCells = true → B.heap[k]? = some o) : SumI C t B := ⟨hk _ _ h.a rfl, hk _ _ h.b rfl, hk _ _ h.c rfl⟩
theorem SumI.ext {C : Nat} {t : Int × Int × Int} {A B : World} (h : SumI C t A) (hx : Ext A B) : SumI C t B := ⟨(hx.block (lt_of_heap h.a)).trans h.a, (hx.block (lt_of_heap h.b)).trans h.b, (hx.block (lt_of_heap h.c)).trans h.c⟩
theorem set1 {W : World} {k : Nat} {v u : Value} {t : TypeId} (h : W.heap[k]? = some (.cells #[v] t (0, 0))) : (W.setCell ⟨k, 0, none⟩ u).heap[k]? = some (.cells #[u] t (0, 0)) := by
  rw [heap_setCell_same W k 0 _ _ _ h]; rfl
theorem SumI.setA {C : Nat} {t : Int × Int × Int} {A : World} (h : SumI C t A) (z : Int) : SumI C (z, t.2.1, t.2.2) (A.setCell ⟨C, 0, none⟩ (.int .i64 z)) :=
  ⟨set1 h.a, (Below.heap_setCell A ⟨C, 0, none⟩ _ (C + 1) (by simp)).trans h.b, (Below.heap_setCell A ⟨C, 0, none⟩ _ (C + 2) (by simp)).trans h.c⟩
theorem SumI.setB {C : Nat} {t : Int × Int × Int} {A : World} (h : SumI C t A) (z : Int) : SumI C (t.1, z, t.2.2) (A.setCell ⟨C + 1, 0, none⟩ (.int .i64 z)) :=
  ⟨(Below.heap_setCell A ⟨C + 1, 0, none⟩ _ C (by simp)).trans h.a, set1 h.b, (Below.heap_setCell A ⟨C + 1, 0, none⟩ _ (C + 2) (by simp)).trans h.c⟩
theorem SumI.setC {C : Nat} {t : Int × Int × Int} {A : World} (h : SumI C t A) (z : Int) : SumI C (t.1, t.2.1, z) (A.setCell ⟨C + 2, 0, none⟩ (.int .i64 z)) :=
  ⟨(Below.heap_setCell A ⟨C + 2, 0, none⟩ _ C (by simp)).trans h.a, (Below.heap_setCell A ⟨C + 2, 0, none⟩ _ (C + 1) (by simp)).trans h.b, set1 h.c⟩
theorem KpX.setLow {K : Nat → Prop} {nV n0 Bout k i : Nat} {A : World} {u : Value} (hV : nV ≤ k) (hk : k < n0) (hB : Bout ≠ k) (hK : ∀ j, K j → j ≠ k) : KpX K nV n0 Bout A (A.setCell ⟨k, i, none⟩ u) :=
  ⟨Kp.setLow hV hk hB, fun j o hj ho => (Below.heap_setCell A ⟨k, i, none⟩ u j (hK j hj)).trans ho⟩
set_option maxRecDepth 100000
set_option maxHeartbeats 8000000
theorem wsums_any (p : Option Addr) (l : Option (List Int)) (a s top : Int) (V : World) (hp : ArP V p l) :
    Calls Try.prog 19 #[.pointer p, .agg #[.int .i64 (a), .int .i64 (s)], .int .i64 top] V fun e w' => e = .returned (.tuple #[.int .i64 (wsumA l a s top).1, .int .i64 (wsumA l a s top).2.1, .int .i64 (wsumA l a s top).2.2, .int .i64 (stopE l a s top)]) ∧ Ext V w' := by
  have HP := Lib.hid hp
  have hb4 := blk_new V #[.int .i64 a, .int .i64 s] 23 _ rfl
  have hW : Ext V (V.alloc (.cells #[.int .i64 a, .int .i64 s] 23)) := (Ext.refl V).alloc _
  obtain ⟨x0, hx0⟩ : ∃ x, stopA l a s top = x := ⟨_, rfl⟩
  obtain ⟨er, her⟩ : ∃ x, stopE l a s top = x := ⟨_, rfl⟩
  have HSA := Lib.hid hx0
  have HSE := Lib.hid her
  have HLA := Lib.hid (show wsumA l a s top = if er = 0 then sumsP ((stepsA l top a).filter fun x => !x.last) else (0, 0, 0) by rw [wsumA, her])
  clear hx0 her hp
  refine (callsIn_wide (n := 5)).1 ?_
  have hro : Fence.wide.round = none := rfl
  refine callsIn_of_wp_marks Try.func19 rfl trivial ?_ hro
  simp only [Try.ntmps19, List.size_toArray, List.length_cons, List.length_nil, Nat.reduceAdd, Nat.reduceSub, Array.replicate_succ, Array.replicate_zero, List.push_toArray, List.append_toArray, List.nil_append, List.cons_append]
  gi_wp2
  generalize V.alloc (.cells #[.int .i64 a, .int .i64 s] 23) = W at *
  refine ⟨trivial, ?_⟩
  refine (callsIn_wide.2 (stop_is p l a s top x0 er HSA.out HSE.out _ (HP.out.ext hW))).mono ?_
  rintro e w1 ⟨rfl, hx⟩
  have b4 := (hx.block (lt_of_heap hb4)).trans hb4
  have c0 : w1.cell? ⟨V.heap.size, 0, none⟩ = some (.int .i64 a) := by simp [World.cell?, b4]
  have c1 : w1.cell? ⟨V.heap.size, 1, none⟩ = some (.int .i64 s) := by simp [World.cell?, b4]
  have hlt4 := lt_of_heap b4
  have HXV := Lib.hid (hW.trans hx)
  have HB4 := Lib.hid b4
  clear hx hb4 hW b4
  by_cases h0 : er = 0
  rotate_left
  · have hne : (er != 0) = true := by simpa using h0
    have HL0 := Lib.hid (HLA.out.trans (if_neg h0))
    clear h0 HLA
    gi_wp2
    exact ⟨.tuple #[.int .i64 0, .int .i64 0, .int .i64 0, .int .i64 er], (by simp only [results, Try.results19]; go_simp), by rw [HSE.out, HL0.out], HXV.out⟩
  subst h0
  have HL0 := Lib.hid (HLA.out.trans (if_pos rfl))
  clear HLA
  have hk : wkB a s top = true := by
    have := HSE.out
    cases h : wkB a s top
    · rw [stopE, h] at this; simp at this
    · rfl
  obtain ⟨hm, ht⟩ : mayB a s = true ∧ (a ≤ top ∧ top ≤ a + s) := by simpa [wkB] using hk
  obtain ⟨m1, m2, m3, m4⟩ := may_bd hm
  obtain ⟨t1, t2⟩ := ht
  clear hk hm
  have hlA : V.heap.size < w1.heap.size + 1 := by omega
  have hlB : V.heap.size < w1.heap.size + 1 + 1 := by omega
  have hlC : V.heap.size < w1.heap.size + 1 + 1 + 1 := by omega
  gi_wp2_with (refine ⟨trivial, ?_⟩; gi_at_call 64; refine (callsIn_wide.2 (walk_any _ _ _ _ _)).mono ?_; rintro e w' ⟨rfl, rfl⟩)
  have f0 := (blk_old (o2 := .cells #[.int .i64 top] 3) (blk_old (o2 := .cells #[.int .i64 a, .int .i64 s] 23) (blk_old (o2 := .cells #[.pointer p] 34) (blk_old (o2 := .cells #[.int .i64 0] 3) (blk_old (o2 := .cells #[.int .i64 0] 3) (blk_new w1 #[.int .i64 0] 3 _ rfl))))))
  have f1 := (blk_old (o2 := .cells #[.int .i64 top] 3) (blk_old (o2 := .cells #[.int .i64 a, .int .i64 s] 23) (blk_old (o2 := .cells #[.pointer p] 34) (blk_old (o2 := .cells #[.int .i64 0] 3) (blk_new (w1.alloc (.cells #[.int .i64 0] 3)) #[.int .i64 0] 3 (w1.heap.size + 1) (by simp))))))
  have f2 := (blk_old (o2 := .cells #[.int .i64 top] 3) (blk_old (o2 := .cells #[.int .i64 a, .int .i64 s] 23) (blk_old (o2 := .cells #[.pointer p] 34) (blk_new ((w1.alloc (.cells #[.int .i64 0] 3)).alloc (.cells #[.int .i64 0] 3)) #[.int .i64 0] 3 (w1.heap.size + 1 + 1) (by simp)))))
  have e0 := (blk_old (o2 := .cells #[.int .i64 top] 3) (blk_old (o2 := .cells #[.int .i64 a, .int .i64 s] 23) (blk_new (((w1.alloc (.cells #[.int .i64 0] 3)).alloc (.cells #[.int .i64 0] 3)).alloc (.cells #[.int .i64 0] 3)) #[.pointer p] 34 (w1.heap.size + 1 + 1 + 1) (by simp))))
  have e1 := (blk_old (o2 := .cells #[.int .i64 top] 3) (blk_new ((((w1.alloc (.cells #[.int .i64 0] 3)).alloc (.cells #[.int .i64 0] 3)).alloc (.cells #[.int .i64 0] 3)).alloc (.cells #[.pointer p] 34)) #[.int .i64 a, .int .i64 s] 23 (w1.heap.size + 1 + 1 + 1 + 1) (by simp)))
  have e2 := blk_new (((((w1.alloc (.cells #[.int .i64 0] 3)).alloc (.cells #[.int .i64 0] 3)).alloc (.cells #[.int .i64 0] 3)).alloc (.cells #[.pointer p] 34)).alloc (.cells #[.int .i64 a, .int .i64 s] 23)) #[.int .i64 top] 3 (w1.heap.size + 1 + 1 + 1 + 2) (by simp)
  have hx2 : Ext w1 ((((((w1.alloc (.cells #[.int .i64 0] 3)).alloc (.cells #[.int .i64 0] 3)).alloc (.cells #[.int .i64 0] 3)).alloc (.cells #[.pointer p] 34)).alloc (.cells #[.int .i64 a, .int .i64 s] 23)).alloc (.cells #[.int .i64 top] 3)) := ((((((Ext.refl w1).alloc _).alloc _).alloc _).alloc _).alloc _).alloc _
  generalize (((((w1.alloc (.cells #[.int .i64 0] 3)).alloc (.cells #[.int .i64 0] 3)).alloc (.cells #[.int .i64 0] 3)).alloc (.cells #[.pointer p] 34)).alloc (.cells #[.int .i64 a, .int .i64 s] 23)).alloc (.cells #[.int .i64 top] 3) = w2 at *
  have hbs := (hx2.block hlt4).trans HB4.out
  have hV2 : Ext V w2 := HXV.out.trans hx2
  have hlV := lt_of_heap hbs
  have hl0 := lt_of_heap e0
  have hl1 := lt_of_heap e1
  have hl2 := lt_of_heap e2
  generalize w1.heap.size = C at *
  have hnl : ∀ b, ¬ Led w2 V.heap.size b := fun b ⟨n, c, h⟩ => by simp [World.cell?, hbs] at h
  clear c0 c1 hlA hlB hlC
  refine wpIn_rangeK (gf := 118) (lb := #[.pointer (some ⟨C + 3 + 1, 0, none⟩), .pointer (some ⟨C + 3 + 2, 0, none⟩), .pointer (some ⟨C + 3, 0, none⟩)]) rfl (enters_of Try.func118 (by kernel_rfl) rfl)
    (walk1_stops V.heap.size (C + 3 + 1) (C + 3 + 2) (C + 3) V.heap.size p l a s top w2 hl1 hl2 hl0 (by simp [World.cell?, e1]) (by simp [World.cell?, e2]) (by simp [World.cell?, e0]) (fun W' hb => HP.out.ext (Below.trans hV2 hb)) (by omega) m1 t1 (by omega) hlV hnl)
    (fun k hk => by rcases hk with rfl | rfl | rfl <;> omega) (by omega) (fun _ => rfl)
    (fun pre W => SumI C (sumsP pre) W ∧ Hid (∀ x ∈ pre, x.last = false) ∧ Ext V W ∧ w2.heap.size ≤ W.heap.size)
    (fun c pre W => c = .exit 0 ∧ SumI C (sumsP ((stepsA l top a).filter fun x => !x.last)) W ∧ Ext V W ∧ w2.heap.size ≤ W.heap.size)
    (fun s A B h hab => ⟨h.1.below hab.below (by omega), h.2.1, Below.trans h.2.2.1 (Below.mono hab.below (by omega)), Nat.le_trans h.2.2.2 hab.below.size⟩)
    (fun c s A B h hab => ⟨h.1, h.2.1.below hab.below (by omega), Below.trans h.2.2.1 (Below.mono hab.below (by omega)), Nat.le_trans h.2.2.2 hab.below.size⟩)
    ⟨⟨f0, f1, f2⟩, Lib.hid (by simp), hV2, Nat.le_refl _⟩
    (fun pre x a' W => SumI C (sumsP pre) W ∧ Hid (∀ x ∈ pre, x.last = false) ∧ Ext V W ∧ ∃ X, w2.heap.size ≤ X ∧ W.heap[X]? = some (.cells #[.int .i64 x.at_, .int .i64 x.h.k, .int .i64 x.h.f, .int .i64 x.h.r, .bool x.h.m, .int .i64 x.h.c, .int .i64 x.e, .bool x.last] 119 (0, 0)) ∧
      a' = { tmps := #[.pointer p, .agg #[.int .i64 a, .int .i64 s], .int .i64 top, undef, .pointer (some ⟨V.heap.size, 0, none⟩), undef, .int .i64 0, .int .i64 0, .int .i64 0, .int .i64 0, .int .i64 x0, .int .i64 0, .pointer (some ⟨C, 0, none⟩), .pointer (some ⟨C + 1, 0, none⟩), .pointer (some ⟨C + 2, 0, none⟩), .pointer (some ⟨X, 0, none⟩), .tuple #[.int .i64 x0, .int .i64 0], .pointer p, .agg #[.int .i64 a, .int .i64 s], .int .i64 top, .tuple #[.int .i64 x0, .int .i64 0], .int .i64 x0, .int .i64 0, .int .i64 0, .bool false, undef, .pointer p, .agg #[.int .i64 a, .int .i64 s], .int .i64 top, .func (.func 118) #[] #[.pointer (some ⟨C + 3 + 1, 0, none⟩), .pointer (some ⟨C + 3 + 2, 0, none⟩), .pointer (some ⟨C + 3, 0, none⟩)], .agg #[.int .i64 x.at_, .int .i64 x.h.k, .int .i64 x.h.f, .int .i64 x.h.r, .bool x.h.m, .int .i64 x.h.c, .int .i64 x.e, .bool x.last], undef, undef, undef, undef, undef, undef, undef, undef, undef, undef, undef, undef, undef, undef, undef, undef, undef], defers := [] })
    ?hax ?assign ?body ?done ?stop
  case hax =>
    rintro pre x a' A B ⟨hs, hn, hE, X, hX, hbX, rfl⟩ hb hk
    exact ⟨hs.keep hk, hn, Below.trans hE (Below.mono hb (by omega)), X, hX, hk X _ hbX rfl, rfl⟩
  case assign =>
    rintro lq pre x W K ⟨hs, hn, hE, hS⟩ hK
    have hsz := Ext.size hE
    have HS := Lib.hid hs
    have HE := Lib.hid hE
    clear hs hE
    gi_wp2
    exact hK _ _ ⟨HS.out.ext ((Ext.refl W).alloc _), hn, HE.out.alloc _, W.heap.size, hS, World.alloc_heap_new _ _, rfl⟩ ((KeepsOthers.alloc _ _).from _) (KpX.ext ((Ext.refl W).alloc _) (by omega) (by omega))
  case body =>
    rintro lq pre x a' W ⟨hs, hn, hE, X, hX, hbX, rfl⟩ hgd
    have HF := Lib.hid (fun (h : x.last = true) => filter_pre hgd hn.out h)
    have HPS := Lib.hid (sumsP_snoc pre x)
    have hltX := lt_of_heap hbX
    have hsz := Ext.size hE
    obtain ⟨n, hnx⟩ : ∃ n, hsize x.h = n := ⟨_, rfl⟩
    rw [hnx] at HPS
    have HNX := Lib.hid hnx
    clear hnx
    obtain ⟨xat, xh, xe, xl⟩ := x
    simp only at HF HNX HPS
    have g3 : W.cell? ⟨X, 7, none⟩ = some (.bool xl) := by simp [World.cell?, hbX]
    generalize ht : sumsP pre = t at *
    have HT := Lib.hid ht
    clear ht
    obtain ⟨t1', t2', t3'⟩ := t
    have HS := Lib.hid hs
    have HE := Lib.hid hE
    have HN := Lib.hid hn
    clear hs hE hn hgd
    cases xl
    · have q1 : W.cell? ⟨C, 0, none⟩ = some (.int .i64 t1') := by simp [World.cell?, HS.out.a]
      have q2 : W.frozen? ⟨C, 0, none⟩ = false := by simp [World.frozen?, HS.out.a]
      gi_wp2
      have HS1 := Lib.hid (HS.out.setA (wrap64 (t1' + 1)))
      have HK1 : Hid (KpX (fun k => k = C + 3 + 1 ∨ k = C + 3 + 2 ∨ k = C + 3) V.heap.size w2.heap.size V.heap.size W (W.setCell ⟨C, 0, none⟩ (.int .i64 (wrap64 (t1' + 1))))) := Lib.hid (KpX.setLow (by omega) (by omega) (by omega) (fun j hj => by rcases hj with rfl | rfl | rfl <;> omega))
      have HF1 : Hid (KeepsFrom w2.heap.size W (W.setCell ⟨C, 0, none⟩ (.int .i64 (wrap64 (t1' + 1))))) := Lib.hid ((KeepsOthers.setCell _ _ _).from _)
      have HE1 : Hid (Ext V (W.setCell ⟨C, 0, none⟩ (.int .i64 (wrap64 (t1' + 1))))) := Lib.hid (HE.out.setCell (by show V.heap.size ≤ C; omega) _)
      have HX1 : Hid ((W.setCell ⟨C, 0, none⟩ (.int .i64 (wrap64 (t1' + 1)))).heap[X]? = _) := Lib.hid ((Below.heap_setCell W ⟨C, 0, none⟩ _ X (by show X ≠ C; omega)).trans hbX)
      simp only at HS1
      clear q1 q2 g3 hbX HS HE
      generalize W.setCell ⟨C, 0, none⟩ (.int .i64 (wrap64 (t1' + 1))) = W3 at *
      have hxr : Ext W3 W3 := Ext.refl W3
      have hl3 : C + 2 < W3.heap.size := lt_of_heap HS1.out.c
      have hsz3 := HF1.out.size
      have l0 : ∀ u : ExtOf W3, u.1.cell? ⟨C + 1, 0, none⟩ = some (.int .i64 t2') := fun u => u.2.cell (by simp [World.cell?, HS1.out.b])
      have l1 : ∀ u : ExtOf W3, u.1.cell? ⟨X, 1, none⟩ = some (.int .i64 xh.k) := fun u => u.2.cell (by simp [World.cell?, HX1.out])
      have l2 : ∀ u : ExtOf W3, u.1.cell? ⟨X, 2, none⟩ = some (.int .i64 xh.f) := fun u => u.2.cell (by simp [World.cell?, HX1.out])
      have l3 : ∀ u : ExtOf W3, u.1.cell? ⟨X, 3, none⟩ = some (.int .i64 xh.r) := fun u => u.2.cell (by simp [World.cell?, HX1.out])
      have l4 : ∀ u : ExtOf W3, u.1.cell? ⟨X, 4, none⟩ = some (.bool xh.m) := fun u => u.2.cell (by simp [World.cell?, HX1.out])
      have l5 : ∀ u : ExtOf W3, u.1.cell? ⟨X, 5, none⟩ = some (.int .i64 xh.c) := fun u => u.2.cell (by simp [World.cell?, HX1.out])
      (refine wpIn_region_ord (W := W3) [(0, true), (1, true), (2, true), (3, false), (4, true)] [] [5] (by kernel_rfl) (by kernel_rfl) (by kernel_rfl) (by intro a w h; exact h) (by intro c a d v w h; cases d <;> first | exact h | (cases h; done) | cases h.1.1 | cases h.1) (by with_reducible assumption) ?_; simp only [opsOf, List.map_cons, List.map_nil, List.getD_cons_zero, List.getD_cons_succ]; (repeat (go_big_quiet_step (first | (go_at_call 70; with_reducible exact Calls.ext_of (hsize_is xh n HNX.out _))))); refine wpQuiet_nil ?_; intro w1 hx; refine mid_nil ?_)
      have HSx := Lib.hid (HS1.out.ext hx)
      have q1 : w1.cell? ⟨C + 1, 0, none⟩ = some (.int .i64 t2') := by simp [World.cell?, HSx.out.b]
      have q2 : w1.frozen? ⟨C + 1, 0, none⟩ = false := by simp [World.frozen?, HSx.out.b]
      have hszx := Ext.size hx
      have HS2 := Lib.hid (HSx.out.setB (wrap64 (t2' + n)))
      have HK2 : Hid (KpX (fun k => k = C + 3 + 1 ∨ k = C + 3 + 2 ∨ k = C + 3) V.heap.size w2.heap.size V.heap.size W (w1.setCell ⟨C + 1, 0, none⟩ (.int .i64 (wrap64 (t2' + n))))) := Lib.hid ((HK1.out.trans (KpX.ext hx (by omega) (by omega))).trans (KpX.setLow (by omega) (by omega) (by omega) (fun j hj => by rcases hj with rfl | rfl | rfl <;> omega)))
      have HF2 : Hid (KeepsFrom w2.heap.size W (w1.setCell ⟨C + 1, 0, none⟩ (.int .i64 (wrap64 (t2' + n))))) := Lib.hid ((HF1.out.trans (keeps_ext hx)).trans ((KeepsOthers.setCell _ _ _).from _))
      have HE2 : Hid (Ext V (w1.setCell ⟨C + 1, 0, none⟩ (.int .i64 (wrap64 (t2' + n))))) := Lib.hid ((HE1.out.trans hx).setCell (by show V.heap.size ≤ C + 1; omega) _)
      have hx1 := (hx.block (show X < W3.heap.size from lt_of_heap HX1.out)).trans HX1.out
      have HX2 : Hid ((w1.setCell ⟨C + 1, 0, none⟩ (.int .i64 (wrap64 (t2' + n)))).heap[X]? = _) := Lib.hid ((Below.heap_setCell w1 ⟨C + 1, 0, none⟩ _ X (by show X ≠ C + 1; omega)).trans hx1)
      simp only at HS2
      have m0 : (w1.setCell ⟨C + 1, 0, none⟩ (.int .i64 (wrap64 (t2' + n)))).cell? ⟨C + 2, 0, none⟩ = some (.int .i64 t3') := by simp [World.cell?, HS2.out.c]
      have m1' : (w1.setCell ⟨C + 1, 0, none⟩ (.int .i64 (wrap64 (t2' + n)))).cell? ⟨X, 2, none⟩ = some (.int .i64 xh.f) := by simp [World.cell?, HX2.out]
      have m2' : (w1.setCell ⟨C + 1, 0, none⟩ (.int .i64 (wrap64 (t2' + n)))).frozen? ⟨C + 2, 0, none⟩ = false := by simp [World.frozen?, HS2.out.c]
      clear hx1 HX1 hx HSx HS1 HE1 HF1 HK1 l0 l1 l2 l3 l4 l5 hxr HX2
      have HW : Hid (∀ W4 : World, W4 = w1.setCell ⟨C + 1, 0, none⟩ (.int .i64 (wrap64 (t2' + n))) → KeepsFrom w2.heap.size W (W4.setCell ⟨C + 2, 0, none⟩ (.int .i64 (wrap64 (t3' + xh.f)))) ∧ KpX (fun k => k = C + 3 + 1 ∨ k = C + 3 + 2 ∨ k = C + 3) V.heap.size w2.heap.size V.heap.size W (W4.setCell ⟨C + 2, 0, none⟩ (.int .i64 (wrap64 (t3' + xh.f)))) ∧ SumI C (sumsP (pre ++ [{ at_ := xat, h := xh, e := xe, last := false }])) (W4.setCell ⟨C + 2, 0, none⟩ (.int .i64 (wrap64 (t3' + xh.f)))) ∧ Hid (∀ x ∈ pre ++ [{ at_ := xat, h := xh, e := xe, last := false }], x.last = false) ∧ Ext V (W4.setCell ⟨C + 2, 0, none⟩ (.int .i64 (wrap64 (t3' + xh.f)))) ∧ w2.heap.size ≤ (W4.setCell ⟨C + 2, 0, none⟩ (.int .i64 (wrap64 (t3' + xh.f)))).heap.size) := Lib.hid (by
        rintro W4 rfl
        refine ⟨HF2.out.trans ((KeepsOthers.setCell _ _ _).from _), HK2.out.trans (KpX.setLow (by omega) (by omega) (by omega) (fun j hj => by rcases hj with rfl | rfl | rfl <;> omega)), by rw [HPS.out]; exact HS2.out.setC _, Lib.hid fun y hy => ?_, HE2.out.setCell (by show V.heap.size ≤ C + 2; omega) _, by have := HF2.out.size; simp at this ⊢; omega⟩
        rcases List.mem_append.1 hy with hy | hy
        · exact HN.out.out y hy
        · rcases List.mem_singleton.1 hy with rfl
          rfl)
      go_wp2_with fail
      gi_wp2
      exact HW.out _ rfl
    · gi_wp2
      have HFF := HF.out trivial
      exact ⟨keeps_ext (Ext.refl _), rfl, by rw [HFF, HT.out]; exact HS.out, HE.out, by omega⟩
  case done =>
    rintro D ys W hD rfl ⟨h1, h2, h3⟩ hK
    exact (steps_all h2.out).elim
  case stop =>
    rintro D c pre W hD hpre ⟨rfl, h1, h2, h3⟩ hK
    generalize sumsP ((stepsA l top a).filter fun x => !x.last) = t at *
    obtain ⟨t1', t2', t3'⟩ := t
    have H1 := Lib.hid h1
    have H2 := Lib.hid h2
    clear h1 h2
    gi_wp2
    have p1 : W.cell? ⟨C, 0, none⟩ = some (.int .i64 t1') := by simp [World.cell?, H1.out.a]
    have p2 : W.cell? ⟨C + 1, 0, none⟩ = some (.int .i64 t2') := by simp [World.cell?, H1.out.b]
    have p3 : W.cell? ⟨C + 1 + 1, 0, none⟩ = some (.int .i64 t3') := by simp [World.cell?, H1.out.c]
    have hcl : C < W.heap.size := by omega
    gi_region
    all_goals gi_wp2
    all_goals
      have hab : AbI w2.heap.size V.heap.size W.drew (W.drew.putObj D (.deferred none)) := AbI.putObj hD hK rfl
      refine ⟨by simp, .inl ⟨_, _, rfl, run_takeDeferred hK, ?_⟩⟩
      exact ⟨.tuple #[.int .i64 t1', .int .i64 t2', .int .i64 t3', .int .i64 0], (by simp only [results, Try.results19]; go_simp), (by rw [HL0.out, HSE.out]), Below.trans H2.out.drew (Below.mono hab.below (by omega))⟩
end Go.Proofs.Ytkcpfimhbogdcaa

/- awake of the laws of walks, walked. -/
set_option linter.unusedSimpArgs false
set_option linter.unusedVariables false
namespace Go.Proofs.Ytkcpfimhbogdcaa
open Go.RowKit Go.Shelf

def aw1 : List Int := putL (List.replicate 12 0) 4 ⟨0, 2, 0, false, 0⟩
def aw2 : List Int := putL aw1 7 ⟨0, 0, 1, false, 0⟩
theorem aw_vals : putE (List.replicate 12 0) 4 ⟨0, 2, 0, false, 0⟩ = 0 ∧ putE aw1 7 ⟨0, 0, 1, false, 0⟩ = 0 ∧ listA (some aw2) 4 8 9 = [4, 7] ∧ stopE (some aw2) 4 8 9 = 0 ∧ wsumA (some aw2) 4 8 9 = (2, 5, 2) ∧ stopA (some aw2) 4 8 8 = 7 ∧ stopE (some aw2) 4 8 8 = 2 ∧ stopA (some aw2) 4 8 10 = 9 ∧ stopE (some aw2) 4 8 10 = 3 := by
  refine ⟨?_, ?_, ?_, ?_, ?_, ?_, ?_, ?_, ?_⟩ <;> decide +kernel
theorem sums_is (p : Option Addr) (l : Option (List Int)) (a s top x y z er : Int) (h1 : wsumA l a s top = (x, y, z)) (h2 : stopE l a s top = er) (V : World) (hp : ArP V p l) :
    Calls Try.prog 19 #[.pointer p, .agg #[.int .i64 (a), .int .i64 (s)], .int .i64 top] V fun e w' => e = .returned (.tuple #[.int .i64 x, .int .i64 y, .int .i64 z, .int .i64 er]) ∧ Ext V w' := by
  have := wsums_any p l a s top V hp
  rwa [h1, h2] at this
theorem list_is (p : Option Addr) (l : Option (List Int)) (a s top er : Int) (zs : List Int) (h1 : listA l a s top = zs) (h2 : stopE l a s top = er) (V : World) (hp : ArP V p l) :
    Calls Try.prog 13 #[.pointer p, .agg #[.int .i64 (a), .int .i64 (s)], .int .i64 top] V (RetIE V zs er) := by
  have := list_any p l a s top V hp
  rwa [h1, h2] at this
set_option maxRecDepth 100000
set_option maxHeartbeats 1000000
theorem awake09_any (V : World) : Calls Try.prog 16 #[] V fun e w' => e = .returned (.bool true) ∧ Ext V w' := by
  obtain ⟨v1, v2, v3, v4, v5, v6, v7, v8, v9⟩ := aw_vals
  have H1 := Lib.hid v1
  have H2 := Lib.hid v2
  have H3 := Lib.hid v3
  have H4 := Lib.hid v4
  have H5 := Lib.hid v5
  have H6 := Lib.hid v6
  have H7 := Lib.hid v7
  have H8 := Lib.hid v8
  have H9 := Lib.hid v9
  clear v1 v2 v3 v4 v5 v6 v7 v8 v9
  go_enter Try.func16, Try.ntmps16
  go_wp2_with fail
  refine (anew_any 12 (by decide) (by decide) V).mono ?_
  rintro e w1 ⟨⟨b, A, cap, rfl, hA⟩, hx⟩
  have HA := Lib.hid (show ArO V.heap.size w1 b A cap (List.replicate 12 0) from hA)
  have HX := Lib.hid hx
  clear hA hx
  go_wp2_with fail
  have Z := put_any b A cap (List.replicate 12 0) 4 ⟨0, 2, 0, false, 0⟩ V.heap.size w1 HA.out (by decide)
  rw [H1.out] at Z
  refine Z.mono ?_
  clear Z
  rintro e w2 ⟨rfl, ha, hg⟩
  have HA2 := Lib.hid (show ArO V.heap.size w2 b A cap aw1 from ha)
  have HX2 : Hid (Ext V w2) := Lib.hid (Own.below HA.out.own HX.out hg HX.out.size)
  clear ha hg HX
  go_wp2_with fail
  have Z := put_any b A cap aw1 7 ⟨0, 0, 1, false, 0⟩ V.heap.size w2 HA2.out (by decide)
  rw [H2.out] at Z
  refine Z.mono ?_
  clear Z
  rintro e w3 ⟨rfl, ha, hg⟩
  have HA3 := Lib.hid (show ArO V.heap.size w3 b A cap aw2 from ha)
  have HX3 : Hid (Ext V w3) := Lib.hid (Own.below HA2.out.own HX2.out hg HX2.out.size)
  clear ha hg HX2 HA2 HA
  go_wp2_with fail
  have hb5 := blk_new w3 #[.int .i64 4, .int .i64 8] 23 _ rfl
  have HX4 := Lib.hid (HX3.out.alloc (.cells #[.int .i64 4, .int .i64 8] 23))
  have HA4 := Lib.hid (HA3.out.ext ((Ext.refl w3).alloc (.cells #[.int .i64 4, .int .i64 8] 23)))
  clear HX3 HA3
  generalize w3.alloc (.cells #[.int .i64 4, .int .i64 8] 23) = w4 at *
  generalize w3.heap.size = S at *
  have HB5 := Lib.hid hb5
  clear hb5
  refine (list_is (some ⟨b, 0, none⟩) (some aw2) 4 8 9 0 [4, 7] H3.out H4.out w4 HA4.out.p).mono ?_
  rintro e w5 ⟨LA, lc, rfl, hl, hx⟩
  have HL5 := Lib.hid hl
  have HX5 := Lib.hid (HX4.out.trans hx)
  have HA5 := Lib.hid (HA4.out.ext hx)
  have HB6 := Lib.hid ((hx.block (lt_of_heap HB5.out)).trans HB5.out)
  clear hl hx HX4 HA4 HB5
  have g0 : w5.cell? ⟨S, 0, none⟩ = some (.int .i64 4) := by simp [World.cell?, HB6.out]
  have g1 : w5.cell? ⟨S, 1, none⟩ = some (.int .i64 8) := by simp [World.cell?, HB6.out]
  go_wp2_with fail
  refine (sums_is (some ⟨b, 0, none⟩) (some aw2) 4 8 9 2 5 2 0 H5.out H4.out w5 HA5.out.p).mono ?_
  rintro e w6 ⟨rfl, hx⟩
  have HX6 := Lib.hid (HX5.out.trans hx)
  have HA6 := Lib.hid (HA5.out.ext hx)
  have HL6 := Lib.hid (HL5.out.ext hx)
  have HB7 := Lib.hid ((hx.block (lt_of_heap HB6.out)).trans HB6.out)
  clear hx HX5 HA5 HL5 HB6 g0 g1
  have g0 : w6.cell? ⟨S, 0, none⟩ = some (.int .i64 4) := by simp [World.cell?, HB7.out]
  have g1 : w6.cell? ⟨S, 1, none⟩ = some (.int .i64 8) := by simp [World.cell?, HB7.out]
  go_wp2_with fail
  refine (stop_is (some ⟨b, 0, none⟩) (some aw2) 4 8 8 7 2 H6.out H7.out w6 HA6.out.p).mono ?_
  rintro e w7 ⟨rfl, hx⟩
  have HX7 := Lib.hid (HX6.out.trans hx)
  have HA7 := Lib.hid (HA6.out.ext hx)
  have HL7 := Lib.hid (HL6.out.ext hx)
  have HB8 := Lib.hid ((hx.block (lt_of_heap HB7.out)).trans HB7.out)
  clear hx HX6 HA6 HL6 HB7 g0 g1
  have g0 : w7.cell? ⟨S, 0, none⟩ = some (.int .i64 4) := by simp [World.cell?, HB8.out]
  have g1 : w7.cell? ⟨S, 1, none⟩ = some (.int .i64 8) := by simp [World.cell?, HB8.out]
  go_wp2_with fail
  refine (stop_is (some ⟨b, 0, none⟩) (some aw2) 4 8 10 9 3 H8.out H9.out w7 HA7.out.p).mono ?_
  rintro e w8 ⟨rfl, hx⟩
  have HX8 := Lib.hid (HX7.out.trans hx)
  have HL8 := Lib.hid (HL7.out.ext hx)
  clear hx HX7 HA7 HL7 HB8 g0 g1
  obtain ⟨lb, off, rfl, hc⟩ := HL8.out.get (by decide)
  have c0 := ints_cell hc (k := 0) (by decide)
  have c1 := ints_cell hc (k := 1) (by decide)
  have HI : Hid (∀ v r, decide (v ∈ ([4, 7] : List Int)) = r → ∀ W, Ext w8 W → Calls Try.prog 22 #[.slice (some ⟨lb, off, none⟩) 2 lc, .int .i64 v] W fun e w' => e = .returned (.bool r) ∧ Ext W w') := Lib.hid (fun v r hr W hW => by
    rw [← hr]; exact starts_any _ lc [4, 7] v W (by decide) (HL8.out.ext hW))
  simp only [List.getD_cons_zero, List.getD_cons_succ, Nat.add_zero] at c0 c1
  clear hc
  go_wp2_with fail
  have Z := HI.out 7 true (by decide) w8 (Ext.refl _)
  refine Z.mono ?_
  clear Z
  rintro e w9 ⟨rfl, hx⟩
  have HX9 := Lib.hid hx
  clear hx
  go_wp2_with fail
  have Z := HI.out 8 false (by decide) w9 HX9.out
  refine Z.mono ?_
  clear Z
  rintro e w10 ⟨rfl, hx⟩
  have HX10 := Lib.hid (HX8.out.trans (HX9.out.trans hx))
  clear hx
  go_wp2_with fail
  go_ret
  exact ⟨rfl, HX10.out⟩
end Go.Proofs.Ytkcpfimhbogdcaa

/- The law WalkNobody. -/
set_option linter.unusedSimpArgs false
set_option linter.unusedVariables false
namespace Go.Proofs.Ytkcpfimhbogdcaa
open Go.RowKit Go.Shelf

/-- What the openers give. -/
abbrev IsSpan (v : Value) : Prop := ∃ a s : Int, v = .agg #[.int .i64 (a), .int .i64 (s)] ∧ (-9223372036854775808 ≤ a ∧ a ≤ 9223372036854775807) ∧ (-9223372036854775808 ≤ s ∧ s ≤ 9223372036854775807)
/-- Nobody's arena: where a walk ends, and why. -/
theorem nobody_bad {a s top : Int} (h : wkB a s top = false) : listA none a s top = [] ∧ stopE none a s top = 1 ∧ stopA none a s top = 0 := by
  have h1 : stopE none a s top = 1 := by rw [stopE, h]; rfl
  exact ⟨by rw [listA, h1]; rfl, h1, by rw [stopA, h]; rfl⟩
theorem nobody_at {a s : Int} (h : wkB a s a = true) : listA none a s a = [] ∧ stopE none a s a = 0 ∧ stopA none a s a = a := by
  have he := steps_end (l := none) (top := a) (i := a) (by omega)
  have h1 : lastS none a a = ⟨a, hd0, 0, true⟩ := by rw [lastS, he]; rfl
  have h2 : stopE none a s a = 0 := by rw [stopE, h, h1]; rfl
  exact ⟨by rw [listA, h2, he]; rfl, h2, by rw [stopA, h, h1]; rfl⟩
theorem nobody_on {a s top : Int} (h : wkB a s top = true) (hlt : a < top) : listA none a s top = [] ∧ stopE none a s top = 10 ∧ stopA none a s top = a := by
  have hw : wkE none top a = 10 := by
    have h1 : headE none a = 10 := by rw [headE]; rfl
    rw [wkE, h1]; rfl
  have he := steps_err (l := none) hlt (by rw [hw]; decide)
  have h1 : lastS none top a = ⟨a, hd0, 10, true⟩ := by rw [lastS, he, hw]; rfl
  have h2 : stopE none a s top = 10 := by rw [stopE, h, h1]; rfl
  exact ⟨by rw [listA, h2]; rfl, h2, by rw [stopA, h, h1]; rfl⟩
set_option maxRecDepth 100000
set_option maxHeartbeats 1000000
theorem walkNobody_any (a s top : Int) (V : World) (ha : -9223372036854775808 ≤ a ∧ a ≤ 9223372036854775807) (hs : -9223372036854775808 ≤ s ∧ s ≤ 9223372036854775807) :
    Calls Try.prog 3 #[.agg #[.int .i64 (a), .int .i64 (s)], .int .i64 top] V fun e w' => e = .returned (.bool true) ∧ Ext V w' := by
  obtain ⟨b, hb⟩ : ∃ b, mayB a s = b := ⟨_, rfl⟩
  have HB := Lib.hid hb
  obtain ⟨x, er, HL, HE, HA, HK⟩ : ∃ x er, Hid (listA none a s top = []) ∧ Hid (stopE none a s top = er) ∧ Hid (stopA none a s top = x) ∧ Hid ((wkB a s top = false ∧ x = 0 ∧ er = 1) ∨ (wkB a s top = true ∧ x = a ∧ ((top = a ∧ er = 0) ∨ (a < top ∧ er = 10)))) := by
    cases hk : wkB a s top
    · obtain ⟨h1, h2, h3⟩ := nobody_bad hk
      exact ⟨0, 1, Lib.hid h1, Lib.hid h2, Lib.hid h3, Lib.hid (.inl ⟨rfl, rfl, rfl⟩)⟩
    · have hk2 := hk
      simp only [wkB, Bool.and_eq_true, decide_eq_true_eq] at hk2
      by_cases ht : top = a
      · subst ht
        obtain ⟨h1, h2, h3⟩ := nobody_at hk
        exact ⟨top, 0, Lib.hid h1, Lib.hid h2, Lib.hid h3, Lib.hid (.inr ⟨rfl, rfl, .inl ⟨rfl, rfl⟩⟩)⟩
      · obtain ⟨h1, h2, h3⟩ := nobody_on hk (by omega)
        exact ⟨a, 10, Lib.hid h1, Lib.hid h2, Lib.hid h3, Lib.hid (.inr ⟨rfl, rfl, .inr ⟨by omega, rfl⟩⟩)⟩
  clear hb
  have hb5 := blk_new V #[.int .i64 a, .int .i64 s] 23 _ rfl
  have HX := Lib.hid ((Ext.refl V).alloc (.cells #[.int .i64 a, .int .i64 s] 23))
  have HB5 := Lib.hid hb5
  clear hb5
  go_enter Try.func3, Try.ntmps3
  go_wp2_with fail
  generalize V.alloc (.cells #[.int .i64 a, .int .i64 s] 23) = w4 at *
  generalize V.heap.size = S at *
  refine (list_is none none a s top er [] HL.out HE.out w4 (ArP.nil w4)).mono ?_
  rintro e w5 ⟨LA, lc, rfl, hl, hx⟩
  have HX5 := Lib.hid (HX.out.trans hx)
  have HB6 := Lib.hid ((hx.block (lt_of_heap HB5.out)).trans HB5.out)
  clear hl hx HX HB5
  have g0 : w5.cell? ⟨S, 0, none⟩ = some (.int .i64 a) := by simp [World.cell?, HB6.out]
  have g1 : w5.cell? ⟨S, 1, none⟩ = some (.int .i64 s) := by simp [World.cell?, HB6.out]
  go_wp2_with fail
  refine (stop_is none none a s top x er HA.out HE.out w5 (ArP.nil w5)).mono ?_
  rintro e w6 ⟨rfl, hx⟩
  have HX6 := Lib.hid (HX5.out.trans hx)
  have HB7 := Lib.hid ((hx.block (lt_of_heap HB6.out)).trans HB6.out)
  clear hx HX5 HB6 g0 g1
  have g0 : w6.cell? ⟨S, 0, none⟩ = some (.int .i64 a) := by simp [World.cell?, HB7.out]
  have g1 : w6.cell? ⟨S, 1, none⟩ = some (.int .i64 s) := by simp [World.cell?, HB7.out]
  go_wp2_with fail
  refine (mayS_is a s b HB.out w6).mono ?_
  rintro e w7 ⟨rfl, hx⟩
  have HX7 := Lib.hid (HX6.out.trans hx)
  have HB8 := Lib.hid ((hx.block (lt_of_heap HB7.out)).trans HB7.out)
  clear hx HX6 HB7 g0 g1
  have g0 : w7.cell? ⟨S, 0, none⟩ = some (.int .i64 a) := by simp [World.cell?, HB8.out]
  have g1 : w7.cell? ⟨S, 1, none⟩ = some (.int .i64 s) := by simp [World.cell?, HB8.out]
  rcases HK.out with ⟨hk, rfl, rfl⟩ | ⟨hk, rfl, hc⟩
  · -- no walk may be asked
    cases b
    · clear hk HK
      go_wp2_with fail
      refine (awake09_any w7).mono ?_
      rintro e w8 ⟨rfl, hx⟩
      have HX8 := Lib.hid (HX7.out.trans hx)
      clear hx
      go_wp2_with fail
      go_ret
      exact ⟨rfl, HX8.out⟩
    · obtain ⟨m1, m2, m3, m4⟩ := may_bd HB.out
      have hw : wrap64 (a + s) = a + s := IntWalk.wrap64_in _ ⟨by omega, by omega⟩
      by_cases h1 : top < a
      · have d1 : decide (top < a) = true := by simpa using h1
        clear hk HK
        go_wp2_with fail
        refine (awake09_any w7).mono ?_
        rintro e w8 ⟨rfl, hx⟩
        have HX8 := Lib.hid (HX7.out.trans hx)
        clear hx
        go_wp2_with fail
        go_ret
        exact ⟨rfl, HX8.out⟩
      · have d1 : decide (top < a) = false := by simpa using h1
        have d2 : decide (a + s < top) = true := by
          have := HB.out
          simp only [wkB, this, Bool.true_and, decide_eq_false_iff_not] at hk
          simp only [decide_eq_true_eq]
          omega
        clear hk HK
        go_wp2_with fail
        refine (awake09_any w7).mono ?_
        rintro e w8 ⟨rfl, hx⟩
        have HX8 := Lib.hid (HX7.out.trans hx)
        clear hx
        go_wp2_with fail
        go_ret
        exact ⟨rfl, HX8.out⟩
  · obtain rfl : b = true := by
      have := HB.out
      unfold wkB at hk
      rw [this] at hk
      cases b
      · simp at hk
      · rfl
    obtain ⟨m1, m2, m3, m4⟩ := may_bd HB.out
    have hw : wrap64 (x + s) = x + s := IntWalk.wrap64_in _ ⟨by omega, by omega⟩
    obtain ⟨t1, t2⟩ : x ≤ top ∧ top ≤ x + s := by simpa [wkB, HB.out] using hk
    have d1 : decide (top < x) = false := by simp; omega
    have d2 : decide (x + s < top) = false := by simp; omega
    clear hk HK
    rcases hc with ⟨hc, rfl⟩ | ⟨hc, rfl⟩
    · have d3 : (top == x) = true := by simpa using hc
      clear hc
      go_wp2_with fail
      refine (awake09_any w7).mono ?_
      rintro e w8 ⟨rfl, hx⟩
      have HX8 := Lib.hid (HX7.out.trans hx)
      clear hx
      go_wp2_with fail
      go_ret
      exact ⟨rfl, HX8.out⟩
    · have d3 : (top == x) = false := by simp; omega
      clear hc
      go_wp2_with fail
      refine (awake09_any w7).mono ?_
      rintro e w8 ⟨rfl, hx⟩
      have HX8 := Lib.hid (HX7.out.trans hx)
      clear hx
      go_wp2_with fail
      go_ret
      exact ⟨rfl, HX8.out⟩
theorem walkNobody_fin {v0 : Value} {p : Int} {w : World} (h0 : IsSpan v0) (h2 : (Lit.int .i64 p).wf = true) :
    Calls Try.prog 3 #[v0, .int .i64 p] w fun e w' => e = .returned (.bool true) ∧ Ext w w' := by
  obtain ⟨a, s, rfl, h1, h3⟩ := h0
  exact walkNobody_any a s p w h1 h3
end Go.Proofs.Ytkcpfimhbogdcaa

/- The reference's Walk. -/
set_option linter.unusedSimpArgs false
set_option linter.unusedVariables false
namespace Go.Proofs.Ytkcpfimhbogdcaa
open Go.RowKit Go.Shelf

theorem refmayS_is (a s : Int) (b : Bool) (h : mayB a s = b) (w : World) : Calls Try.prog 67 #[.agg #[.int .i64 (a), .int .i64 (s)]] w fun e w' => e = .returned (.bool b) ∧ Ext w w' := by
  rw [← h]; exact refmay_any a s w
theorem refhead_is (A : Option Addr) (cap : Nat) (ws : List Int) (i er : Int) (h : Hd) (h1 : headE (some ws) i = er) (h2 : headH (some ws) i = h) (V : World) (hl : WordsAt V A ws) (hlen : ws.length ≤ 98304) (hbd : ∀ z ∈ ws, 0 ≤ z ∧ z < 18446744073709551616) (hi : -9223372036854775808 ≤ i ∧ i ≤ 9223372036854775807) :
    Calls Try.prog 68 #[.slice A ws.length cap, .int .i64 i] V fun e w' => e = .returned (.tuple #[.agg #[.int .i64 h.k, .int .i64 h.f, .int .i64 h.r, .bool h.m, .int .i64 h.c], .int .i64 er]) ∧ Ext V w' := by
  rw [← h1, ← h2]; exact refhead_any A cap ws i V hl hlen hbd hi
/-- What a walk has met ahead of a place. -/
def MetW (l : Option (List Int)) (a top : Int) (out : List Int) (i : Int) : Prop := placesL (stepsA l top a) = out ++ placesL (stepsA l top i) ∧ lastS l top a = lastS l top i ∧ a ≤ i ∧ i ≤ top ∧ (out.length : Int) ≤ i - a
theorem MetW.start {l : Option (List Int)} {a top : Int} (h : a ≤ top) : MetW l a top [] a := ⟨rfl, rfl, Int.le_refl _, h, by simp⟩
theorem MetW.go {l : Option (List Int)} {a top i : Int} {out : List Int} (h : MetW l a top out i) (hi : i < top) (h2 : wkE l top i = 0) (hle : i + hsize (headH l i) ≤ top) : MetW l a top (out ++ [i]) (i + hsize (headH l i)) := by
  obtain ⟨h3, h4, h5, h6, h7⟩ := h
  have hg := steps_go hi h2
  have := head_size (wkE_head h2).1
  obtain ⟨pre, x, e1, -, -, -⟩ := steps_last l top _ (i + hsize (headH l i)) (Nat.le_refl _)
  refine ⟨?_, ?_, by omega, hle, by simp; omega⟩
  · rw [h3, hg]; simp [placesL]
  · rw [h4, lastS, lastS, hg, e1, ← List.cons_append]
    simp only [List.getLastD_eq_getLast?, List.getLast?_append, List.getLast?_singleton, Option.some_or, Option.getD_some]
theorem MetW.stop {l : Option (List Int)} {a top i : Int} {out : List Int} (h : MetW l a top out i) (hi : ¬ i < top) : placesL (stepsA l top a) = out ∧ lastS l top a = ⟨i, hd0, 0, true⟩ ∧ i = top := by
  obtain ⟨h3, h4, h5, h6, h7⟩ := h
  have he := steps_end (l := l) hi
  exact ⟨by rw [h3, he]; simp [placesL], by rw [h4, lastS, he]; rfl, by omega⟩
theorem MetW.err {l : Option (List Int)} {a top i : Int} {out : List Int} (h : MetW l a top out i) (hi : i < top) (h2 : wkE l top i ≠ 0) : lastS l top a = ⟨i, hd0, wkE l top i, true⟩ := by
  rw [h.2.1, lastS, steps_err hi h2]; rfl
/-- What comes back. -/
def RetWk (V : World) (zs : List Int) (x er : Int) (e : Ending) (w' : World) : Prop := ∃ A1 cap1, e = .returned (.tuple #[.slice A1 zs.length cap1, .int .i64 x, .int .i64 er]) ∧ IntsAt w' A1 zs ∧ Ext V w'
set_option maxRecDepth 100000
set_option maxHeartbeats 2000000
theorem refwalk_any (A : Option Addr) (cap : Nat) (ws : List Int) (a s top : Int) (V : World) (hl : WordsAt V A ws) (hlen : ws.length ≤ 98304) (hbd : ∀ z ∈ ws, 0 ≤ z ∧ z < 18446744073709551616) :
    Calls Try.prog 18 #[.slice A ws.length cap, .agg #[.int .i64 (a), .int .i64 (s)], .int .i64 top] V (RetWk V (listA (some ws) a s top) (stopA (some ws) a s top) (stopE (some ws) a s top)) := by
  have HL := Lib.hid hl
  have HLN := Lib.hid hlen
  have HBD := Lib.hid hbd
  have hb5 := blk_new V #[.int .i64 a, .int .i64 s] 23 _ rfl
  have HX := Lib.hid ((Ext.refl V).alloc (.cells #[.int .i64 a, .int .i64 s] 23))
  have HB5 := Lib.hid hb5
  obtain ⟨b, hb⟩ : ∃ b, mayB a s = b := ⟨_, rfl⟩
  have HB := Lib.hid hb
  clear hl hlen hbd hb5 hb
  go_enter Try.func18, Try.ntmps18
  go_wp2_with fail
  generalize V.alloc (.cells #[.int .i64 a, .int .i64 s] 23) = w4 at *
  refine (refmayS_is a s b HB.out w4).mono ?_
  rintro e w1 ⟨rfl, hx⟩
  have HX1 := Lib.hid (HX.out.trans hx)
  have HB6 := Lib.hid ((hx.block (lt_of_heap HB5.out)).trans HB5.out)
  clear hx HX HB5
  have g0 : w1.cell? ⟨V.heap.size, 0, none⟩ = some (.int .i64 a) := by simp [World.cell?, HB6.out]
  have g1 : w1.cell? ⟨V.heap.size, 1, none⟩ = some (.int .i64 s) := by simp [World.cell?, HB6.out]
  by_cases hk : wkB a s top = true
  rotate_left
  · have hk' : wkB a s top = false := by simpa using hk
    have h1 : stopE (some ws) a s top = 1 := by rw [stopE, hk']; rfl
    have HR : Hid (listA (some ws) a s top = [] ∧ stopE (some ws) a s top = 1 ∧ stopA (some ws) a s top = 0) := Lib.hid ⟨by rw [listA, h1]; rfl, h1, by rw [stopA, hk']; rfl⟩
    have HRET : Hid (∀ w', Ext V w' → RetWk V (listA (some ws) a s top) (stopA (some ws) a s top) (stopE (some ws) a s top) (.returned (.tuple #[.slice none 0 0, .int .i64 0, .int .i64 1])) w') := Lib.hid (fun w' hw => by
      rw [HR.out.1, HR.out.2.1, HR.out.2.2]
      exact ⟨none, 0, rfl, RowAt.none _ _ _, hw⟩)
    cases b
    · clear hk hk' h1
      go_wp2_with fail
      ((try simp only [Exit.inBlock, Exit.then]); refine bodyPost_ret (v := .tuple #[.slice none 0 0, .int .i64 0, .int .i64 1]) (by simp only [results, Try.results18]; go_simp) rfl ?_)
      exact HRET.out _ HX1.out
    · obtain ⟨m1, m2, m3, m4⟩ := may_bd HB.out
      have hw : wrap64 (a + s) = a + s := IntWalk.wrap64_in _ ⟨by omega, by omega⟩
      by_cases h2 : top < a
      · have d1 : decide (top < a) = true := by simpa using h2
        clear hk hk' h1
        go_wp2_with fail
        ((try simp only [Exit.inBlock, Exit.then]); refine bodyPost_ret (v := .tuple #[.slice none 0 0, .int .i64 0, .int .i64 1]) (by simp only [results, Try.results18]; go_simp) rfl ?_)
        exact HRET.out _ HX1.out
      · have d1 : decide (top < a) = false := by simpa using h2
        have d2 : decide (a + s < top) = true := by
          have := HB.out
          simp only [wkB, this, Bool.true_and, decide_eq_false_iff_not] at hk'
          simp only [decide_eq_true_eq]
          omega
        clear hk hk' h1
        go_wp2_with fail
        ((try simp only [Exit.inBlock, Exit.then]); refine bodyPost_ret (v := .tuple #[.slice none 0 0, .int .i64 0, .int .i64 1]) (by simp only [results, Try.results18]; go_simp) rfl ?_)
        exact HRET.out _ HX1.out
  obtain rfl : b = true := by
    have := HB.out
    unfold wkB at hk
    rw [this] at hk
    cases b
    · simp at hk
    · rfl
  obtain ⟨m1, m2, m3, m4⟩ := may_bd HB.out
  have hw : wrap64 (a + s) = a + s := IntWalk.wrap64_in _ ⟨by omega, by omega⟩
  obtain ⟨t1, t2⟩ : a ≤ top ∧ top ≤ a + s := by simpa [wkB, HB.out] using hk
  have d1 : decide (top < a) = false := by simp; omega
  have d2 : decide (a + s < top) = false := by simp; omega
  have HK := Lib.hid hk
  clear hk
  have HSA : Hid (stopA (some ws) a s top = (lastS (some ws) top a).at_ ∧ stopE (some ws) a s top = (lastS (some ws) top a).e) := Lib.hid (by rw [stopA, stopE, HK.out]; exact ⟨rfl, rfl⟩)
  have HLS : Hid (listA (some ws) a s top = if (lastS (some ws) top a).e = 0 then placesL (stepsA (some ws) top a) else []) := Lib.hid (by rw [listA, HSA.out.2])
  go_wp2_with fail
  go_loopw [9, 10, 11, 12, 13] (fun v j _ _ _ wr => ∃ (A1 : Option Addr) (cap1 m : Nat) (out : List Int) (i : Int), v = .slice A1 m cap1 ∧ j = .int .i64 i ∧ Hid (out.length = m) ∧ Hid (Own 3 1 intC wr V.heap.size (.slice A1 m cap1) out) ∧ Hid (MetW (some ws) a top out i) ∧ Hid (Ext V wr)) (fun _ j _ _ _ _ => (top - intOf j).toNat)
  case atStart => exact ⟨none, 0, 0, [], a, rfl, rfl, Lib.hid rfl, Lib.hid (Own.nil _ _ _ _ _), Lib.hid (MetW.start t1), HX1⟩
  case round =>
    obtain ⟨A1, cap1, m, out, i, rfl, rfl, HM, HO, HMW, HXR⟩ := hrel
    have hib : a ≤ i ∧ i ≤ top ∧ (m : Int) ≤ i - a := by
      have h := HMW.out
      have h2 := HM.out
      exact ⟨h.2.2.1, h.2.2.2.1, by rw [← h2]; exact h.2.2.2.2⟩
    obtain ⟨hi1, hi2, hi3⟩ := hib
    clear g0 g1 hw d1 d2 HX1 HB6
    by_cases hlt : i < top
    rotate_left
    · have d3 : decide (i < top) = false := by simpa using hlt
      obtain ⟨e1, e2, rfl⟩ := HMW.out.stop hlt
      have HRET : Hid (RetWk V (listA (some ws) a s i) (stopA (some ws) a s i) (stopE (some ws) a s i) (.returned (.tuple #[.slice A1 m cap1, .int .i64 i, .int .i64 0])) wr) := Lib.hid (by
        rw [HLS.out, HSA.out.1, HSA.out.2, e2, e1]
        obtain ⟨A2, cap2, hv, hrow, -⟩ := HO.out.form intCells (by decide)
        injection hv with h1 h2 h3
        subst h1 h3
        exact ⟨A1, cap1, by rw [if_pos rfl, HM.out], hrow, HXR.out⟩)
      clear e1 e2 hlt
      go_wp2_with fail
      ((try simp only [Exit.inBlock, Exit.then]); refine bodyPost_ret (v := .tuple #[.slice A1 m cap1, .int .i64 i, .int .i64 0]) (by simp only [results, Try.results18]; go_simp) rfl ?_)
      exact HRET.out
    have d3 : decide (i < top) = true := by simpa using hlt
    obtain ⟨er, her⟩ : ∃ e, headE (some ws) i = e := ⟨_, rfl⟩
    obtain ⟨h, hh⟩ : ∃ h, headH (some ws) i = h := ⟨_, rfl⟩
    obtain ⟨n, hn⟩ : ∃ n, hsize h = n := ⟨_, rfl⟩
    have HER := Lib.hid her
    have HH := Lib.hid hh
    have HN := Lib.hid hn
    have hnb := hsize_bd h
    rw [hn] at hnb
    have HWK : Hid (wkE (some ws) top i = if er = 0 then (if top - i < n then 2 else 0) else er) := Lib.hid (by rw [wkE, her, hh, hn])
    have HLT := Lib.hid hlt
    have HEE : Hid (∀ x, wkE (some ws) top i = x → x ≠ 0 → ∀ w', Ext V w' → RetWk V (listA (some ws) a s top) (stopA (some ws) a s top) (stopE (some ws) a s top) (.returned (.tuple #[.slice none 0 0, .int .i64 i, .int .i64 x])) w') := Lib.hid (fun x hx h0 w' hw' => by
      have e := HMW.out.err HLT.out (by rw [hx]; exact h0)
      rw [HLS.out, HSA.out.1, HSA.out.2, e, hx, if_neg h0]
      exact ⟨none, 0, rfl, RowAt.none _ _ _, hw'⟩)
    clear her hh hn hlt
    go_wp2_with fail
    have Z := refhead_is A cap ws i er h HER.out HH.out wr (HL.out.ext HXR.out) HLN.out HBD.out ⟨by omega, by omega⟩
    refine Z.mono ?_
    clear Z
    rintro e w2 ⟨rfl, hx⟩
    have HX2 := Lib.hid (HXR.out.trans hx)
    have HO2 := Lib.hid (HO.out.ext hx)
    clear hx HXR HO
    by_cases h0 : er = 0
    rotate_left
    · have hne : (er != 0) = true := by simpa using h0
      have HR := Lib.hid (HEE.out er (HWK.out.trans (if_neg h0)) h0)
      clear h0
      go_wp2_with fail
      ((try simp only [Exit.inBlock, Exit.then]); refine bodyPost_ret (v := .tuple #[.slice none 0 0, .int .i64 i, .int .i64 er]) (by simp only [results, Try.results18]; go_simp) rfl ?_)
      exact HR.out _ (HX2.out.alloc _)
    subst h0
    have HW2 : Hid (wkE (some ws) top i = if top - i < n then 2 else 0) := Lib.hid (HWK.out.trans (if_pos rfl))
    have HBH := Lib.hid (blk_new w2 #[.int .i64 h.k, .int .i64 h.f, .int .i64 h.r, .bool h.m, .int .i64 h.c] 47 _ rfl)
    have HX3 := Lib.hid (HX2.out.alloc (.cells #[.int .i64 h.k, .int .i64 h.f, .int .i64 h.r, .bool h.m, .int .i64 h.c] 47))
    have HO3 := Lib.hid (HO2.out.ext ((Ext.refl w2).alloc (.cells #[.int .i64 h.k, .int .i64 h.f, .int .i64 h.r, .bool h.m, .int .i64 h.c] 47)))
    clear HWK HX2 HO2
    go_wp2_with fail
    generalize w2.alloc (.cells #[.int .i64 h.k, .int .i64 h.f, .int .i64 h.r, .bool h.m, .int .i64 h.c] 47) = w3 at *
    generalize w2.heap.size = X at *
    have Z := refhsize_is h n HN.out w3
    refine Z.mono ?_
    clear Z
    rintro e w5 ⟨rfl, hx⟩
    have HX5 := Lib.hid (HX3.out.trans hx)
    have HO5 := Lib.hid (HO3.out.ext hx)
    clear hx HX3 HO3 HBH
    have hw : wrap64 (i + n) = i + n := IntWalk.wrap64_in _ ⟨by omega, by omega⟩
    by_cases hs : top - i < n
    · have d5 : decide (top < i + n) = true := by simp; omega
      have HR := Lib.hid (HEE.out 2 (HW2.out.trans (if_pos hs)) (by decide))
      clear hs
      go_wp2_with fail
      ((try simp only [Exit.inBlock, Exit.then]); refine bodyPost_ret (v := .tuple #[.slice none 0 0, .int .i64 i, .int .i64 2]) (by simp only [results, Try.results18]; go_simp) rfl ?_)
      exact HR.out _ HX5.out
    · have d5 : decide (top < i + n) = false := by simp; omega
      have hle : i + n ≤ top := by omega
      have HMG : Hid (MetW (some ws) a top (out ++ [i]) (i + n)) := Lib.hid (by
        have h1 := HMW.out.go HLT.out (HW2.out.trans (if_neg hs))
        rw [HH.out, HN.out] at h1
        exact h1 hle)
      have hn1 : 1 ≤ n := by
        have h1 := HMG.out.2.2.2.2
        have h2 := head_size HER.out
        rw [HH.out, HN.out] at h2
        exact h2.1
      have hsz5 := Ext.size HX5.out
      clear hs HEE HW2
      go_wp2_with (at_builtin; refine wpList_app_lit rfl (.tmp 55) (.tmp 57) 24 rfl intInfo intCells rfl (by exact HO5.out) [i] 1 _ rfl (m + 1) 1 (by rw [HM.out]; rfl) rfl _ rfl (by first | rfl | simp) (by omega) (by simp [maxLen]; try omega) (by exact hsz5) ?_; intro A4 cap4 w6 hown4 hgr4 hat4; have HO6 := Lib.hid hown4; have HX6 : Hid (Ext V w6) := Lib.hid (Own.below HO5.out (Below.alloc HX5.out (by exact hsz5) _) hgr4 (by simp; omega)); clear hown4 hgr4 hat4)
      go_roundw
      case rel => exact ⟨A4, cap4, m + 1, out ++ [i], i + n, rfl, rfl, Lib.hid (by rw [List.length_append, HM.out]; rfl), HO6, HMG, HX6⟩
      case measure => simp [intOf]; omega
end Go.Proofs.Ytkcpfimhbogdcaa

