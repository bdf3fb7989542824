/- How many objects, words and fields a walk has: walk.Sums. -/
import Derived.Test.YtkcpfimhbogdcaaWkC
set_option linter.unusedSimpArgs false
set_option linter.unusedVariables false
namespace Go.Proofs.Ytkcpfimhbogdcaa
open Go.RowKit Go.Shelf
attribute [local go_sem] Oper.semAt_some

def sumsP (pre : List Stp) : Int × Int × Int := pre.foldl (fun (t : Int × Int × Int) x => (wrap64 (t.1 + 1), wrap64 (t.2.1 + hsize x.h), wrap64 (t.2.2 + x.h.f))) (0, 0, 0)
theorem sumsP_snoc (pre : List Stp) (x : Stp) : sumsP (pre ++ [x]) = (wrap64 ((sumsP pre).1 + 1), wrap64 ((sumsP pre).2.1 + hsize x.h), wrap64 ((sumsP pre).2.2 + x.h.f)) := by simp [sumsP]
/-- The sums of a walk. -/
def wsumA (l : Option (List Int)) (a s top : Int) : Int × Int × Int := if stopE l a s top = 0 then sumsP ((stepsA l top a).filter fun x => !x.last) else (0, 0, 0)
theorem filter_pre {l : Option (List Int)} {top i : Int} {pre : List Stp} {x : Stp} (h : pre ++ [x] <+: stepsA l top i) (hp : ∀ y ∈ pre, y.last = false) (hx : x.last = true) : (stepsA l top i).filter (fun x => !x.last) = pre := by
  rw [← (steps_pre h hx).2, List.filter_append]
  rw [List.filter_eq_self.2 (fun y hy => by simp [hp y hy])]
  simp [hx]
/-- The three counters. -/
structure SumI (C : Nat) (t : Int × Int × Int) (W : World) : Prop where
  a : W.heap[C]? = some (.cells #[.int .i64 t.1] 3 (0, 0))
  b : W.heap[C + 1]? = some (.cells #[.int .i64 t.2.1] 3 (0, 0))
  c : W.heap[C + 2]? = some (.cells #[.int .i64 t.2.2] 3 (0, 0))
theorem SumI.below {C n : Nat} {t : Int × Int × Int} {A B : World} (h : SumI C t A) (hb : Below n A B) (hC : C + 2 < n) : SumI C t B := ⟨(hb.block _ (by omega)).trans h.a, (hb.block _ (by omega)).trans h.b, (hb.block _ hC).trans h.c⟩
theorem SumI.keep {C : Nat} {t : Int × Int × Int} {A B : World} (h : SumI C t A) (hk : ∀ (k : Nat) (o : Obj), A.heap[k]? = some o → o.isCells = true → B.heap[k]? = some o) : SumI C t B := ⟨hk _ _ h.a rfl, hk _ _ h.b rfl, hk _ _ h.c rfl⟩
theorem SumI.ext {C : Nat} {t : Int × Int × Int} {A B : World} (h : SumI C t A) (hx : Ext A B) : SumI C t B := ⟨(hx.block (lt_of_heap h.a)).trans h.a, (hx.block (lt_of_heap h.b)).trans h.b, (hx.block (lt_of_heap h.c)).trans h.c⟩
theorem set1 {W : World} {k : Nat} {v u : Value} {t : TypeId} (h : W.heap[k]? = some (.cells #[v] t (0, 0))) : (W.setCell ⟨k, 0, none⟩ u).heap[k]? = some (.cells #[u] t (0, 0)) := by
  rw [heap_setCell_same W k 0 _ _ _ h]; rfl
theorem SumI.setA {C : Nat} {t : Int × Int × Int} {A : World} (h : SumI C t A) (z : Int) : SumI C (z, t.2.1, t.2.2) (A.setCell ⟨C, 0, none⟩ (.int .i64 z)) :=
  ⟨set1 h.a, (Below.heap_setCell A ⟨C, 0, none⟩ _ (C + 1) (by simp)).trans h.b, (Below.heap_setCell A ⟨C, 0, none⟩ _ (C + 2) (by simp)).trans h.c⟩
theorem SumI.setB {C : Nat} {t : Int × Int × Int} {A : World} (h : SumI C t A) (z : Int) : SumI C (t.1, z, t.2.2) (A.setCell ⟨C + 1, 0, none⟩ (.int .i64 z)) :=
  ⟨(Below.heap_setCell A ⟨C + 1, 0, none⟩ _ C (by simp)).trans h.a, set1 h.b, (Below.heap_setCell A ⟨C + 1, 0, none⟩ _ (C + 2) (by simp)).trans h.c⟩
theorem SumI.setC {C : Nat} {t : Int × Int × Int} {A : World} (h : SumI C t A) (z : Int) : SumI C (t.1, t.2.1, z) (A.setCell ⟨C + 2, 0, none⟩ (.int .i64 z)) :=
  ⟨(Below.heap_setCell A ⟨C + 2, 0, none⟩ _ C (by simp)).trans h.a, (Below.heap_setCell A ⟨C + 2, 0, none⟩ _ (C + 1) (by simp)).trans h.b, set1 h.c⟩
theorem KpX.setLow {K : Nat → Prop} {nV n0 Bout k i : Nat} {A : World} {u : Value} (hV : nV ≤ k) (hk : k < n0) (hB : Bout ≠ k) (hK : ∀ j, K j → j ≠ k) : KpX K nV n0 Bout A (A.setCell ⟨k, i, none⟩ u) :=
  ⟨Kp.setLow hV hk hB, fun j o hj ho => (Below.heap_setCell A ⟨k, i, none⟩ u j (hK j hj)).trans ho⟩
set_option maxRecDepth 100000
set_option maxHeartbeats 8000000
theorem wsums_any (p : Option Addr) (l : Option (List Int)) (a s top : Int) (V : World) (hp : ArP V p l) :
    Calls Try.prog 19 #[.pointer p, .agg #[.int .i64 (a), .int .i64 (s)], .int .i64 top] V fun e w' => e = .returned (.tuple #[.int .i64 (wsumA l a s top).1, .int .i64 (wsumA l a s top).2.1, .int .i64 (wsumA l a s top).2.2, .int .i64 (stopE l a s top)]) ∧ Ext V w' := by
  have HP := Lib.hid hp
  have hb4 := blk_new V #[.int .i64 a, .int .i64 s] 23 _ rfl
  have hW : Ext V (V.alloc (.cells #[.int .i64 a, .int .i64 s] 23)) := (Ext.refl V).alloc _
  obtain ⟨x0, hx0⟩ : ∃ x, stopA l a s top = x := ⟨_, rfl⟩
  obtain ⟨er, her⟩ : ∃ x, stopE l a s top = x := ⟨_, rfl⟩
  have HSA := Lib.hid hx0
  have HSE := Lib.hid her
  have HLA := Lib.hid (show wsumA l a s top = if er = 0 then sumsP ((stepsA l top a).filter fun x => !x.last) else (0, 0, 0) by rw [wsumA, her])
  clear hx0 her hp
  refine (callsIn_wide (n := 5)).1 ?_
  have hro : Fence.wide.round = none := rfl
  refine callsIn_of_wp_marks Try.func19 rfl trivial ?_ hro
  simp only [Try.ntmps19, List.size_toArray, List.length_cons, List.length_nil, Nat.reduceAdd, Nat.reduceSub, Array.replicate_succ, Array.replicate_zero, List.push_toArray, List.append_toArray, List.nil_append, List.cons_append]
  gi_wp2
  generalize V.alloc (.cells #[.int .i64 a, .int .i64 s] 23) = W at *
  refine ⟨trivial, ?_⟩
  refine (callsIn_wide.2 (stop_is p l a s top x0 er HSA.out HSE.out _ (HP.out.ext hW))).mono ?_
  rintro e w1 ⟨rfl, hx⟩
  have b4 := (hx.block (lt_of_heap hb4)).trans hb4
  have c0 : w1.cell? ⟨V.heap.size, 0, none⟩ = some (.int .i64 a) := by simp [World.cell?, b4]
  have c1 : w1.cell? ⟨V.heap.size, 1, none⟩ = some (.int .i64 s) := by simp [World.cell?, b4]
  have hlt4 := lt_of_heap b4
  have HXV := Lib.hid (hW.trans hx)
  have HB4 := Lib.hid b4
  clear hx hb4 hW b4
  by_cases h0 : er = 0
  rotate_left
  · have hne : (er != 0) = true := by simpa using h0
    have HL0 := Lib.hid (HLA.out.trans (if_neg h0))
    clear h0 HLA
    gi_wp2
    exact ⟨.tuple #[.int .i64 0, .int .i64 0, .int .i64 0, .int .i64 er], (by simp only [results, Try.results19]; go_simp), by rw [HSE.out, HL0.out], HXV.out⟩
  subst h0
  have HL0 := Lib.hid (HLA.out.trans (if_pos rfl))
  clear HLA
  have hk : wkB a s top = true := by
    have := HSE.out
    cases h : wkB a s top
    · rw [stopE, h] at this; simp at this
    · rfl
  obtain ⟨hm, ht⟩ : mayB a s = true ∧ (a ≤ top ∧ top ≤ a + s) := by simpa [wkB] using hk
  obtain ⟨m1, m2, m3, m4⟩ := may_bd hm
  obtain ⟨t1, t2⟩ := ht
  clear hk hm
  have hlA : V.heap.size < w1.heap.size + 1 := by omega
  have hlB : V.heap.size < w1.heap.size + 1 + 1 := by omega
  have hlC : V.heap.size < w1.heap.size + 1 + 1 + 1 := by omega
  gi_wp2_with (refine ⟨trivial, ?_⟩; gi_at_call 64; refine (callsIn_wide.2 (walk_any _ _ _ _ _)).mono ?_; rintro e w' ⟨rfl, rfl⟩)
  have f0 := (blk_old (o2 := .cells #[.int .i64 top] 3) (blk_old (o2 := .cells #[.int .i64 a, .int .i64 s] 23) (blk_old (o2 := .cells #[.pointer p] 34) (blk_old (o2 := .cells #[.int .i64 0] 3) (blk_old (o2 := .cells #[.int .i64 0] 3) (blk_new w1 #[.int .i64 0] 3 _ rfl))))))
  have f1 := (blk_old (o2 := .cells #[.int .i64 top] 3) (blk_old (o2 := .cells #[.int .i64 a, .int .i64 s] 23) (blk_old (o2 := .cells #[.pointer p] 34) (blk_old (o2 := .cells #[.int .i64 0] 3) (blk_new (w1.alloc (.cells #[.int .i64 0] 3)) #[.int .i64 0] 3 (w1.heap.size + 1) (by simp))))))
  have f2 := (blk_old (o2 := .cells #[.int .i64 top] 3) (blk_old (o2 := .cells #[.int .i64 a, .int .i64 s] 23) (blk_old (o2 := .cells #[.pointer p] 34) (blk_new ((w1.alloc (.cells #[.int .i64 0] 3)).alloc (.cells #[.int .i64 0] 3)) #[.int .i64 0] 3 (w1.heap.size + 1 + 1) (by simp)))))
  have e0 := (blk_old (o2 := .cells #[.int .i64 top] 3) (blk_old (o2 := .cells #[.int .i64 a, .int .i64 s] 23) (blk_new (((w1.alloc (.cells #[.int .i64 0] 3)).alloc (.cells #[.int .i64 0] 3)).alloc (.cells #[.int .i64 0] 3)) #[.pointer p] 34 (w1.heap.size + 1 + 1 + 1) (by simp))))
  have e1 := (blk_old (o2 := .cells #[.int .i64 top] 3) (blk_new ((((w1.alloc (.cells #[.int .i64 0] 3)).alloc (.cells #[.int .i64 0] 3)).alloc (.cells #[.int .i64 0] 3)).alloc (.cells #[.pointer p] 34)) #[.int .i64 a, .int .i64 s] 23 (w1.heap.size + 1 + 1 + 1 + 1) (by simp)))
  have e2 := blk_new (((((w1.alloc (.cells #[.int .i64 0] 3)).alloc (.cells #[.int .i64 0] 3)).alloc (.cells #[.int .i64 0] 3)).alloc (.cells #[.pointer p] 34)).alloc (.cells #[.int .i64 a, .int .i64 s] 23)) #[.int .i64 top] 3 (w1.heap.size + 1 + 1 + 1 + 2) (by simp)
  have hx2 : Ext w1 ((((((w1.alloc (.cells #[.int .i64 0] 3)).alloc (.cells #[.int .i64 0] 3)).alloc (.cells #[.int .i64 0] 3)).alloc (.cells #[.pointer p] 34)).alloc (.cells #[.int .i64 a, .int .i64 s] 23)).alloc (.cells #[.int .i64 top] 3)) := ((((((Ext.refl w1).alloc _).alloc _).alloc _).alloc _).alloc _).alloc _
  generalize (((((w1.alloc (.cells #[.int .i64 0] 3)).alloc (.cells #[.int .i64 0] 3)).alloc (.cells #[.int .i64 0] 3)).alloc (.cells #[.pointer p] 34)).alloc (.cells #[.int .i64 a, .int .i64 s] 23)).alloc (.cells #[.int .i64 top] 3) = w2 at *
  have hbs := (hx2.block hlt4).trans HB4.out
  have hV2 : Ext V w2 := HXV.out.trans hx2
  have hlV := lt_of_heap hbs
  have hl0 := lt_of_heap e0
  have hl1 := lt_of_heap e1
  have hl2 := lt_of_heap e2
  generalize w1.heap.size = C at *
  have hnl : ∀ b, ¬ Led w2 V.heap.size b := fun b ⟨n, c, h⟩ => by simp [World.cell?, hbs] at h
  clear c0 c1 hlA hlB hlC
  refine wpIn_rangeK (gf := 118) (lb := #[.pointer (some ⟨C + 3 + 1, 0, none⟩), .pointer (some ⟨C + 3 + 2, 0, none⟩), .pointer (some ⟨C + 3, 0, none⟩)]) rfl (enters_of Try.func118 (by kernel_rfl) rfl)
    (walk1_stops V.heap.size (C + 3 + 1) (C + 3 + 2) (C + 3) V.heap.size p l a s top w2 hl1 hl2 hl0 (by simp [World.cell?, e1]) (by simp [World.cell?, e2]) (by simp [World.cell?, e0]) (fun W' hb => HP.out.ext (Below.trans hV2 hb)) (by omega) m1 t1 (by omega) hlV hnl)
    (fun k hk => by rcases hk with rfl | rfl | rfl <;> omega) (by omega) (fun _ => rfl)
    (fun pre W => SumI C (sumsP pre) W ∧ Hid (∀ x ∈ pre, x.last = false) ∧ Ext V W ∧ w2.heap.size ≤ W.heap.size)
    (fun c pre W => c = .exit 0 ∧ SumI C (sumsP ((stepsA l top a).filter fun x => !x.last)) W ∧ Ext V W ∧ w2.heap.size ≤ W.heap.size)
    (fun s A B h hab => ⟨h.1.below hab.below (by omega), h.2.1, Below.trans h.2.2.1 (Below.mono hab.below (by omega)), Nat.le_trans h.2.2.2 hab.below.size⟩)
    (fun c s A B h hab => ⟨h.1, h.2.1.below hab.below (by omega), Below.trans h.2.2.1 (Below.mono hab.below (by omega)), Nat.le_trans h.2.2.2 hab.below.size⟩)
    ⟨⟨f0, f1, f2⟩, Lib.hid (by simp), hV2, Nat.le_refl _⟩
    (fun pre x a' W => SumI C (sumsP pre) W ∧ Hid (∀ x ∈ pre, x.last = false) ∧ Ext V W ∧ ∃ X, w2.heap.size ≤ X ∧ W.heap[X]? = some (.cells #[.int .i64 x.at_, .int .i64 x.h.k, .int .i64 x.h.f, .int .i64 x.h.r, .bool x.h.m, .int .i64 x.h.c, .int .i64 x.e, .bool x.last] 119 (0, 0)) ∧
      a' = { tmps := #[.pointer p, .agg #[.int .i64 a, .int .i64 s], .int .i64 top, undef, .pointer (some ⟨V.heap.size, 0, none⟩), undef, .int .i64 0, .int .i64 0, .int .i64 0, .int .i64 0, .int .i64 x0, .int .i64 0, .pointer (some ⟨C, 0, none⟩), .pointer (some ⟨C + 1, 0, none⟩), .pointer (some ⟨C + 2, 0, none⟩), .pointer (some ⟨X, 0, none⟩), .tuple #[.int .i64 x0, .int .i64 0], .pointer p, .agg #[.int .i64 a, .int .i64 s], .int .i64 top, .tuple #[.int .i64 x0, .int .i64 0], .int .i64 x0, .int .i64 0, .int .i64 0, .bool false, undef, .pointer p, .agg #[.int .i64 a, .int .i64 s], .int .i64 top, .func (.func 118) #[] #[.pointer (some ⟨C + 3 + 1, 0, none⟩), .pointer (some ⟨C + 3 + 2, 0, none⟩), .pointer (some ⟨C + 3, 0, none⟩)], .agg #[.int .i64 x.at_, .int .i64 x.h.k, .int .i64 x.h.f, .int .i64 x.h.r, .bool x.h.m, .int .i64 x.h.c, .int .i64 x.e, .bool x.last], undef, undef, undef, undef, undef, undef, undef, undef, undef, undef, undef, undef, undef, undef, undef, undef, undef], defers := [] })
    ?hax ?assign ?body ?done ?stop
  case hax =>
    rintro pre x a' A B ⟨hs, hn, hE, X, hX, hbX, rfl⟩ hb hk
    exact ⟨hs.keep hk, hn, Below.trans hE (Below.mono hb (by omega)), X, hX, hk X _ hbX rfl, rfl⟩
  case assign =>
    rintro lq pre x W K ⟨hs, hn, hE, hS⟩ hK
    have hsz := Ext.size hE
    have HS := Lib.hid hs
    have HE := Lib.hid hE
    clear hs hE
    gi_wp2
    exact hK _ _ ⟨HS.out.ext ((Ext.refl W).alloc _), hn, HE.out.alloc _, W.heap.size, hS, World.alloc_heap_new _ _, rfl⟩ ((KeepsOthers.alloc _ _).from _) (KpX.ext ((Ext.refl W).alloc _) (by omega) (by omega))
  case body =>
    rintro lq pre x a' W ⟨hs, hn, hE, X, hX, hbX, rfl⟩ hgd
    have HF := Lib.hid (fun (h : x.last = true) => filter_pre hgd hn.out h)
    have HPS := Lib.hid (sumsP_snoc pre x)
    have hltX := lt_of_heap hbX
    have hsz := Ext.size hE
    obtain ⟨n, hnx⟩ : ∃ n, hsize x.h = n := ⟨_, rfl⟩
    rw [hnx] at HPS
    have HNX := Lib.hid hnx
    clear hnx
    obtain ⟨xat, xh, xe, xl⟩ := x
    simp only at HF HNX HPS
    have g3 : W.cell? ⟨X, 7, none⟩ = some (.bool xl) := by simp [World.cell?, hbX]
    generalize ht : sumsP pre = t at *
    have HT := Lib.hid ht
    clear ht
    obtain ⟨t1', t2', t3'⟩ := t
    have HS := Lib.hid hs
    have HE := Lib.hid hE
    have HN := Lib.hid hn
    clear hs hE hn hgd
    cases xl
    · have q1 : W.cell? ⟨C, 0, none⟩ = some (.int .i64 t1') := by simp [World.cell?, HS.out.a]
      have q2 : W.frozen? ⟨C, 0, none⟩ = false := by simp [World.frozen?, HS.out.a]
      gi_wp2
      have HS1 := Lib.hid (HS.out.setA (wrap64 (t1' + 1)))
      have HK1 : Hid (KpX (fun k => k = C + 3 + 1 ∨ k = C + 3 + 2 ∨ k = C + 3) V.heap.size w2.heap.size V.heap.size W (W.setCell ⟨C, 0, none⟩ (.int .i64 (wrap64 (t1' + 1))))) := Lib.hid (KpX.setLow (by omega) (by omega) (by omega) (fun j hj => by rcases hj with rfl | rfl | rfl <;> omega))
      have HF1 : Hid (KeepsFrom w2.heap.size W (W.setCell ⟨C, 0, none⟩ (.int .i64 (wrap64 (t1' + 1))))) := Lib.hid ((KeepsOthers.setCell _ _ _).from _)
      have HE1 : Hid (Ext V (W.setCell ⟨C, 0, none⟩ (.int .i64 (wrap64 (t1' + 1))))) := Lib.hid (HE.out.setCell (by show V.heap.size ≤ C; omega) _)
      have HX1 : Hid ((W.setCell ⟨C, 0, none⟩ (.int .i64 (wrap64 (t1' + 1)))).heap[X]? = _) := Lib.hid ((Below.heap_setCell W ⟨C, 0, none⟩ _ X (by show X ≠ C; omega)).trans hbX)
      simp only at HS1
      clear q1 q2 g3 hbX HS HE
      generalize W.setCell ⟨C, 0, none⟩ (.int .i64 (wrap64 (t1' + 1))) = W3 at *
      have hxr : Ext W3 W3 := Ext.refl W3
      have hl3 : C + 2 < W3.heap.size := lt_of_heap HS1.out.c
      have hsz3 := HF1.out.size
      have l0 : ∀ u : ExtOf W3, u.1.cell? ⟨C + 1, 0, none⟩ = some (.int .i64 t2') := fun u => u.2.cell (by simp [World.cell?, HS1.out.b])
      have l1 : ∀ u : ExtOf W3, u.1.cell? ⟨X, 1, none⟩ = some (.int .i64 xh.k) := fun u => u.2.cell (by simp [World.cell?, HX1.out])
      have l2 : ∀ u : ExtOf W3, u.1.cell? ⟨X, 2, none⟩ = some (.int .i64 xh.f) := fun u => u.2.cell (by simp [World.cell?, HX1.out])
      have l3 : ∀ u : ExtOf W3, u.1.cell? ⟨X, 3, none⟩ = some (.int .i64 xh.r) := fun u => u.2.cell (by simp [World.cell?, HX1.out])
      have l4 : ∀ u : ExtOf W3, u.1.cell? ⟨X, 4, none⟩ = some (.bool xh.m) := fun u => u.2.cell (by simp [World.cell?, HX1.out])
      have l5 : ∀ u : ExtOf W3, u.1.cell? ⟨X, 5, none⟩ = some (.int .i64 xh.c) := fun u => u.2.cell (by simp [World.cell?, HX1.out])
      (refine wpIn_region_ord (W := W3) [(0, true), (1, true), (2, true), (3, false), (4, true)] [] [5] (by kernel_rfl) (by kernel_rfl) (by kernel_rfl) (by intro a w h; exact h) (by intro c a d v w h; cases d <;> exact h) (by with_reducible assumption) ?_; simp only [opsOf, List.map_cons, List.map_nil, List.getD_cons_zero, List.getD_cons_succ]; (repeat (go_big_quiet_step (first | (go_at_call 70; with_reducible exact Calls.ext_of (hsize_is xh n HNX.out _))))); refine wpQuiet_nil ?_; intro w1 hx; refine mid_nil ?_)
      have HSx := Lib.hid (HS1.out.ext hx)
      have q1 : w1.cell? ⟨C + 1, 0, none⟩ = some (.int .i64 t2') := by simp [World.cell?, HSx.out.b]
      have q2 : w1.frozen? ⟨C + 1, 0, none⟩ = false := by simp [World.frozen?, HSx.out.b]
      have hszx := Ext.size hx
      have HS2 := Lib.hid (HSx.out.setB (wrap64 (t2' + n)))
      have HK2 : Hid (KpX (fun k => k = C + 3 + 1 ∨ k = C + 3 + 2 ∨ k = C + 3) V.heap.size w2.heap.size V.heap.size W (w1.setCell ⟨C + 1, 0, none⟩ (.int .i64 (wrap64 (t2' + n))))) := Lib.hid ((HK1.out.trans (KpX.ext hx (by omega) (by omega))).trans (KpX.setLow (by omega) (by omega) (by omega) (fun j hj => by rcases hj with rfl | rfl | rfl <;> omega)))
      have HF2 : Hid (KeepsFrom w2.heap.size W (w1.setCell ⟨C + 1, 0, none⟩ (.int .i64 (wrap64 (t2' + n))))) := Lib.hid ((HF1.out.trans (keeps_ext hx)).trans ((KeepsOthers.setCell _ _ _).from _))
      have HE2 : Hid (Ext V (w1.setCell ⟨C + 1, 0, none⟩ (.int .i64 (wrap64 (t2' + n))))) := Lib.hid ((HE1.out.trans hx).setCell (by show V.heap.size ≤ C + 1; omega) _)
      have hx1 := (hx.block (show X < W3.heap.size from lt_of_heap HX1.out)).trans HX1.out
      have HX2 : Hid ((w1.setCell ⟨C + 1, 0, none⟩ (.int .i64 (wrap64 (t2' + n)))).heap[X]? = _) := Lib.hid ((Below.heap_setCell w1 ⟨C + 1, 0, none⟩ _ X (by show X ≠ C + 1; omega)).trans hx1)
      simp only at HS2
      have m0 : (w1.setCell ⟨C + 1, 0, none⟩ (.int .i64 (wrap64 (t2' + n)))).cell? ⟨C + 2, 0, none⟩ = some (.int .i64 t3') := by simp [World.cell?, HS2.out.c]
      have m1' : (w1.setCell ⟨C + 1, 0, none⟩ (.int .i64 (wrap64 (t2' + n)))).cell? ⟨X, 2, none⟩ = some (.int .i64 xh.f) := by simp [World.cell?, HX2.out]
      have m2' : (w1.setCell ⟨C + 1, 0, none⟩ (.int .i64 (wrap64 (t2' + n)))).frozen? ⟨C + 2, 0, none⟩ = false := by simp [World.frozen?, HS2.out.c]
      clear hx1 HX1 hx HSx HS1 HE1 HF1 HK1 l0 l1 l2 l3 l4 l5 hxr HX2
      have HW : Hid (∀ W4 : World, W4 = w1.setCell ⟨C + 1, 0, none⟩ (.int .i64 (wrap64 (t2' + n))) → KeepsFrom w2.heap.size W (W4.setCell ⟨C + 2, 0, none⟩ (.int .i64 (wrap64 (t3' + xh.f)))) ∧ KpX (fun k => k = C + 3 + 1 ∨ k = C + 3 + 2 ∨ k = C + 3) V.heap.size w2.heap.size V.heap.size W (W4.setCell ⟨C + 2, 0, none⟩ (.int .i64 (wrap64 (t3' + xh.f)))) ∧ SumI C (sumsP (pre ++ [{ at_ := xat, h := xh, e := xe, last := false }])) (W4.setCell ⟨C + 2, 0, none⟩ (.int .i64 (wrap64 (t3' + xh.f)))) ∧ Hid (∀ x ∈ pre ++ [{ at_ := xat, h := xh, e := xe, last := false }], x.last = false) ∧ Ext V (W4.setCell ⟨C + 2, 0, none⟩ (.int .i64 (wrap64 (t3' + xh.f)))) ∧ w2.heap.size ≤ (W4.setCell ⟨C + 2, 0, none⟩ (.int .i64 (wrap64 (t3' + xh.f)))).heap.size) := Lib.hid (by
        rintro W4 rfl
        refine ⟨HF2.out.trans ((KeepsOthers.setCell _ _ _).from _), HK2.out.trans (KpX.setLow (by omega) (by omega) (by omega) (fun j hj => by rcases hj with rfl | rfl | rfl <;> omega)), by rw [HPS.out]; exact HS2.out.setC _, Lib.hid fun y hy => ?_, HE2.out.setCell (by show V.heap.size ≤ C + 2; omega) _, by have := HF2.out.size; simp at this ⊢; omega⟩
        rcases List.mem_append.1 hy with hy | hy
        · exact HN.out.out y hy
        · rcases List.mem_singleton.1 hy with rfl
          rfl)
      go_wp2_with fail
      gi_wp2
      exact HW.out _ rfl
    · gi_wp2
      have HFF := HF.out trivial
      exact ⟨keeps_ext (Ext.refl _), rfl, by rw [HFF, HT.out]; exact HS.out, HE.out, by omega⟩
  case done =>
    rintro D ys W hD rfl ⟨h1, h2, h3⟩ hK
    exact (steps_all h2.out).elim
  case stop =>
    rintro D c pre W hD hpre ⟨rfl, h1, h2, h3⟩ hK
    generalize sumsP ((stepsA l top a).filter fun x => !x.last) = t at *
    obtain ⟨t1', t2', t3'⟩ := t
    have H1 := Lib.hid h1
    have H2 := Lib.hid h2
    clear h1 h2
    gi_wp2
    have p1 : W.cell? ⟨C, 0, none⟩ = some (.int .i64 t1') := by simp [World.cell?, H1.out.a]
    have p2 : W.cell? ⟨C + 1, 0, none⟩ = some (.int .i64 t2') := by simp [World.cell?, H1.out.b]
    have p3 : W.cell? ⟨C + 1 + 1, 0, none⟩ = some (.int .i64 t3') := by simp [World.cell?, H1.out.c]
    have hcl : C < W.heap.size := by omega
    gi_region
    all_goals gi_wp2
    all_goals
      have hab : AbI w2.heap.size V.heap.size W.drew (W.drew.putObj D (.deferred none)) := AbI.putObj hD hK rfl
      refine ⟨by simp, .inl ⟨_, _, rfl, run_takeDeferred hK, ?_⟩⟩
      exact ⟨.tuple #[.int .i64 t1', .int .i64 t2', .int .i64 t3', .int .i64 0], (by simp only [results, Try.results19]; go_simp), (by rw [HL0.out, HSE.out]), Below.trans H2.out.drew (Below.mono hab.below (by omega))⟩
end Go.Proofs.Ytkcpfimhbogdcaa
