/- Merged by program (merge.py) out of: Law03A, ExtA, ExtB, ExtC, ExtD, ExtE, LedA. -/
import Derived.Lib.SliceRun
import Derived.Shelf.Abstract
import Derived.Test.YtllcekmbcmhckaaMg13
import Derived.Test.YtllcekmbcmhckaaMg14
import Derived.Test.YtllcekmbcmhckaaMg12
/- The walk of layer 3's awake, and of the laws SpanTells and SpanGaps. -/
set_option linter.unusedSimpArgs false
set_option linter.unusedVariables false
namespace Go.Proofs.Ytllcekmbcmhckaa
open Go.RowKit

/-- The contracts with the spans and their number under names. -/
theorem join_c (A : Option Addr) (cap : Nat) (xs zs : List (Int × Int)) (n m : Nat) (V : World) (hn : xs.length = n) (hz : joinL xs = zs) (hm : zs.length = m) (hlen : n ≤ 1000000) (hl : SpansAt V A xs) :
    Calls Try.prog 29 #[.slice A n cap] V fun e w' => ∃ A2 cap2, e = .returned (.slice A2 m cap2) ∧ SpansAt w' A2 zs ∧ Ext V w' := by
  subst hn hz hm
  exact (join_any A cap xs V hlen hl).mono fun e w' h => h.open
theorem gaps_c (a s : Int) (A : Option Addr) (cap : Nat) (xs zs : List (Int × Int)) (n m : Nat) (V : World) (hn : xs.length = n) (hz : GapsOf a s xs zs) (hm : zs.length = m) (hlen : n ≤ 1000000) (hl : SpansAt V A xs) :
    Calls Try.prog 31 #[.agg #[.int .i64 (a), .int .i64 (s)], .slice A n cap] V fun e w' => ∃ A2 cap2, e = .returned (.slice A2 m cap2) ∧ SpansAt w' A2 zs ∧ Ext V w' := by
  subst hn hm
  refine (gaps_any a s A cap xs V hlen hl).mono fun e w' ⟨ys, hg, h⟩ => ?_
  obtain rfl := Canon.unique hg hz
  exact h.open
theorem sort_c (A : Option Addr) (cap : Nat) (xs zs : List (Int × Int)) (n m : Nat) (V : World) (hn : xs.length = n) (hz : sortS xs = zs) (hm : zs.length = m) (hlen : n ≤ 1000000) (hl : SpansAt V A xs) :
    Calls Try.prog 23 #[.slice A n cap] V fun e w' => ∃ A2 cap2, e = .returned (.slice A2 m cap2) ∧ SpansAt w' A2 zs ∧ Ext V w' := by
  subst hn hz hm
  exact (sort_any A cap xs V hlen hl).mono fun e w' h => h.open
theorem total_c (A : Option Addr) (cap : Nat) (xs : List (Int × Int)) (n : Nat) (t : Int) (V : World) (hn : xs.length = n) (ht : totalL xs = t) (hlen : n ≤ 1000000) (hl : SpansAt V A xs) :
    Calls Try.prog 25 #[.slice A n cap] V fun e w' => e = .returned (.int .i64 t) ∧ Ext V w' := by
  subst hn ht
  exact total_any A cap xs V (by omega) hl
theorem apart_c (A : Option Addr) (cap : Nat) (xs : List (Int × Int)) (n : Nat) (b : Bool) (V : World) (hn : xs.length = n) (hb : apartB xs = b) (hlen : n ≤ 1000000) (hl : SpansAt V A xs) :
    Calls Try.prog 27 #[.slice A n cap] V fun e w' => e = .returned (.bool b) ∧ Ext V w' := by
  subst hn hb
  exact apart_any A cap xs V hlen hl
theorem SpansAt.at {W : World} {A : Option Addr} {zs : List (Int × Int)} (h : SpansAt W A zs) (hne : 0 < zs.length) :
    ∃ b off, A = some ⟨b, off, none⟩ ∧ ∀ i, i < zs.length → ∀ w', Ext W w' → w'.cell? ⟨b, off + i * 2, none⟩ = some (.int .i64 (zs.getD i (0, 0)).1) ∧ w'.cell? ⟨b, off + i * 2 + 1, none⟩ = some (.int .i64 (zs.getD i (0, 0)).2) := by
  obtain ⟨b, off, hA, hc⟩ := h.get hne
  refine ⟨b, off, hA, fun i hi w' hx => ?_⟩
  obtain ⟨h1, h2⟩ := spans_cell hc hi
  exact ⟨hx.cell h1, hx.cell h2⟩

theorem meets_is (a s c d : Int) (b : Bool) (h : meetsB a s c d = b) (w : World) : Calls Try.prog 17 #[.agg #[.int .i64 (a), .int .i64 (s)], .agg #[.int .i64 (c), .int .i64 (d)]] w fun e w' => e = .returned (.bool b) ∧ Ext w w' := by
  rw [← h]; exact meets_any a s c d w
theorem within_is (a s c d : Int) (b : Bool) (h : withinB a s c d = b) (w : World) : Calls Try.prog 19 #[.agg #[.int .i64 (a), .int .i64 (s)], .agg #[.int .i64 (c), .int .i64 (d)]] w fun e w' => e = .returned (.bool b) ∧ Ext w w' := by
  rw [← h]; exact within_any a s c d w
theorem has_is (a s p : Int) (b : Bool) (h : hasB a s p = b) (w : World) : Calls Try.prog 15 #[.agg #[.int .i64 (a), .int .i64 (s)], .int .i64 p] w fun e w' => e = .returned (.bool b) ∧ Ext w w' := by
  rw [← h]; exact has_any a s p w
def awL : List (Int × Int) := [(5, 1), (0, 2), (2, 1)]
theorem aw_sort : sortS awL = [(0, 2), (2, 1), (5, 1)] := (sortS_unique (l := awL) (by decide) (by decide)).symm
theorem aw_join : joinL awL = [(0, 3), (5, 1)] := by
  unfold joinL
  rw [aw_sort]
  decide
theorem aw_gaps : GapsOf 0 6 [(0, 3), (5, 1)] [(3, 2)] := by
  refine ⟨by simp, by simp, fun p => ?_⟩
  simp [LeftB, hasB, mayB, coveredB, InS]
  omega
theorem aw_total : totalL awL = 4 := by decide
theorem aw_apart : apartB awL = true := by decide

set_option maxRecDepth 100000 in
set_option maxHeartbeats 4000000 in
theorem awake03_any (w : World) : Calls Try.prog 21 #[] w fun e w' => e = .returned (.bool true) ∧ Ext w w' := by
  go_enter Try.func21, Try.ntmps21
  go_wp2_with fail
  have hL : SpansAt (w.alloc (.cells #[.int .i64 5, .int .i64 1, .int .i64 0, .int .i64 2, .int .i64 2, .int .i64 1] 23)) (some ⟨w.heap.size, 0, none⟩) awL := row_lit w _ rfl spanCells (by decide)
  have hW : Ext w (w.alloc (.cells #[.int .i64 5, .int .i64 1, .int .i64 0, .int .i64 2, .int .i64 2, .int .i64 1] 23)) := (Ext.refl w).alloc _
  generalize w.alloc (.cells #[.int .i64 5, .int .i64 1, .int .i64 0, .int .i64 2, .int .i64 2, .int .i64 1] 23) = W at *
  obtain ⟨b, off, hb, hc⟩ := hL.at (by decide)
  obtain ⟨rfl, rfl⟩ : w.heap.size = b ∧ 0 = off := by simpa using hb
  have c0 := fun w' h => (hc 0 (by decide) w' h).1
  have c1 := fun w' h => (hc 0 (by decide) w' h).2
  have c4 := fun w' h => (hc 2 (by decide) w' h).1
  have c5 := fun w' h => (hc 2 (by decide) w' h).2
  simp only [awL, List.getD_cons_zero, List.getD_cons_succ, Nat.zero_mul, Nat.zero_add, Nat.reduceMul, Nat.reduceAdd] at c0 c1 c4 c5
  have HL := Lib.hid hL
  clear hL hc hb
  refine (join_c _ 3 awL [(0, 3), (5, 1)] 3 2 W rfl aw_join rfl (by omega) HL.out).mono ?_
  rintro e W1 ⟨A1, cap1, rfl, hj, hx1⟩
  obtain ⟨b1, o1, rfl, hc⟩ := hj.at (by decide)
  have d0 := fun w' h => (hc 0 (by decide) w' h).1
  have d1 := fun w' h => (hc 0 (by decide) w' h).2
  simp only [List.getD_cons_zero, List.getD_cons_succ, Nat.zero_mul, Nat.add_zero] at d0 d1
  have HJ := Lib.hid hj
  clear hj hc
  go_wp2_with fail
  refine (gaps_c 0 6 _ cap1 [(0, 3), (5, 1)] [(3, 2)] 2 1 W1 rfl aw_gaps rfl (by omega) HJ.out).mono ?_
  rintro e W2 ⟨A2, cap2, rfl, hg, hx2⟩
  obtain ⟨b2, o2, rfl, hc⟩ := hg.at (by decide)
  have e0 := fun w' h => (hc 0 (by decide) w' h).1
  have e1 := fun w' h => (hc 0 (by decide) w' h).2
  simp only [List.getD_cons_zero, List.getD_cons_succ, Nat.zero_mul, Nat.add_zero] at e0 e1
  clear hg hc
  have hs0 : Ext W2 W2 := Ext.refl W2
  have hs1 : Ext W1 W2 := hx2
  have hs2 : Ext W W2 := hx1.trans hx2
  clear hx1 hx2
  have l0 := fun u : ExtOf W2 => c0 u.1 (hs2.trans u.2)
  have l1 := fun u : ExtOf W2 => c1 u.1 (hs2.trans u.2)
  have l4 := fun u : ExtOf W2 => c4 u.1 (hs2.trans u.2)
  have l5 := fun u : ExtOf W2 => c5 u.1 (hs2.trans u.2)
  have m0 := fun u : ExtOf W2 => d0 u.1 (hs1.trans u.2)
  have m1 := fun u : ExtOf W2 => d1 u.1 (hs1.trans u.2)
  have n0 := fun u : ExtOf W2 => e0 u.1 u.2
  have n1 := fun u : ExtOf W2 => e1 u.1 u.2
  have HL2 : Hid (∀ u : ExtOf W2, SpansAt u.1 (some ⟨w.heap.size, 0, none⟩) awL) := Lib.hid fun u => HL.out.ext (hs2.trans u.2)
  go_wp2_with fail
  simp only [List.append]
  (refine wp_region_seg (W := W2) [([(0, true), (1, false), (2, true), (3, true), (4, true), (5, true), (6, true), (7, true), (8, true), (9, true), (10, true), (11, true), (12, false), (13, true), (14, true), (15, true), (16, true), (17, true), (18, true), (19, true), (20, true), (21, true), (22, true), (23, true), (24, false), (25, true), (26, true), (27, true), (28, true), (29, false), (30, true), (31, true), (32, true)], 33)] [(34, true), (35, true), (36, true), (37, true), (38, true), (39, true), (40, true), (41, true), (42, true), (43, true), (44, false), (45, true), (46, true), (47, true), (48, true), (49, true), (50, false), (51, true), (52, true), (53, true), (54, true), (55, true), (56, true), (57, true), (58, true), (59, true), (60, false), (61, true), (62, true), (63, true), (64, false), (65, true), (66, true), (67, true)] [] (by kernel_rfl) (by kernel_rfl) (by intro c a d v w h; cases d <;> exact h) (by with_reducible assumption) ?_; simp only [opsOf, List.map_cons, List.map_nil, List.getD_cons_zero, List.getD_cons_succ])
  ((first | refine seg_cons ?_ | refine seg_last ?_); (repeat (go_big_quiet_step (first | (go_at_call 25; with_reducible exact Calls.ext_of (total_c _ 3 awL 3 4 _ rfl aw_total (by omega) (HL2.out _))) | (go_at_call 27; with_reducible exact Calls.ext_of (apart_c _ 3 awL 3 true _ rfl aw_apart (by omega) (HL2.out _)))))); refine wpQuiet_nil ?_; intro w1 hx)
  (refine seg_step ?_ ?_; (focus rfl); intro K hK; go_simp)
  refine (sort_c _ 3 awL [(0, 2), (2, 1), (5, 1)] 3 3 w1 rfl aw_sort rfl (by omega) (HL2.out ⟨w1, hx⟩)).mono ?_
  rintro e W3 ⟨A3, cap3, rfl, hq, hx3⟩
  obtain ⟨b3, o3, rfl, hc⟩ := hq.at (by decide)
  have f1 := fun w' h => (hc 0 (by decide) w' h).2
  simp only [List.getD_cons_zero, Nat.zero_mul, Nat.add_zero] at f1
  have hs3 : Ext W2 W3 := hx.trans hx3
  refine hK W3 _ _ hs3 (Ext.refl _) ?_
  clear hK K hc hq hx hx3
  replace l0 := fun u : ExtOf W3 => c0 u.1 ((hs2.trans hs3).trans u.2)
  replace l1 := fun u : ExtOf W3 => c1 u.1 ((hs2.trans hs3).trans u.2)
  replace l4 := fun u : ExtOf W3 => c4 u.1 ((hs2.trans hs3).trans u.2)
  replace l5 := fun u : ExtOf W3 => c5 u.1 ((hs2.trans hs3).trans u.2)
  replace m0 := fun u : ExtOf W3 => d0 u.1 ((hs1.trans hs3).trans u.2)
  replace m1 := fun u : ExtOf W3 => d1 u.1 ((hs1.trans hs3).trans u.2)
  have q1 := fun u : ExtOf W3 => f1 u.1 u.2
  clear c0 c1 c4 c5 d0 d1 e0 e1 f1 n0 n1
  ((first | refine seg_cons ?_ | refine seg_last ?_); (repeat (go_big_quiet_step (first | (go_at_call 17; with_reducible exact Calls.ext_of (meets_is 5 1 4 2 true (by decide) _)) | (go_at_call 15; with_reducible exact Calls.ext_of (has_is 5 1 6 false (by decide) _)) | (go_at_call 19; with_reducible exact Calls.ext_of (within_is 2 1 0 3 true (by decide) _)) | (go_at_call 13; with_reducible exact Calls.ext_of (may_is 0 0 false (by decide) _))))); refine wpQuiet_nil ?_; intro w1 hx)
  go_wp2_with fail
  go_ret
  exact ⟨rfl, hW.trans (hs2.trans (hs3.trans hx))⟩
end Go.Proofs.Ytllcekmbcmhckaa

/- slices.Delete and slices.IndexFunc, ContainsFunc, Equal at spans. -/
set_option linter.unusedSimpArgs false
set_option linter.unusedVariables false
namespace Go.Proofs.Ytllcekmbcmhckaa
open Go.RowKit Go.Shelf

/-! ### Stores of several elements, and cuts. -/
theorem Below.setCells {B : Nat} {a w : World} (h : Below B a w) {g : Nat} (hg : B ≤ g) : ∀ (vs : List Value) (o : Nat), Below B a (w.setCells g o vs) := by
  intro vs
  induction vs generalizing w with
  | nil => intro o; exact h
  | cons v vs ih => intro o; exact ih (h.setCell (p := ⟨g, o, none⟩) hg v) (o + 1)
theorem Only.setCells {b : Nat} {u w : World} (h : Only b u w) : ∀ (vs : List Value) (o : Nat), Only b u (w.setCells b o vs) := by
  intro vs
  induction vs generalizing w with
  | nil => intro o; exact h
  | cons v vs ih => intro o; exact ih (h.setCell o v) (o + 1)
theorem size_setCells (g : Nat) : ∀ (vs : List Value) (o : Nat) (w : World), (w.setCells g o vs).heap.size = w.heap.size := by
  intro vs
  induction vs with
  | nil => intro o w; rfl
  | cons v vs ih => intro o w; show (World.setCells (w.setCell _ _) g (o + 1) vs).heap.size = _; rw [ih]; simp
/-- Elements laid over others. -/
def layL (xs : List (Int × Int)) (i : Nat) : List (Int × Int) → List (Int × Int)
  | [] => xs
  | y :: ys => layL (xs.set i y) (i + 1) ys
theorem layL_length : ∀ (ys xs : List (Int × Int)) (i : Nat), (layL xs i ys).length = xs.length := by
  intro ys
  induction ys with
  | nil => intro xs i; rfl
  | cons y ys ih => intro xs i; rw [layL, ih, List.length_set]
theorem layL_eq : ∀ (ys xs : List (Int × Int)) (i : Nat), i + ys.length ≤ xs.length → layL xs i ys = xs.take i ++ ys ++ xs.drop (i + ys.length) := by
  intro ys
  induction ys with
  | nil => intro xs i h; simp [layL]
  | cons y ys ih =>
    intro xs i h
    simp only [List.length_cons] at h
    rw [layL, ih _ _ (by rw [List.length_set]; omega)]
    have h1 : (xs.set i y).take (i + 1) = xs.take i ++ [y] := by
      rw [List.take_succ_eq_append_getElem (by rw [List.length_set]; omega), List.take_set_of_le (Nat.le_refl _)]
      simp
    rw [h1, List.drop_set_of_lt (by omega)]
    simp only [List.append_assoc, List.cons_append, List.nil_append, List.length_cons]
    rw [show i + 1 + ys.length = i + (ys.length + 1) from by omega]
theorem OwnS.lay {B g N cap : Nat} : ∀ (ys : List (Int × Int)) {w : World} {xs : List (Int × Int)} (i : Nat), OwnS w B (.slice (some ⟨g, 0, none⟩) N cap) xs → xs.length = N →
    OwnS (w.setCells g (i * 2) (ys.flatMap spanC)) B (.slice (some ⟨g, 0, none⟩) N cap) (layL xs i ys) := by
  intro ys
  induction ys with
  | nil => intro w xs i h hN; exact h
  | cons y ys ih =>
    intro w xs i h hN
    obtain ⟨a, b⟩ := y
    have h1 := OwnS.store h hN i a b
    have h2 := ih (i + 1) h1 (by rw [List.length_set]; exact hN)
    rw [show (i + 1) * 2 = i * 2 + 1 + 1 from by omega] at h2
    exact h2
theorem Own.cap {α : Type} {e n : Nat} {f : α → List Value} {w : World} {B : Nat} {xs : List α} {g N cap : Nat} (h : Own e n f w B (.slice (some ⟨g, 0, none⟩) N cap) xs) : N ≤ cap ∧ cap ≤ maxLen ∧ B ≤ g ∧ g < w.heap.size := by
  rcases h.2 with ⟨h', _⟩ | ⟨g', cap', cur, h', hb, hg, hnc, hcm, _⟩
  · simp at h'
  · simp only [Value.slice.injEq, Option.some.injEq, Addr.mk.injEq, and_true, true_and] at h'
    obtain ⟨rfl, _, rfl⟩ := h'
    exact ⟨by omega, hcm, hb, (Array.getElem?_eq_some_iff.1 hg).1⟩
theorem OwnS.cut {w : World} {B g N cap : Nat} {xs : List (Int × Int)} (h : OwnS w B (.slice (some ⟨g, 0, none⟩) N cap) xs) (hN : xs.length = N) (m : Nat) (hm : m ≤ N) :
    OwnS w B (.slice (some ⟨g, 0, none⟩) m cap) (xs.take m) := by
  subst hN
  rcases h.2 with ⟨h', _⟩ | ⟨g', cap', cur, h', hb, hg, hnc, hcm, hcs, htk⟩
  · simp at h'
  · simp only [Value.slice.injEq, Option.some.injEq, Addr.mk.injEq, and_true, true_and] at h'
    obtain ⟨rfl, rfl⟩ := h'
    have hml : (xs.take m).length = m := by rw [List.length_take]; omega
    refine ⟨flat_len spanCells _, .inr ⟨g, cap, cur, by rw [hml], hb, hg, by rw [hml]; omega, hcm, hcs, ?_⟩⟩
    rw [hml]
    have h2 : (xs.take m).flatMap spanC = (xs.flatMap spanC).take (m * 2) := by
      have e : xs.flatMap spanC = (xs.take m).flatMap spanC ++ (xs.drop m).flatMap spanC := by rw [← List.flatMap_append, List.take_append_drop]
      rw [e, List.take_append_of_le_length (by rw [flat_len spanCells, hml]; exact Nat.le_refl _)]
      exact (List.take_of_length_le (by rw [flat_len spanCells, hml]; exact Nat.le_refl _)).symm
    rw [h2, ← htk, List.take_take]
    congr 1
    omega

/-- append in place: there is room. -/
theorem wpList_app_room {P : Program} {ops : Array Oper} {rest : List Oper} {o : Oper} {a : Act} {w : World} {Q : Exit → Act → World → Prop} {t e n bytes : Nat} (hgd : o.guard = none) (s x : Operand)
    (ho : o.op = .call { callee := .builtin .append, args := #[s, x], argTypes := #[t, t] }) (hI : Info P t e n bytes) (g N cap k c : Nat) (ad : Addr)
    (hs : a.eval s = .slice (some ⟨g, 0, none⟩) N cap) (hx : a.eval x = .slice (some ad) k c) (news : List Value) (hl : news.length = k * n) (hc : ∀ j u, news[j]? = some u → w.cell? (ad.add j) = some u) (h1 : ∀ u ∈ news, u.oneCell' = true)
    (hroom : N + k ≤ cap) (hsp : ∀ j, j < news.length → (w.cell? ⟨g, N * n + j, none⟩).isSome = true ∧ w.frozen? ⟨g, N * n + j, none⟩ = false)
    (h : wpList P ops Q rest (a.put o.dst (.slice (some ⟨g, 0, none⟩) (N + k) cap)) (w.setCells g (N * n) news)) : wpList P ops Q (o :: rest) a w :=
  wpList_plain hgd fun K hK => by
    obtain ⟨i, z, hi, _, hz, _, _⟩ := hI.inf
    subst hz
    have hrun := run_append_room_cells (P := P) (w := w) t o.type e i hI.und hi g 0 N cap ad k c news hl hc h1 hroom (fun j hj => by simpa using (hsp j hj).1) (fun j hj => by simpa using (hsp j hj).2)
    simp only [Nat.zero_add] at hrun
    unfold Oper.wp execOp
    simp only [ho, resolve, invoke, builtin, Sem.run_bind, Sem.run_pure, Result.andThen_ok, List.map_toArray, List.map_cons, List.map_nil, hs, hx, hrun]
    exact hK _ _ h

theorem run_clear_span (w : World) (ty : TypeId) (b o c : Nat) (hc : ∀ j, j < 2 → (w.cell? ⟨b, o + j, none⟩).isSome = true) (hf : ∀ j, j < 2 → w.frozen? ⟨b, o + j, none⟩ = false) :
    (Builtin.clear_ #[29] ty #[.slice (some ⟨b, o, none⟩) 1 c]).run Try.prog w = .ok (.tuple #[]) (w.setCells b o [.int .i64 0, .int .i64 0]) := by
  have hv : ∀ w, (zeroValue 23).run Try.prog w = .ok (.agg #[.int .i64 0, .int .i64 0]) w := fun w => by kernel_rfl
  have hzc : (Builtin.zeroCells (Value.agg #[.int .i64 0, .int .i64 0]).cells 1).toList = [.int .i64 0, .int .i64 0] := by kernel_rfl
  have hst := run_storeCells_cells (P := Try.prog) b o [.int .i64 0, .int .i64 0] 0 w (by simpa using hc) (by simpa using hf) (by simp; rfl)
  simp only [Nat.add_zero] at hst
  simp [Builtin.clear_, run_underlying Try.underlying29, hv, hzc, hst]

theorem Ext.below_of {a w : World} (h : Ext a w) {B : Nat} (hB : B ≤ a.heap.size) : Below B a w := Below.mono h hB
theorem OwnS.some_at {w : World} {B g N cap : Nat} {xs : List (Int × Int)} (h : OwnS w B (.slice (some ⟨g, 0, none⟩) N cap) xs) (hN : xs.length = N) {j : Nat} (hj : j < N * 2) : (w.cell? ⟨g, j, none⟩).isSome = true ∧ w.frozen? ⟨g, j, none⟩ = false := by
  unfold OwnS Own at h
  rw [hN] at h
  refine ⟨?_, World.ownsRow.frozenAt h _⟩
  rw [World.ownsRow.cellAt h _ hj]
  have : j < (xs.flatMap spanC).length := by rw [flat_len spanCells, hN]; exact hj
  simp [List.getElem?_eq_getElem this]
theorem OwnS.row {w : World} {B g N cap : Nat} {xs : List (Int × Int)} (h : OwnS w B (.slice (some ⟨g, 0, none⟩) N cap) xs) : SpansAt w (some ⟨g, 0, none⟩) xs := by
  obtain ⟨_, _, e3, hrow3, _⟩ := h.form spanCells (by decide)
  obtain ⟨rfl, _, rfl⟩ : _ ∧ _ ∧ _ := by simpa only [Value.slice.injEq] using e3
  exact hrow3
theorem del_list {xs : List (Int × Int)} {i k : Nat} (h : xs.length = i + k + 1) : (layL (layL xs i (xs.drop (i + 1))) (i + k) [(0, 0)]).take (i + k) = xs.eraseIdx i := by
  have h1 : (xs.drop (i + 1)).length = k := by rw [List.length_drop]; omega
  rw [layL_eq _ _ _ (by rw [layL_length, h]; simp), layL_eq (xs.drop (i + 1)) _ _ (by rw [h1]; omega), h1, List.eraseIdx_eq_take_drop_succ]
  have h2 : (xs.take i ++ xs.drop (i + 1)).length = i + k := by rw [List.length_append, h1, List.length_take]; omega
  rw [List.append_assoc, List.take_append_of_le_length (by simp; omega), List.take_take, Nat.min_self]
  rw [List.take_append_of_le_length (by omega), List.take_of_length_le (by omega)]

set_option maxRecDepth 100000 in
set_option maxHeartbeats 4000000 in
/-- One element less. -/
theorem delete_any (B g cap i k : Nat) (j : Int) (xs : List (Int × Int)) (w : World) (hN : xs.length = i + k + 1) (hj : j = (i + 1 : Nat)) (hB : B ≤ w.heap.size) (hO : OwnS w B (.slice (some ⟨g, 0, none⟩) (i + k + 1) cap) xs) :
    Calls Try.prog 71 #[.slice (some ⟨g, 0, none⟩) (i + k + 1) cap, .int .i64 i, .int .i64 j] w
      fun e w' => e = .returned (.slice (some ⟨g, 0, none⟩) (i + k) cap) ∧ OwnS w' B (.slice (some ⟨g, 0, none⟩) (i + k) cap) (xs.eraseIdx i) ∧ Below B w w' ∧ Only g w w' := by
  subst hj
  obtain ⟨c1, c2, c3, c4⟩ := Own.cap hO
  have c5 := hB
  have HO := Lib.hid hO
  have hm : cap ≤ 9223372036854775807 := c2
  have hne : ((i : Int) == ((i + 1 : Nat) : Int)) = false := by simp; omega
  have hs0 : Ext w w := Ext.refl w
  have HL : Hid (((xs.drop (i + 1)).flatMap spanC).length = k * 2) := Lib.hid (by rw [flat_len spanCells, List.length_drop, hN]; congr 1; omega)
  have HU : Hid (∀ u ∈ (xs.drop (i + 1)).flatMap spanC, u.oneCell' = true) := Lib.hid (fun u hu => by obtain ⟨x, _, hx⟩ := List.mem_flatMap.1 hu; exact spanCells.one x u hx)
  have HS : Hid (∀ w1, Ext w w1 → ∀ j, j < ((xs.drop (i + 1)).flatMap spanC).length → (w1.cell? ⟨g, i * 2 + j, none⟩).isSome = true ∧ w1.frozen? ⟨g, i * 2 + j, none⟩ = false) :=
    Lib.hid (fun w1 hx j hj => OwnS.some_at (hO.ext hx) hN (by rw [HL.out] at hj; omega))
  by_cases hcp : cap = i + 1
  · subst hcp
    have hk0 : k = 0 := by omega
    have HN : Hid (∀ w1, Ext w w1 → ∀ j u, ((xs.drop (i + 1)).flatMap spanC)[j]? = some u → w1.cell? ((⟨g, 0, none⟩ : Addr).add j) = some u) := Lib.hid (fun w1 hx j u hu => by
      rw [List.drop_eq_nil_of_le (by omega)] at hu; simp at hu)
    have HK0 := Lib.hid hk0
    clear hk0
    clear hO
    go_enter Try.func71, Try.ntmps71
    go_wp2_with fail
    (refine wp_region_ord (W := w) [(0, true), (1, true), (2, true), (3, true), (4, true), (5, true)] [] [6, 7] (by kernel_rfl) (by kernel_rfl) (by intro c a d v w h; cases d <;> exact h) (by with_reducible assumption) ?_; simp only [opsOf, List.map_cons, List.map_nil, List.getD_cons_zero, List.getD_cons_succ]; (repeat (go_big_quiet_step (fail))); refine wpQuiet_nil ?_; intro w1 hx; refine mid_nil ?_)
    have HO1 := Lib.hid (HO.out.ext hx)
    have HB1 := Lib.hid (Ext.below_of hx c5)
    refine wpList_app_room rfl (.tmp 22) (.tmp 25) rfl spanInfo g i (i + 1) k 0 ⟨g, 0, none⟩ rfl (by simp [Act.eval, Act.put, HK0.out]) ((xs.drop (i + 1)).flatMap spanC) HL.out (HN.out w1 hx) HU.out (by omega) (HS.out w1 hx) ?_
    have HO2 := Lib.hid (OwnS.lay (xs.drop (i + 1)) i HO1.out hN)
    have HB2 := Lib.hid (Below.setCells HB1.out c3 ((xs.drop (i + 1)).flatMap spanC) (i * 2))
    have HN2 := Lib.hid (Only.setCells (Only.of_ext (b := g) hx) ((xs.drop (i + 1)).flatMap spanC) (i * 2))
    generalize w1.setCells g (i * 2) ((xs.drop (i + 1)).flatMap spanC) = W2 at *
    have hcl : ∀ ty c, (Builtin.clear_ #[29] ty #[.slice (some ⟨g, (i + k) * 2, none⟩) 1 c]).run Try.prog W2 = .ok (.tuple #[]) (W2.setCells g ((i + k) * 2) [.int .i64 0, .int .i64 0]) :=
      fun ty c => run_clear_span W2 ty g ((i + k) * 2) c (fun j hj => (OwnS.some_at HO2.out (layL_length _ _ _ |>.trans hN) (by omega)).1) (fun j hj => (OwnS.some_at (j := (i + k) * 2 + j) HO2.out (layL_length _ _ _ |>.trans hN) (by omega)).2)
    have HO3 := Lib.hid (OwnS.cut (OwnS.lay [(0, 0)] (i + k) HO2.out (layL_length _ _ _ |>.trans hN)) (by rw [layL_length, layL_length]; exact hN) (i + k) (by omega))
    have HB3 := Lib.hid (Below.setCells HB2.out c3 [.int .i64 0, .int .i64 0] ((i + k) * 2))
    have HN3 := Lib.hid (Only.setCells HN2.out [.int .i64 0, .int .i64 0] ((i + k) * 2))
    clear HO HN HL HU HS
    go_wp2_with fail
    go_ret
    refine ⟨rfl, ?_, HB3.out, HN3.out⟩
    have h := HO3.out
    rw [del_list hN] at h
    exact h
  · have HN : Hid (∀ w1, Ext w w1 → ∀ j u, ((xs.drop (i + 1)).flatMap spanC)[j]? = some u → w1.cell? ((⟨g, (i + 1) * 2, none⟩ : Addr).add j) = some u) := Lib.hid (fun w1 hx =>
      row_cells spanCells (by decide) (by have := RowAt.drop (OwnS.row (hO.ext hx)) (i + 1); rwa [Nat.zero_add] at this))
    clear hO
    go_enter Try.func71, Try.ntmps71
    go_wp2_with fail
    (refine wp_region_ord (W := w) [(0, true), (1, true), (2, true), (3, true), (4, true), (5, true)] [] [6, 7] (by kernel_rfl) (by kernel_rfl) (by intro c a d v w h; cases d <;> exact h) (by with_reducible assumption) ?_; simp only [opsOf, List.map_cons, List.map_nil, List.getD_cons_zero, List.getD_cons_succ]; (repeat (go_big_quiet_step (fail))); refine wpQuiet_nil ?_; intro w1 hx; refine mid_nil ?_)
    have HO1 := Lib.hid (HO.out.ext hx)
    have HB1 := Lib.hid (Ext.below_of hx c5)
    refine wpList_app_room rfl (.tmp 22) (.tmp 25) rfl spanInfo g i cap k _ _ rfl (by first | rfl | (simp [Act.eval, Act.put]; done)) ((xs.drop (i + 1)).flatMap spanC) HL.out (HN.out w1 hx) HU.out (by omega) (HS.out w1 hx) ?_
    have HO2 := Lib.hid (OwnS.lay (xs.drop (i + 1)) i HO1.out hN)
    have HB2 := Lib.hid (Below.setCells HB1.out c3 ((xs.drop (i + 1)).flatMap spanC) (i * 2))
    have HN2 := Lib.hid (Only.setCells (Only.of_ext (b := g) hx) ((xs.drop (i + 1)).flatMap spanC) (i * 2))
    generalize w1.setCells g (i * 2) ((xs.drop (i + 1)).flatMap spanC) = W2 at *
    have hcl : ∀ ty c, (Builtin.clear_ #[29] ty #[.slice (some ⟨g, (i + k) * 2, none⟩) 1 c]).run Try.prog W2 = .ok (.tuple #[]) (W2.setCells g ((i + k) * 2) [.int .i64 0, .int .i64 0]) :=
      fun ty c => run_clear_span W2 ty g ((i + k) * 2) c (fun j hj => (OwnS.some_at HO2.out (layL_length _ _ _ |>.trans hN) (by omega)).1) (fun j hj => (OwnS.some_at (j := (i + k) * 2 + j) HO2.out (layL_length _ _ _ |>.trans hN) (by omega)).2)
    have HO3 := Lib.hid (OwnS.cut (OwnS.lay [(0, 0)] (i + k) HO2.out (layL_length _ _ _ |>.trans hN)) (by rw [layL_length, layL_length]; exact hN) (i + k) (by omega))
    have HB3 := Lib.hid (Below.setCells HB2.out c3 [.int .i64 0, .int .i64 0] ((i + k) * 2))
    have HN3 := Lib.hid (Only.setCells HN2.out [.int .i64 0, .int .i64 0] ((i + k) * 2))
    clear HO HN HL HU HS
    go_wp2_with fail
    go_ret
    refine ⟨rfl, ?_, HB3.out, HN3.out⟩
    have h := HO3.out
    rw [del_list hN] at h
    exact h
end Go.Proofs.Ytllcekmbcmhckaa

/- slices.Equal, IndexFunc and ContainsFunc at spans; extent.Largest and its reference. -/
set_option linter.unusedSimpArgs false
set_option linter.unusedVariables false
namespace Go.Proofs.Ytllcekmbcmhckaa
open Go.RowKit Go.Shelf

set_option maxRecDepth 100000 in
set_option maxHeartbeats 4000000 in
theorem equal_any (A A2 : Option Addr) (cap cap2 : Nat) (xs ys : List (Int × Int)) (W : World) (hlen : xs.length ≤ 9223372036854775807) (hlen2 : ys.length ≤ 9223372036854775807) (hl : SpansAt W A xs) (hl2 : SpansAt W A2 ys) :
    Calls Try.prog 68 #[.slice A xs.length cap, .slice A2 ys.length cap2] W fun e w' => e = .returned (.bool (decide (xs = ys))) ∧ Ext W w' := by
  have HL := Lib.hid hl
  have HL2 := Lib.hid hl2
  clear hl hl2
  by_cases hne : xs.length = ys.length
  rotate_left
  · have h1 : ((xs.length : Int) != (ys.length : Int)) = true := by rw [bne_iff_ne]; omega
    have h2 : decide (xs = ys) = false := by simp; intro e; subst e; exact hne rfl
    have HR := Lib.hid h2
    clear h2 hne
    go_enter Try.func68, Try.ntmps68
    go_wp2_with fail
    go_ret
    exact ⟨ret_bool (by rw [HR.out]), Ext.refl _⟩
  have HN := Lib.hid hne
  have h1 : ((xs.length : Int) != (ys.length : Int)) = false := by rw [← HN.out]; simp
  clear hne
  go_enter Try.func68, Try.ntmps68
  go_wp2_with fail
  go_loopw [5, 13] (fun _ i wr => ∃ k : Nat, k ≤ xs.length ∧ i = .int .i64 k ∧ Ext W wr ∧ Hid (∀ i, i < k → xs.getD i (0, 0) = ys.getD i (0, 0))) (fun _ i _ => xs.length - (intOf i).toNat)
  case atStart => exact ⟨0, by omega, rfl, Ext.refl _, Lib.hid (by omega)⟩
  case round =>
    obtain ⟨k, hk, rfl, hxr, hq⟩ := hrel
    by_cases hlt : k < xs.length
    rotate_left
    · have HR := Lib.hid (same_of HN.out (fun i hi => hq.out i (by omega)))
      clear hq
      go_wp2_with fail
      go_ret
      exact ⟨ret_bool (by simp [HR.out]), hxr⟩
    have hlt2 : k < ys.length := by have := HN.out; omega
    obtain ⟨lb, off, rfl, hc⟩ := HL.out.get (by omega)
    obtain ⟨lb2, off2, rfl, hc2⟩ := HL2.out.get (by omega)
    obtain ⟨e1, e2⟩ := spans_cell hc hlt
    obtain ⟨e3, e4⟩ := spans_cell hc2 hlt2
    have c1 := hxr.cell e1
    have c2 := hxr.cell e2
    have c3 := hxr.cell e3
    have c4 := hxr.cell e4
    have HS := Lib.hid (fun (h : xs.getD k (0, 0) = ys.getD k (0, 0)) => (fun i (hi : i < k + 1) => by
      rcases Nat.lt_or_ge i k with h' | h'
      · exact hq.out i h'
      · obtain rfl : i = k := by omega
        exact h : ∀ i, i < k + 1 → xs.getD i (0, 0) = ys.getD i (0, 0)))
    have HD := Lib.hid (fun (h : xs.getD k (0, 0) ≠ ys.getD k (0, 0)) => (fun e : xs = ys => h (by rw [e]) : xs ≠ ys))
    clear e1 e2 e3 e4 hc hc2 HL HL2 hq HN
    generalize xs.getD k (0, 0) = x at *
    generalize ys.getD k (0, 0) = y at *
    obtain ⟨a, s⟩ := x
    obtain ⟨c, d⟩ := y
    simp only at c1 c2 c3 c4
    have ib1 : (k : Int) < (xs.length : Int) := by omega
    have ib2 : (k : Int) < (ys.length : Int) := by omega
    have ib3 : (0 : Int) ≤ (k : Int) := by omega
    by_cases he : a = c ∧ s = d
    · obtain ⟨rfl, rfl⟩ := he
      go_wp2_with fail
      go_quiet (fail)
      go_wp2_with fail
      go_roundw
      case rel => exact ⟨k + 1, by omega, by go_num, hxr.drewN _, Lib.hid (HS.out (by first | rfl | trivial))⟩
      case measure => simp [intOf]; omega
    · have HE := Lib.hid (HD.out (by intro e; injection e with e1 e2; exact he ⟨e1, e2⟩))
      have hb : (a == c) = false ∨ (a = c ∧ (s == d) = false) := by
        by_cases h1 : a = c
        · exact .inr ⟨h1, by rw [beq_eq_false_iff_ne]; exact fun h => he ⟨h1, h⟩⟩
        · exact .inl (by rw [beq_eq_false_iff_ne]; exact h1)
      clear he HD HS
      rcases hb with hb | ⟨rfl, hb⟩
      all_goals
        go_wp2_with fail
        go_quiet (fail)
        go_wp2_with fail
        go_ret
        exact ⟨ret_bool (decide_eq_false HE.out).symm, hxr.drewN _⟩

/-- The first place at which something is told. -/
def idxZ (p : Int × Int → Bool) (xs : List (Int × Int)) : Int := match xs.findIdx? p with
  | some i => i
  | none => -1
theorem idx_hit {p : Int × Int → Bool} {xs : List (Int × Int)} {k : Nat} (hk : k < xs.length) (h : p (xs.getD k (0, 0)) = true) (hq : ∀ i, i < k → p (xs.getD i (0, 0)) = false) : idxZ p xs = k := by
  have : xs.findIdx? p = some k := by
    rw [List.findIdx?_eq_some_iff_getElem]
    refine ⟨hk, by simpa [List.getElem?_eq_getElem hk] using h, fun j hj => ?_⟩
    have := hq j hj
    simpa [List.getElem?_eq_getElem (show j < xs.length by omega)] using this
  simp [idxZ, this]
theorem idx_miss {p : Int × Int → Bool} {xs : List (Int × Int)} (hq : ∀ i, i < xs.length → p (xs.getD i (0, 0)) = false) : idxZ p xs = -1 := by
  have : xs.findIdx? p = none := by
    rw [List.findIdx?_eq_none_iff]
    intro x hx
    obtain ⟨i, hi, rfl⟩ := List.getElem_of_mem hx
    simpa [List.getElem?_eq_getElem hi] using hq i hi
  simp [idxZ, this]
/-- Which way the first place is: there is one, or none. -/
theorem idx_cases (p : Int × Int → Bool) (xs : List (Int × Int)) : (idxZ p xs = -1 ∧ ∀ x ∈ xs, p x = false) ∨ ∃ k : Nat, k < xs.length ∧ idxZ p xs = k ∧ p (xs.getD k (0, 0)) = true ∧ ∀ i, i < k → p (xs.getD i (0, 0)) = false := by
  cases h : xs.findIdx? p with
  | none => exact .inl ⟨by simp [idxZ, h], List.findIdx?_eq_none_iff.1 h⟩
  | some k =>
    obtain ⟨hk, h1, h2⟩ := List.findIdx?_eq_some_iff_getElem.1 h
    refine .inr ⟨k, hk, by simp [idxZ, h], by simpa [List.getElem?_eq_getElem hk] using h1, fun i hi => ?_⟩
    have := h2 i hi
    simpa [List.getElem?_eq_getElem (show i < xs.length by omega)] using this
theorem idx_any (p : Int × Int → Bool) (xs : List (Int × Int)) : decide (0 ≤ idxZ p xs) = xs.any p := by
  rw [Bool.eq_iff_iff, List.any_eq_true]
  rcases idx_cases p xs with ⟨h, hq⟩ | ⟨k, hk, h, h1, _⟩
  · rw [h]
    refine ⟨fun h => by simp at h, fun ⟨x, hx, hp⟩ => by rw [hq x hx] at hp; cases hp⟩
  · rw [h]
    refine ⟨fun _ => ⟨xs[k], List.getElem_mem hk, by simpa [List.getElem?_eq_getElem hk] using h1⟩, fun _ => by simp⟩

/-- A function of a span that tells, in every world that has grown. -/
def Tells (g : Nat) (lb : Array Value) (p : Int × Int → Bool) (V : World) : Prop :=
  ∀ W (x : Int × Int), Ext V W → Calls Try.prog g (#[.agg #[.int .i64 (x.1), .int .i64 (x.2)]] ++ lb) W fun e w' => e = .returned (.bool (p x)) ∧ Ext W w'

set_option maxRecDepth 100000 in
set_option maxHeartbeats 4000000 in
theorem indexFunc_any (p : Int × Int → Bool) (g : Nat) (lb : Array Value) (eg : ∀ args w, (callFunc g args).run Try.prog w = .ok (.enter g args) w) (A : Option Addr) (cap : Nat) (xs : List (Int × Int)) (V : World) (hp : Tells g lb p V)
    (hlen : xs.length ≤ 9223372036854775807) (hl : SpansAt V A xs) :
    Calls Try.prog 69 #[.slice A xs.length cap, .func (.func g) #[] lb] V fun e w' => e = .returned (.int .i64 (idxZ p xs)) ∧ Ext V w' := by
  have HL := Lib.hid hl
  have HP := Lib.hid hp
  clear hl hp
  go_enter Try.func69, Try.ntmps69
  go_wp2_with fail
  go_loopw [5, 8] (fun _ i wr => ∃ k : Nat, k ≤ xs.length ∧ i = .int .i64 k ∧ Ext V wr ∧ Hid (∀ i, i < k → p (xs.getD i (0, 0)) = false)) (fun _ i _ => xs.length - (intOf i).toNat)
  case atStart => exact ⟨0, by omega, rfl, Ext.refl _, Lib.hid (by omega)⟩
  case round =>
    obtain ⟨k, hk, rfl, hxr, hq⟩ := hrel
    by_cases hlt : k < xs.length
    rotate_left
    · have HR := Lib.hid (idx_miss (p := p) (xs := xs) (fun i hi => hq.out i (by omega)))
      clear hq
      go_wp2_with fail
      go_ret
      exact ⟨ret_int (by rw [HR.out]), hxr⟩
    obtain ⟨lb', off, rfl, hc⟩ := HL.out.get (by omega)
    obtain ⟨e1, e2⟩ := spans_cell hc hlt
    have c1 := hxr.cell e1
    have c2 := hxr.cell e2
    have ib1 : (k : Int) < (xs.length : Int) := by omega
    have hcall := HP.out wr (xs.getD k (0, 0)) hxr
    clear e1 e2 hc HL HP
    cases hh : p (xs.getD k (0, 0))
    · have HQ : Hid (∀ i, i < k + 1 → p (xs.getD i (0, 0)) = false) := Lib.hid (fun i hi => by
        rcases Nat.lt_or_ge i k with h' | h'
        · exact hq.out i h'
        · obtain rfl : i = k := by omega
          exact hh)
      rw [hh] at hcall
      have HC := Lib.hid hcall
      clear hcall hh hq
      generalize xs.getD k (0, 0) = x at *
      obtain ⟨x1, x2⟩ := x
      simp only at c1 c2
      go_wp2_with (go_at_fn g; refine HC.out.mono ?_; rintro e w1 ⟨rfl, hx1⟩; replace hxr := hxr.trans hx1)
      go_roundw
      case rel => exact ⟨k + 1, by omega, by go_num, hxr, HQ⟩
      case measure => simp [intOf]; omega
    · have HQ := Lib.hid (idx_hit hlt hh hq.out)
      rw [hh] at hcall
      have HC := Lib.hid hcall
      clear hcall hh hq
      generalize xs.getD k (0, 0) = x at *
      obtain ⟨x1, x2⟩ := x
      simp only at c1 c2
      go_wp2_with (go_at_fn g; refine HC.out.mono ?_; rintro e w1 ⟨rfl, hx1⟩; replace hxr := hxr.trans hx1)
      go_ret
      exact ⟨ret_int (by rw [HQ.out]), hxr⟩
set_option maxRecDepth 100000 in
set_option maxHeartbeats 1000000 in
theorem containsFunc_any (p : Int × Int → Bool) (g : Nat) (lb : Array Value) (eg : ∀ args w, (callFunc g args).run Try.prog w = .ok (.enter g args) w) (A : Option Addr) (cap : Nat) (xs : List (Int × Int)) (V : World) (hp : Tells g lb p V)
    (hlen : xs.length ≤ 9223372036854775807) (hl : SpansAt V A xs) :
    Calls Try.prog 72 #[.slice A xs.length cap, .func (.func g) #[] lb] V fun e w' => e = .returned (.bool (xs.any p)) ∧ Ext V w' := by
  rw [← idx_any]
  have HL := Lib.hid hl
  have HP := Lib.hid hp
  clear hl hp
  go_enter Try.func72, Try.ntmps72
  go_wp2_with fail
  refine (indexFunc_any p g lb eg A cap xs _ HP.out hlen HL.out).mono ?_
  rintro e w1 ⟨rfl, hx⟩
  go_wp2_with fail
  go_ret
  exact ⟨rfl, hx⟩
end Go.Proofs.Ytllcekmbcmhckaa

/- extent.Largest and Right, and their reference. -/
set_option linter.unusedSimpArgs false
set_option linter.unusedVariables false
namespace Go.Proofs.Ytllcekmbcmhckaa
open Go.RowKit Go.Shelf

def lgT (n : Int) (x : Int × Int) : Int := if mayB x.1 x.2 then max n x.2 else n
/-- How many words stand together. -/
def largestL (xs : List (Int × Int)) : Int := xs.foldl lgT 0
theorem largest_snoc {xs : List (Int × Int)} {k : Nat} (hk : k < xs.length) : largestL (xs.take (k + 1)) = lgT (largestL (xs.take k)) (xs.getD k (0, 0)) := by
  unfold largestL
  rw [List.take_succ_eq_append_getElem hk, List.foldl_append]
  simp [List.getElem?_eq_getElem hk]

set_option maxRecDepth 100000 in
set_option maxHeartbeats 1000000 in
theorem largestE_any (A : Option Addr) (cap : Nat) (xs : List (Int × Int)) (W : World) (hlen : xs.length ≤ 9223372036854775807) (hl : SpansAt W A xs) :
    Calls Try.prog 43 #[.slice A xs.length cap] W fun e w' => e = .returned (.int .i64 (largestL xs)) ∧ Ext W w' := by
  have HL := Lib.hid hl
  clear hl
  go_enter Try.func43, Try.ntmps43
  go_wp2_with fail
  go_loopw [3, 5, 8] (fun n _ i wr => ∃ k : Nat, k ≤ xs.length ∧ i = .int .i64 k ∧ n = .int .i64 (largestL (xs.take k)) ∧ Ext W wr) (fun _ _ i _ => xs.length - (intOf i).toNat)
  case atStart => exact ⟨0, by omega, rfl, rfl, Ext.refl _⟩
  case round =>
    obtain ⟨k, hk, rfl, rfl, hxr⟩ := hrel
    by_cases hlt : k < xs.length
    rotate_left
    · go_wp2_with fail
      go_ret
      exact ⟨ret_int (by rw [List.take_of_length_le (by omega)]), hxr⟩
    obtain ⟨lb, off, rfl, hc⟩ := HL.out.get (by omega)
    obtain ⟨e1, e2⟩ := spans_cell hc hlt
    have c1 := hxr.cell e1
    have c2 := hxr.cell e2
    have HT := Lib.hid (largest_snoc hlt)
    clear e1 e2 hc HL
    generalize xs.getD k (0, 0) = x at *
    obtain ⟨a, s⟩ := x
    simp only at c1 c2
    generalize largestL (xs.take k) = n at *
    have ib1 : (k : Int) < (xs.length : Int) := by omega
    go_wp2_with fail
    cases hm : mayB a s
    · refine (may_is a s _ hm _).mono ?_
      rintro e w1 ⟨rfl, hx1⟩
      have hx2 := (hxr.alloc _).trans hx1
      go_wp2_with fail
      go_roundw
      case rel => exact ⟨k + 1, by omega, by go_num, by rw [HT.out]; simp [lgT, hm], hx2⟩
      case measure => simp [intOf]; omega
    · refine (may_is a s _ hm _).mono ?_
      rintro e w1 ⟨rfl, hx1⟩
      have hx2 := (hxr.alloc _).trans hx1
      have k1 := boxed wr #[.int .i64 a, .int .i64 s] 23 1 (.int .i64 s) rfl w1 hx1
      go_wp2_with fail
      all_goals
        go_roundw
        case rel => exact ⟨k + 1, by omega, by go_num, by rw [HT.out]; simp only [lgT, hm, if_true]; congr 1; omega, hx2⟩
        case measure => simp [intOf]; omega

set_option maxRecDepth 100000 in
set_option maxHeartbeats 1000000 in
theorem reflargestE_any (A : Option Addr) (cap : Nat) (xs : List (Int × Int)) (W : World) (hlen : xs.length ≤ 9223372036854775807) (hl : SpansAt W A xs) :
    Calls Try.prog 44 #[.slice A xs.length cap] W fun e w' => e = .returned (.int .i64 (largestL xs)) ∧ Ext W w' := by
  have HL := Lib.hid hl
  clear hl
  go_enter Try.func44, Try.ntmps44
  go_wp2_with fail
  go_loopw [3, 4] (fun n i wr => ∃ k : Nat, k ≤ xs.length ∧ i = .int .i64 k ∧ n = .int .i64 (largestL (xs.take k)) ∧ Ext W wr) (fun _ i _ => xs.length - (intOf i).toNat)
  case atStart => exact ⟨0, by omega, rfl, rfl, Ext.refl _⟩
  case round =>
    obtain ⟨k, hk, rfl, rfl, hxr⟩ := hrel
    by_cases hlt : k < xs.length
    rotate_left
    · go_wp2_with fail
      go_ret
      exact ⟨ret_int (by rw [List.take_of_length_le (by omega)]), hxr⟩
    obtain ⟨lb, off, rfl, hc⟩ := HL.out.get (by omega)
    obtain ⟨e1, e2⟩ := spans_cell hc hlt
    have E1 := Lib.hid e1
    have E2 := Lib.hid e2
    have c1 : ∀ w', Ext W w' → w'.cell? ⟨lb, off + k * 2, none⟩ = some (.int .i64 (xs.getD k (0, 0)).1) := fun w' h => h.cell E1.out
    have c2 : ∀ w', Ext W w' → w'.cell? ⟨lb, off + k * 2 + 1, none⟩ = some (.int .i64 (xs.getD k (0, 0)).2) := fun w' h => h.cell E2.out
    have HT := Lib.hid (largest_snoc hlt)
    clear e1 e2 hc HL
    generalize xs.getD k (0, 0) = x at *
    obtain ⟨a, s⟩ := x
    simp only at c1 c2
    generalize largestL (xs.take k) = n at *
    have ib1 : (k : Int) < (xs.length : Int) := by omega
    go_wp2_with fail
    cases hm : mayB a s
    · refine (refmay_is a s _ hm _).mono ?_
      rintro e w1 ⟨rfl, hx1⟩
      have hx2 := hxr.trans hx1
      go_wp2_with fail
      go_roundw
      case rel => exact ⟨k + 1, by omega, by go_num, by rw [HT.out]; simp [lgT, hm], hx2⟩
      case measure => simp [intOf]; omega
    · refine (refmay_is a s _ hm _).mono ?_
      rintro e w1 ⟨rfl, hx1⟩
      have hx2 := hxr.trans hx1
      by_cases hgt : n < s
      all_goals
        go_wp2_with fail
        go_roundw
        case rel => exact ⟨k + 1, by omega, by go_num, by rw [HT.out]; simp only [lgT, hm, if_true]; congr 1; omega, hx2⟩
        case measure => simp [intOf]; omega

/-- Whether free words may be. -/
def rightB (a s : Int) (xs : List (Int × Int)) : Bool := xs.all (fun x => withinB x.1 x.2 a s) && decide (joinL xs = xs)
theorem right_no {a s : Int} {xs : List (Int × Int)} {k : Nat} (hk : k < xs.length) (h : withinB (xs.getD k (0, 0)).1 (xs.getD k (0, 0)).2 a s = false) : rightB a s xs = false := by
  have : xs.all (fun x => withinB x.1 x.2 a s) = false := by
    rw [List.all_eq_false]
    exact ⟨xs[k], List.getElem_mem hk, by simpa [List.getElem?_eq_getElem hk] using h⟩
  simp [rightB, this]
theorem all_within {a s : Int} {xs : List (Int × Int)} (h : ∀ i, i < xs.length → withinB (xs.getD i (0, 0)).1 (xs.getD i (0, 0)).2 a s = true) : xs.all (fun x => withinB x.1 x.2 a s) = true := by
  rw [List.all_eq_true]
  intro x hx
  obtain ⟨i, hi, rfl⟩ := List.getElem_of_mem hx
  simpa [List.getElem?_eq_getElem hi] using h i hi
theorem right_all {a s : Int} {xs : List (Int × Int)} (h : ∀ i, i < xs.length → withinB (xs.getD i (0, 0)).1 (xs.getD i (0, 0)).2 a s = true) : rightB a s xs = decide (joinL xs = xs) := by
  rw [rightB, all_within h, Bool.true_and]
theorem within_may {a s c d : Int} (h : withinB a s c d = true) : mayB a s = true := by
  cases hm : mayB a s
  · rw [within_no1 hm] at h; cases h
  · rfl

theorem refwithin_is (a s c d : Int) (b : Bool) (h : withinB a s c d = b) (w : World) : Calls Try.prog 20 #[.agg #[.int .i64 (a), .int .i64 (s)], .agg #[.int .i64 (c), .int .i64 (d)]] w fun e w' => e = .returned (.bool b) ∧ Ext w w' := by
  rw [← h]; exact refwithin_any a s c d w
theorem equal_is (A A2 : Option Addr) (cap cap2 : Nat) (xs ys : List (Int × Int)) (n m : Nat) (b : Bool) (W : World) (hn : xs.length = n) (hm : ys.length = m) (hb : decide (xs = ys) = b) (hlen : n ≤ 1000000) (hlen2 : m ≤ 1000000) (hl : SpansAt W A xs) (hl2 : SpansAt W A2 ys) :
    Calls Try.prog 68 #[.slice A n cap, .slice A2 m cap2] W fun e w' => e = .returned (.bool b) ∧ Ext W w' := by
  subst hn hm hb
  exact equal_any A A2 cap cap2 xs ys W (by omega) (by omega) hl hl2

set_option maxRecDepth 100000 in
set_option maxHeartbeats 4000000 in
theorem right_any (a s : Int) (A : Option Addr) (cap : Nat) (xs : List (Int × Int)) (w : World) (hlen : xs.length ≤ 400000) (hl : SpansAt w A xs) :
    Calls Try.prog 41 #[.agg #[.int .i64 (a), .int .i64 (s)], .slice A xs.length cap] w fun e w' => e = .returned (.bool (rightB a s xs)) ∧ Ext w w' := by
  have HL0 := Lib.hid hl
  clear hl
  go_enter Try.func41, Try.ntmps41
  have k0 := boxed w #[.int .i64 a, .int .i64 s] 23 0 (.int .i64 a) rfl
  have k1 := boxed w #[.int .i64 a, .int .i64 s] 23 1 (.int .i64 s) rfl
  have hW : Ext w (w.alloc (.cells #[.int .i64 a, .int .i64 s] 23)) := (Ext.refl w).alloc _
  go_wp2_with fail
  generalize w.alloc (.cells #[.int .i64 a, .int .i64 s] 23) = W at *
  have HL := Lib.hid (HL0.out.ext hW)
  clear HL0
  go_loopw [6, 9] (fun _ i wr => ∃ k : Nat, k ≤ xs.length ∧ i = .int .i64 k ∧ Ext W wr ∧ Hid (∀ i, i < k → withinB (xs.getD i (0, 0)).1 (xs.getD i (0, 0)).2 a s = true)) (fun _ i _ => xs.length - (intOf i).toNat)
  case atStart => exact ⟨0, by omega, rfl, Ext.refl _, Lib.hid (by omega)⟩
  case round =>
    obtain ⟨k, hk, rfl, hxr, hq⟩ := hrel
    by_cases hlt : k < xs.length
    rotate_left
    · have HR := Lib.hid (right_all (a := a) (s := s) (xs := xs) (fun i hi => hq.out i (by omega)))
      have hjl := joinL_length xs
      clear hq
      go_wp2_with fail
      refine (join_c A cap xs _ _ _ _ rfl rfl rfl (by omega) (HL.out.ext hxr)).mono ?_
      rintro e W8 ⟨A8, cap8, rfl, hj8, hx8⟩
      have HJ := Lib.hid hj8
      replace hxr := hxr.trans hx8
      clear hj8 hx8
      go_wp2_with fail
      refine (equal_is A8 A cap8 cap (joinL xs) xs _ _ _ W8 rfl rfl rfl (by omega) (by omega) HJ.out (HL.out.ext hxr)).mono ?_
      rintro e W9 ⟨rfl, hx9⟩
      replace hxr := hxr.trans hx9
      go_wp2_with fail
      go_ret
      exact ⟨ret_bool (by rw [HR.out]), hW.trans hxr⟩
    obtain ⟨lb, off, rfl, hc⟩ := HL.out.get (by omega)
    obtain ⟨e1, e2⟩ := spans_cell hc hlt
    have c1 := hxr.cell e1
    have c2 := hxr.cell e2
    have HN := Lib.hid (fun h => right_no (a := a) (s := s) hlt h)
    have HY := Lib.hid (fun (h : withinB (xs.getD k (0, 0)).1 (xs.getD k (0, 0)).2 a s = true) => (fun i (hi : i < k + 1) => by
      rcases Nat.lt_or_ge i k with h' | h'
      · exact hq.out i h'
      · obtain rfl : i = k := by omega
        exact h : ∀ i, i < k + 1 → withinB (xs.getD i (0, 0)).1 (xs.getD i (0, 0)).2 a s = true))
    clear e1 e2 hc HL hq
    generalize xs.getD k (0, 0) = x at *
    obtain ⟨x1, x2⟩ := x
    simp only at c1 c2
    have ib1 : (k : Int) < (xs.length : Int) := by omega
    have hxa := hxr.alloc (.cells #[.int .i64 x1, .int .i64 x2] 23)
    cases hb : withinB x1 x2 a s
    · go_wp2_with fail
      refine (within_is x1 x2 a s _ hb _).mono ?_
      rintro e w1 ⟨rfl, hx1⟩
      have hx2 := (hxr.alloc _).trans hx1
      go_wp2_with fail
      go_ret
      exact ⟨ret_bool (by rw [HN.out hb]), hW.trans hx2⟩
    · go_wp2_with fail
      refine (within_is x1 x2 a s _ hb _).mono ?_
      rintro e w1 ⟨rfl, hx1⟩
      have hx2 := (hxr.alloc _).trans hx1
      go_wp2_with fail
      go_roundw
      case rel => exact ⟨k + 1, by omega, by go_num, hx2, Lib.hid (HY.out hb)⟩
      case measure => simp [intOf]; omega
end Go.Proofs.Ytllcekmbcmhckaa

/- extent.Take. -/
set_option linter.unusedSimpArgs false
set_option linter.unusedVariables false
namespace Go.Proofs.Ytllcekmbcmhckaa
open Go.RowKit Go.Shelf

theorem clone_c (A : Option Addr) (cap : Nat) (xs : List (Int × Int)) (n : Nat) (V : World) (hn : xs.length = n) (hlen : n ≤ 1000000) (hl : SpansAt V A xs) :
    Calls Try.prog 59 #[.slice A n cap] V
      fun e w' => ∃ A2 cap2, e = .returned (.slice A2 n cap2) ∧ OwnS w' V.heap.size (.slice A2 n cap2) xs ∧ Ext V w' ∧ (0 < xs.length → ∃ g, A2 = some ⟨g, 0, none⟩) := by
  subst hn
  cases A with
  | none =>
    obtain rfl := row_none hl
    refine (clone_none cap V).mono ?_
    rintro e w' ⟨rfl, hx⟩
    exact ⟨none, 0, rfl, Own.nil _ _ _ _ _, hx, fun h => absurd h (by simp)⟩
  | some ad =>
    refine (clone_some ad cap xs V (by omega) hl).mono ?_
    rintro e w' ⟨g, cap2, rfl, ho, hx⟩
    exact ⟨_, _, rfl, ho, hx, fun _ => ⟨g, rfl⟩⟩
theorem Own.spans {w : World} {B : Nat} {A : Option Addr} {n cap : Nat} {xs : List (Int × Int)} (h : OwnS w B (.slice A n cap) xs) : SpansAt w A xs := by
  obtain ⟨_, _, e3, hrow3, _⟩ := h.form spanCells (by decide)
  obtain ⟨rfl, _, rfl⟩ : _ ∧ _ ∧ _ := by simpa only [Value.slice.injEq] using e3
  exact hrow3

theorem delete_c (B g cap i N : Nat) (j : Int) (xs : List (Int × Int)) (w : World) (hN : xs.length = N) (hi : i < N) (hj : j = (i + 1 : Nat)) (hB : B ≤ w.heap.size) (hO : OwnS w B (.slice (some ⟨g, 0, none⟩) N cap) xs) :
    Calls Try.prog 71 #[.slice (some ⟨g, 0, none⟩) N cap, .int .i64 i, .int .i64 j] w
      fun e w' => e = .returned (.slice (some ⟨g, 0, none⟩) (N - 1) cap) ∧ OwnS w' B (.slice (some ⟨g, 0, none⟩) (N - 1) cap) (xs.eraseIdx i) ∧ Below B w w' ∧ Only g w w' := by
  obtain ⟨k, rfl⟩ : ∃ k, N = i + k + 1 := ⟨N - (i + 1), by omega⟩
  exact delete_any B g cap i k j xs w hN hj hB hO

/-! ### Take -/
def takeP (n : Int) (x : Int × Int) : Bool := mayB x.1 x.2 && decide (n ≤ x.2)
set_option maxHeartbeats 1000000 in
theorem take1_tells (n : Int) (B : Nat) (V : World) (hc : V.cell? ⟨B, 0, none⟩ = some (.int .i64 n)) : Tells 70 #[.pointer (some ⟨B, 0, none⟩)] (takeP n) V := by
  intro W x hx
  obtain ⟨a, s⟩ := x
  have c1 := hx.cell hc
  clear hc
  show Calls Try.prog 70 #[.agg #[.int .i64 (a), .int .i64 (s)], .pointer (some ⟨B, 0, none⟩)] W _
  unfold takeP
  cases hm : mayB a s
  · go_enter Try.func70, Try.ntmps70
    go_wp2_with fail
    refine (may_is a s _ hm _).mono ?_
    rintro e w1 ⟨rfl, hx1⟩
    have hx2 := ((Ext.refl W).alloc (.cells #[.int .i64 a, .int .i64 s] 23)).trans hx1
    go_wp2_with fail
    go_ret
    exact ⟨ret_bool (by simp [hm]), hx2⟩
  · have hs : decide (s ≥ n) = decide (n ≤ s) := rfl
    go_enter Try.func70, Try.ntmps70
    go_wp2_with fail
    refine (may_is a s _ hm _).mono ?_
    rintro e w1 ⟨rfl, hx1⟩
    have hx2 := ((Ext.refl W).alloc (.cells #[.int .i64 a, .int .i64 s] 23)).trans hx1
    have k1 := boxed W #[.int .i64 a, .int .i64 s] 23 1 (.int .i64 s) rfl w1 hx1
    have k2 := hx2.cell c1
    go_wp2_with fail
    all_goals (go_ret; exact ⟨ret_bool (by simp [hm, *]), hx2⟩)
/-- What Take comes to. -/
def takeL (n : Int) (xs : List (Int × Int)) (k : Nat) : List (Int × Int) := if (gt xs k).2 = n then xs.eraseIdx k else xs.set k ((gt xs k).1 + n, (gt xs k).2 - n)
/-- The three results. -/
def TakeRes (n : Int) (xs : List (Int × Int)) (ys : List (Int × Int)) (p er : Int) : Prop :=
  (n < 1 ∧ ys = xs ∧ p = 0 ∧ er = 7) ∨ (1 ≤ n ∧ (∀ x ∈ xs, takeP n x = false) ∧ ys = xs ∧ p = 0 ∧ er = 9) ∨
  (1 ≤ n ∧ ∃ k, k < xs.length ∧ idxZ (takeP n) xs = k ∧ takeP n (gt xs k) = true ∧ ys = takeL n xs k ∧ p = (gt xs k).1 ∧ er = 0)
def TakePost (n : Int) (xs : List (Int × Int)) (V : World) (e : Ending) (w' : World) : Prop :=
  ∃ (ys : List (Int × Int)) (p er : Int) (m : Nat) (A2 : Option Addr) (cap2 : Nat), TakeRes n xs ys p er ∧ m = ys.length ∧ e = .returned (.tuple #[.slice A2 m cap2, .int .i64 p, .int .i64 er]) ∧ SpansAt w' A2 ys ∧ Ext V w'

set_option maxRecDepth 100000 in
set_option maxHeartbeats 4000000 in
theorem take_any (A : Option Addr) (cap : Nat) (xs : List (Int × Int)) (n : Int) (V : World) (hlen : xs.length ≤ 1000000) (hl : SpansAt V A xs) :
    Calls Try.prog 45 #[.slice A xs.length cap, .int .i64 n] V (TakePost n xs V) := by
  have HL := Lib.hid hl
  clear hl
  have hV : Ext V (V.alloc (.cells #[.int .i64 n] 3)) := (Ext.refl V).alloc _
  have k0 := boxed V #[.int .i64 n] 3 0 (.int .i64 n) rfl
  go_enter Try.func45, Try.ntmps45
  go_wp2_with fail
  refine (clone_c A cap xs _ _ rfl hlen (HL.out.ext hV)).mono ?_
  rintro e W ⟨A2, cap2, rfl, ho, hx, hg⟩
  have HO := Lib.hid (ho.mono hV.size)
  have HX := Lib.hid (hV.trans hx)
  replace k0 := fun w' (h : Ext W w') => k0 w' (hx.trans h)
  have c0 := k0 W (Ext.refl W)
  clear ho hx hV HL
  by_cases h1 : n < 1
  · go_wp2_with fail
    go_ret3
    exact ⟨xs, 0, 7, _, A2, cap2, .inl ⟨h1, rfl, rfl, rfl⟩, rfl, rfl, HO.out.spans, HX.out⟩
  have eg : ∀ args w, (callFunc 70 args).run Try.prog w = .ok (.enter 70 args) w := enters_of Try.func70 (by kernel_rfl) rfl
  go_wp2_with fail
  refine (indexFunc_any (takeP n) _ _ eg A2 cap2 xs W (take1_tells n _ W c0) (by omega) HO.out.spans).mono ?_
  rintro e w1 ⟨rfl, hx1⟩
  rcases idx_cases (takeP n) xs with ⟨hi, hno⟩ | ⟨k, hk, hi, hyes, hno⟩
  · rw [hi]
    go_wp2_with fail
    go_ret3
    exact ⟨xs, 0, 9, _, A2, cap2, .inr (.inl ⟨by omega, hno, rfl, rfl, rfl⟩), rfl, rfl, (HO.out.ext hx1).spans, HX.out.trans hx1⟩
  · have HI := Lib.hid hi
    have HY := Lib.hid hyes
    rw [hi]
    obtain ⟨g, rfl⟩ := hg (by omega)
    have HO1 := Lib.hid (HO.out.ext hx1)
    have HX1 := Lib.hid (HX.out.trans hx1)
    replace k0 := fun w' (h : Ext w1 w') => k0 w' (hx1.trans h)
    clear hg hi hyes hno HO HX c0 hx1 eg
    obtain ⟨d1, d2, d3, d4⟩ := OwnS.at HO1.out rfl hk
    have hm : mayB (gt xs k).1 (gt xs k).2 = true ∧ n ≤ (gt xs k).2 := by have := HY.out; simpa [takeP] using this
    obtain ⟨hm, hns⟩ := hm
    obtain ⟨q1, q2, q3, q4⟩ := may_bd hm
    clear hm
    obtain ⟨⟨a, s⟩, hgt⟩ : ∃ x, gt xs k = x := ⟨_, rfl⟩
    have HG := Lib.hid hgt
    rw [hgt] at d1 d2 hns q1 q2 q3 q4
    simp only at d1 d2 hns q1 q2 q3 q4
    clear hgt d3 d4
    have ib1 : (k : Int) < (xs.length : Int) := by omega
    have ib3 : (0 : Int) ≤ (k : Int) := by omega
    have hs0 : Ext w1 w1 := Ext.refl w1
    have l0 := fun u : ExtOf w1 => k0 u.1 u.2
    have l1 := fun u : ExtOf w1 => u.2.cell d1
    have l2 := fun u : ExtOf w1 => u.2.cell d2
    go_wp2_with fail
    (refine wp_region_ord (W := w1) [(0, true), (1, true), (2, true), (3, true), (4, true), (5, true), (6, true), (7, true), (8, true), (9, true), (10, true), (11, true), (12, true), (13, true)] [] [14] (by kernel_rfl) (by kernel_rfl) (by intro c a d v w h; cases d <;> exact h) (by with_reducible assumption) ?_; simp only [opsOf, List.map_cons, List.map_nil, List.getD_cons_zero, List.getD_cons_succ]; (repeat (go_big_quiet_step (fail))); refine wpQuiet_nil ?_; intro w1 hx; refine mid_nil ?_)
    clear d1 d2 l0 l1 l2
    have HO2 := Lib.hid (HO1.out.ext hx)
    have HX2 := Lib.hid (HX1.out.trans hx)
    obtain ⟨d1, d2, d3, d4⟩ := OwnS.at HO2.out rfl hk
    rw [HG.out] at d1 d2
    simp only at d1 d2
    obtain ⟨p1, p2, p3, p4⟩ := Own.cap HO2.out
    have HO3 := Lib.hid (OwnS.store HO2.out rfl k (a + n) (s - n))
    have HX3 : Hid (Ext V ((w1.setCell ⟨g, k * 2, none⟩ (.int .i64 (a + n))).setCell ⟨g, k * 2 + 1, none⟩ (.int .i64 (s - n)))) := Lib.hid ((HX2.out.setCell p3 _).setCell p3 _)
    clear HO1 HX1 HO2 HX2 hx hs0 k0
    by_cases hsn : s = n
    · have hd : (s - n == 0) = true := by simp; omega
      have hz : s - n = 0 := by omega
      rw [hz] at HO3 HX3
      clear hz
      have hT : takeL n xs k = (xs.set k (a + n, 0)).eraseIdx k := by unfold takeL; rw [HG.out]; simp only [hsn, if_true]; rw [List.eraseIdx_set_eq]
      have HT := Lib.hid hT
      have HSZ : Hid (V.heap.size ≤ ((w1.setCell ⟨g, k * 2, none⟩ (.int .i64 (a + n))).setCell ⟨g, k * 2 + 1, none⟩ (.int .i64 (0))).heap.size) := Lib.hid HX3.out.size
      clear hT
      go_wp2_with fail
      generalize (w1.setCell ⟨g, k * 2, none⟩ (.int .i64 (a + n))).setCell ⟨g, k * 2 + 1, none⟩ (.int .i64 (0)) = W5 at *
      refine (delete_c V.heap.size g cap2 k xs.length ((k : Int) + 1) (xs.set k (a + n, 0)) W5 (by rw [List.length_set]) hk (by simp) HSZ.out HO3.out).mono ?_
      rintro e W6 ⟨rfl, hd1, hd2, _⟩
      have HD1 := Lib.hid hd1
      have HD2 := Lib.hid hd2
      clear hd1 hd2
      go_wp2_with fail
      go_ret3
      exact ⟨takeL n xs k, a, 0, xs.length - 1, _, cap2, .inr (.inr ⟨by omega, k, hk, HI.out, HY.out, rfl, by rw [HG.out], rfl⟩), by rw [HT.out, List.length_eraseIdx, List.length_set, if_pos hk], rfl, by rw [HT.out]; exact HD1.out.spans, Below.trans HX3.out HD2.out⟩
    · have hd : (s - n == 0) = false := by simp; omega
      have hT : takeL n xs k = xs.set k (a + n, s - n) := by unfold takeL; rw [HG.out]; simp only [hsn, if_false]
      have HT := Lib.hid hT
      clear hT
      go_wp2_with fail
      go_ret3
      exact ⟨takeL n xs k, a, 0, xs.length, _, cap2, .inr (.inr ⟨by omega, k, hk, HI.out, HY.out, rfl, by rw [HG.out], rfl⟩), by rw [HT.out, List.length_set], rfl, by rw [HT.out]; exact HO3.out.spans, HX3.out⟩
end Go.Proofs.Ytllcekmbcmhckaa

/- extent.Give. -/
set_option linter.unusedSimpArgs false
set_option linter.unusedVariables false
namespace Go.Proofs.Ytllcekmbcmhckaa
open Go.RowKit Go.Shelf

def giveP (a s : Int) (x : Int × Int) : Bool := meetsB x.1 x.2 a s
set_option maxHeartbeats 1000000 in
theorem give1_tells (a s : Int) (B : Nat) (V : World) (hc : V.cell? ⟨B, 0, none⟩ = some (.int .i64 a)) (hd : V.cell? ⟨B, 1, none⟩ = some (.int .i64 s)) : Tells 73 #[.pointer (some ⟨B, 0, none⟩)] (giveP a s) V := by
  intro W x hx
  obtain ⟨c, d⟩ := x
  have c1 := hx.cell hc
  have c2 := hx.cell hd
  clear hc hd
  have k1 := boxed W #[.int .i64 c, .int .i64 d] 23 0 (.int .i64 c) rfl
  have k2 := boxed W #[.int .i64 c, .int .i64 d] 23 1 (.int .i64 d) rfl
  have hW : Ext W (W.alloc (.cells #[.int .i64 c, .int .i64 d] 23)) := (Ext.refl W).alloc _
  have c3 := hW.cell c1
  have c4 := hW.cell c2
  show Calls Try.prog 73 #[.agg #[.int .i64 (c), .int .i64 (d)], .pointer (some ⟨B, 0, none⟩)] W _
  unfold giveP
  go_enter Try.func73, Try.ntmps73
  go_wp2_with fail
  refine (meets_any c d a s _).mono ?_
  rintro e w1 ⟨rfl, hx1⟩
  have hx2 := hW.trans hx1
  go_wp2_with fail
  go_ret
  exact ⟨rfl, hx2⟩

/-- The two results. -/
def GiveRes (a s : Int) (xs : List (Int × Int)) (ys : List (Int × Int)) (er : Int) : Prop :=
  (mayB a s = false ∧ ys = xs ∧ er = 1) ∨ (mayB a s = true ∧ xs.any (giveP a s) = true ∧ ys = xs ∧ er = 16) ∨ (mayB a s = true ∧ xs.any (giveP a s) = false ∧ ys = joinL (xs ++ [(a, s)]) ∧ er = 0)
def GivePost (a s : Int) (xs : List (Int × Int)) (V : World) (e : Ending) (w' : World) : Prop :=
  ∃ (ys : List (Int × Int)) (er : Int) (m : Nat) (A2 : Option Addr) (cap2 : Nat), GiveRes a s xs ys er ∧ m = ys.length ∧ e = .returned (.tuple #[.slice A2 m cap2, .int .i64 er]) ∧ SpansAt w' A2 ys ∧ Ext V w'

set_option maxRecDepth 100000 in
set_option maxHeartbeats 4000000 in
theorem give_any (A : Option Addr) (cap : Nat) (xs : List (Int × Int)) (a s : Int) (V : World) (hlen : xs.length ≤ 400000) (hl : SpansAt V A xs) :
    Calls Try.prog 46 #[.slice A xs.length cap, .agg #[.int .i64 (a), .int .i64 (s)]] V (GivePost a s xs V) := by
  have hV : Ext V (V.alloc (.cells #[.int .i64 a, .int .i64 s] 23)) := (Ext.refl V).alloc _
  have k0 := boxed V #[.int .i64 a, .int .i64 s] 23 0 (.int .i64 a) rfl
  have k1 := boxed V #[.int .i64 a, .int .i64 s] 23 1 (.int .i64 s) rfl
  have HL := Lib.hid (hl.ext hV)
  clear hl
  obtain ⟨b, hm⟩ : ∃ b, mayB a s = b := ⟨_, rfl⟩
  have HM := Lib.hid hm
  clear hm
  go_enter Try.func46, Try.ntmps46
  go_wp2_with fail
  generalize V.alloc (.cells #[.int .i64 a, .int .i64 s] 23) = V1 at *
  refine (may_is a s b HM.out _).mono ?_
  rintro e W ⟨rfl, hx⟩
  replace k0 := fun w' (h : Ext W w') => k0 w' (hx.trans h)
  replace k1 := fun w' (h : Ext W w') => k1 w' (hx.trans h)
  have HX := Lib.hid (hV.trans hx)
  have HL1 := Lib.hid (HL.out.ext hx)
  have c0 := k0 W (Ext.refl W)
  have c1 := k1 W (Ext.refl W)
  clear hx hV HL
  cases b
  · go_wp2_with fail
    refine (clone_c A cap xs _ _ rfl (by omega) HL1.out).mono ?_
    rintro e w1 ⟨A2, cap2, rfl, ho, hx, hg⟩
    have HO := Lib.hid ho
    have HX1 := Lib.hid (HX.out.trans hx)
    clear ho hx hg
    go_wp2_with fail
    go_ret2
    exact ⟨xs, 1, _, A2, cap2, .inl ⟨HM.out, rfl, rfl⟩, rfl, rfl, HO.out.spans, HX1.out⟩
  · have eg : ∀ args w, (callFunc 73 args).run Try.prog w = .ok (.enter 73 args) w := enters_of Try.func73 (by kernel_rfl) rfl
    go_wp2_with fail
    refine (containsFunc_any (giveP a s) _ _ eg A cap xs W (give1_tells a s _ W c0 c1) (by omega) HL1.out).mono ?_
    rintro e W1 ⟨rfl, hx1⟩
    obtain ⟨b, hb⟩ : ∃ b, xs.any (giveP a s) = b := ⟨_, rfl⟩
    have HB := Lib.hid hb
    rw [hb]
    replace k0 := fun w' (h : Ext W1 w') => k0 w' (hx1.trans h)
    replace k1 := fun w' (h : Ext W1 w') => k1 w' (hx1.trans h)
    have HX1 := Lib.hid (HX.out.trans hx1)
    have HL2 := Lib.hid (HL1.out.ext hx1)
    clear hb eg HX HL1 c0 c1 hx1
    cases b
    · go_wp2_with fail
      have hs0 : Ext W1 W1 := Ext.refl _
      have l0 := fun u : ExtOf W1 => k0 u.1 u.2
      have l1 := fun u : ExtOf W1 => k1 u.1 u.2
      (refine wp_region_fork (W := W1) [(0, true), (2, true)] 1 [(1, [3]), (3, [1])] [4, 5, 6, 7] (by kernel_rfl) (by kernel_rfl) (by intro c a d v w h; cases d <;> exact h) (by with_reducible assumption) ?_; simp only [opsOf, List.map_cons, List.map_nil, List.getD_cons_zero, List.getD_cons_succ]; (repeat (go_big_quiet_step (fail))); refine wpQuiet_nil ?_; refine all_two ?_ ?_ <;> (simp only [opsOf, List.map_cons, List.map_nil, List.getD_cons_zero, List.getD_cons_succ]; intro w1 hx))
      · (refine mid_step (by rfl) ?_; intro K hK; go_simp)
        refine (clone_c A cap xs _ w1 rfl (by omega) (HL2.out.ext hx)).mono ?_
        rintro e W3 ⟨A3, cap3, rfl, ho, hx3, hg⟩
        have hx4 : Ext W3 (W3.alloc (.cells #[.int .i64 a, .int .i64 s] 23)) := (Ext.refl _).alloc _
        have HO2 := Lib.hid ((ho.mono (show V.heap.size ≤ _ from (HX1.out.trans hx).size)).ext hx4)
        have HR : Hid (SpansAt (W3.alloc (.cells #[.int .i64 a, .int .i64 s] 23)) (some ⟨W3.heap.size, 0, none⟩) [(a, s)]) := Lib.hid (row_lit W3 _ rfl spanCells (by decide))
        have HX4 := Lib.hid (HX1.out.trans ((hx.trans hx3).trans hx4))
        refine hK _ _ (hx.trans hx3) ?_
        clear hK K
        (refine mid_step (by rfl) ?_; intro K hK; go_simp)
        refine hK _ _ ((hx.trans hx3).trans hx4) ?_
        clear ho hx3 hx4 hx hg
        generalize W3.alloc (.cells #[.int .i64 a, .int .i64 s] 23) = W4 at *
        generalize W3.heap.size = H at *
        clear hK K HL2 HX1 k0 k1 l0 l1 hs0
        refine mid_nil ?_
        go_wp2_with (at_builtin; refine wpList_app rfl (.tmp 17) (.tmp 19) 29 rfl spanInfo spanCells rfl (by exact HO2.out) [(a, s)] ⟨H, 0, none⟩ 1 (xs.length + 1) 1 (by simp) rfl rfl (by exact HR.out) (by omega) (by simp [maxLen]; omega) (by exact HX4.out.size) ?_; intro A4 cap4 W5 hown4 hgr4 hat4; have HO4 := Lib.hid hown4; have HX5 : Hid (Ext V W5) := Lib.hid (HO2.out.below HX4.out hgr4 HX4.out.size); clear hown4 hgr4 hat4)
        have hjl := joinL_length (xs ++ [(a, s)])
        refine (join_c A4 cap4 (xs ++ [(a, s)]) _ (xs.length + 1) _ W5 (by simp) rfl rfl (by omega) HO4.out.spans).mono ?_
        rintro e W6 ⟨A5, cap5, rfl, hj5, hx5⟩
        have HJ := Lib.hid hj5
        have HX6 : Hid (Ext V W6) := Lib.hid (Ext.trans HX5.out hx5)
        clear hj5 hx5 hjl
        go_wp2_with fail
        go_ret2
        exact ⟨joinL (xs ++ [(a, s)]), 0, _, A5, cap5, .inr (.inr ⟨HM.out, HB.out, rfl, rfl⟩), rfl, rfl, HJ.out, HX6.out⟩
      · (refine mid_step (by rfl) ?_; intro K hK; go_simp)
        have hx4 : Ext w1 (w1.alloc (.cells #[.int .i64 a, .int .i64 s] 23)) := (Ext.refl _).alloc _
        have HR0 : Hid (SpansAt (w1.alloc (.cells #[.int .i64 a, .int .i64 s] 23)) (some ⟨w1.heap.size, 0, none⟩) [(a, s)]) := Lib.hid (row_lit w1 _ rfl spanCells (by decide))
        replace hx4 := hx.trans hx4
        refine hK _ _ hx4 ?_
        clear hK K
        (refine mid_step (by rfl) ?_; intro K hK; go_simp)
        refine (clone_c A cap xs _ _ rfl (by omega) (HL2.out.ext hx4)).mono ?_
        rintro e W4 ⟨A3, cap3, rfl, ho, hx3, hg⟩
        have HO2 := Lib.hid (ho.mono (show V.heap.size ≤ _ from (HX1.out.trans hx4).size))
        have HR := Lib.hid (HR0.out.ext hx3)
        have HX4 := Lib.hid (HX1.out.trans (hx4.trans hx3))
        refine hK _ _ (hx4.trans hx3) ?_
        clear ho hx3 hx4 hx hg HR0
        generalize w1.heap.size = H at *
        clear hK K HL2 HX1 k0 k1 l0 l1 hs0
        refine mid_nil ?_
        go_wp2_with (at_builtin; refine wpList_app rfl (.tmp 17) (.tmp 19) 29 rfl spanInfo spanCells rfl (by exact HO2.out) [(a, s)] ⟨H, 0, none⟩ 1 (xs.length + 1) 1 (by simp) rfl rfl (by exact HR.out) (by omega) (by simp [maxLen]; omega) (by exact HX4.out.size) ?_; intro A4 cap4 W5 hown4 hgr4 hat4; have HO4 := Lib.hid hown4; have HX5 : Hid (Ext V W5) := Lib.hid (HO2.out.below HX4.out hgr4 HX4.out.size); clear hown4 hgr4 hat4)
        have hjl := joinL_length (xs ++ [(a, s)])
        refine (join_c A4 cap4 (xs ++ [(a, s)]) _ (xs.length + 1) _ W5 (by simp) rfl rfl (by omega) HO4.out.spans).mono ?_
        rintro e W6 ⟨A5, cap5, rfl, hj5, hx5⟩
        have HJ := Lib.hid hj5
        have HX6 : Hid (Ext V W6) := Lib.hid (Ext.trans HX5.out hx5)
        clear hj5 hx5 hjl
        go_wp2_with fail
        go_ret2
        exact ⟨joinL (xs ++ [(a, s)]), 0, _, A5, cap5, .inr (.inr ⟨HM.out, HB.out, rfl, rfl⟩), rfl, rfl, HJ.out, HX6.out⟩
    · go_wp2_with fail
      refine (clone_c A cap xs _ _ rfl (by omega) HL2.out).mono ?_
      rintro e w2 ⟨A2, cap2, rfl, ho, hx, hg⟩
      have HO := Lib.hid ho
      have HX2 := Lib.hid (HX1.out.trans hx)
      clear ho hx hg
      go_wp2_with fail
      go_ret2
      exact ⟨xs, 16, _, A2, cap2, .inr (.inl ⟨HM.out, HB.out, rfl, rfl⟩), rfl, rfl, HO.out.spans, HX2.out⟩
end Go.Proofs.Ytllcekmbcmhckaa

/- ledger.Find, Of, Drop. -/
set_option linter.unusedSimpArgs false
set_option linter.unusedVariables false
namespace Go.Proofs.Ytllcekmbcmhckaa
open Go.RowKit Go.Shelf

def findP (q : Int) (x : Int × Int) : Bool := x.1 == q
def ofP (q : Int) (x : Int × Int) : Bool := hasB x.1 x.2 q
def addP (q : Int) (x : Int × Int) : Bool := decide (q < x.1)
set_option maxHeartbeats 1000000 in
theorem find1_tells (q : Int) (B : Nat) (V : World) (hc : V.cell? ⟨B, 0, none⟩ = some (.int .i64 q)) : Tells 77 #[.pointer (some ⟨B, 0, none⟩)] (findP q) V := by
  intro W x hx
  obtain ⟨c, d⟩ := x
  have c1 := hx.cell hc
  clear hc
  have hW : Ext W (W.alloc (.cells #[.int .i64 c, .int .i64 d] 23)) := (Ext.refl W).alloc _
  have c3 := hW.cell c1
  show Calls Try.prog 77 #[.agg #[.int .i64 (c), .int .i64 (d)], .pointer (some ⟨B, 0, none⟩)] W _
  unfold findP
  go_enter Try.func77, Try.ntmps77
  go_wp2_with fail
  go_ret
  exact ⟨rfl, hW⟩
set_option maxHeartbeats 1000000 in
theorem add1_tells (a s : Int) (B : Nat) (V : World) (hc : V.cell? ⟨B, 0, none⟩ = some (.int .i64 a)) (hd : V.cell? ⟨B, 1, none⟩ = some (.int .i64 s)) : Tells 74 #[.pointer (some ⟨B, 0, none⟩)] (giveP a s) V := by
  intro W x hx
  obtain ⟨c, d⟩ := x
  have c1 := hx.cell hc
  have c2 := hx.cell hd
  clear hc hd
  have k1 := boxed W #[.int .i64 c, .int .i64 d] 23 0 (.int .i64 c) rfl
  have k2 := boxed W #[.int .i64 c, .int .i64 d] 23 1 (.int .i64 d) rfl
  have hW : Ext W (W.alloc (.cells #[.int .i64 c, .int .i64 d] 23)) := (Ext.refl W).alloc _
  have c3 := hW.cell c1
  have c4 := hW.cell c2
  show Calls Try.prog 74 #[.agg #[.int .i64 (c), .int .i64 (d)], .pointer (some ⟨B, 0, none⟩)] W _
  unfold giveP
  go_enter Try.func74, Try.ntmps74
  go_wp2_with fail
  refine (meets_any c d a s _).mono ?_
  rintro e w1 ⟨rfl, hx1⟩
  have hx2 := hW.trans hx1
  go_wp2_with fail
  go_ret
  exact ⟨rfl, hx2⟩
set_option maxHeartbeats 1000000 in
theorem add2_tells (q : Int) (B : Nat) (V : World) (hc : V.cell? ⟨B, 0, none⟩ = some (.int .i64 q)) : Tells 75 #[.pointer (some ⟨B, 0, none⟩)] (addP q) V := by
  intro W x hx
  obtain ⟨c, d⟩ := x
  have c1 := hx.cell hc
  clear hc
  have hW : Ext W (W.alloc (.cells #[.int .i64 c, .int .i64 d] 23)) := (Ext.refl W).alloc _
  have c3 := hW.cell c1
  show Calls Try.prog 75 #[.agg #[.int .i64 (c), .int .i64 (d)], .pointer (some ⟨B, 0, none⟩)] W _
  unfold addP
  go_enter Try.func75, Try.ntmps75
  go_wp2_with fail
  go_ret
  exact ⟨rfl, hW⟩
set_option maxHeartbeats 1000000 in
theorem of1_tells (q : Int) (B : Nat) (V : World) (hc : V.cell? ⟨B, 0, none⟩ = some (.int .i64 q)) : Tells 78 #[.pointer (some ⟨B, 0, none⟩)] (ofP q) V := by
  intro W x hx
  obtain ⟨c, d⟩ := x
  have c1 := hx.cell hc
  clear hc
  have hW : Ext W (W.alloc (.cells #[.int .i64 c, .int .i64 d] 23)) := (Ext.refl W).alloc _
  have c3 := hW.cell c1
  show Calls Try.prog 78 #[.agg #[.int .i64 (c), .int .i64 (d)], .pointer (some ⟨B, 0, none⟩)] W _
  unfold ofP
  go_enter Try.func78, Try.ntmps78
  go_wp2_with fail
  refine (has_any c d q _).mono ?_
  rintro e w1 ⟨rfl, hx1⟩
  have hx2 := hW.trans hx1
  go_wp2_with fail
  go_ret
  exact ⟨rfl, hx2⟩

set_option maxRecDepth 100000 in
set_option maxHeartbeats 1000000 in
theorem find_c (A : Option Addr) (cap : Nat) (xs : List (Int × Int)) (q z : Int) (n : Nat) (V : World) (hn : xs.length = n) (hz : idxZ (findP q) xs = z) (hlen : n ≤ 1000000) (hl : SpansAt V A xs) :
    Calls Try.prog 52 #[.slice A n cap, .int .i64 q] V fun e w' => e = .returned (.int .i64 z) ∧ Ext V w' := by
  subst hn hz
  have hV : Ext V (V.alloc (.cells #[.int .i64 q] 3)) := (Ext.refl V).alloc _
  have k0 := boxed V #[.int .i64 q] 3 0 (.int .i64 q) rfl _ (Ext.refl _)
  have HL := Lib.hid (hl.ext hV)
  clear hl
  have eg : ∀ args w, (callFunc 77 args).run Try.prog w = .ok (.enter 77 args) w := enters_of Try.func77 (by kernel_rfl) rfl
  go_enter Try.func52, Try.ntmps52
  go_wp2_with fail
  refine (indexFunc_any (findP q) _ _ eg A cap xs _ (find1_tells q _ _ k0) (by omega) HL.out).mono ?_
  rintro e w1 ⟨rfl, hx⟩
  go_wp2_with fail
  go_ret
  exact ⟨rfl, hV.trans hx⟩
set_option maxRecDepth 100000 in
set_option maxHeartbeats 1000000 in
theorem of_c (A : Option Addr) (cap : Nat) (xs : List (Int × Int)) (q z : Int) (n : Nat) (V : World) (hn : xs.length = n) (hz : idxZ (ofP q) xs = z) (hlen : n ≤ 1000000) (hl : SpansAt V A xs) :
    Calls Try.prog 54 #[.slice A n cap, .int .i64 q] V fun e w' => e = .returned (.int .i64 z) ∧ Ext V w' := by
  subst hn hz
  have hV : Ext V (V.alloc (.cells #[.int .i64 q] 3)) := (Ext.refl V).alloc _
  have k0 := boxed V #[.int .i64 q] 3 0 (.int .i64 q) rfl _ (Ext.refl _)
  have HL := Lib.hid (hl.ext hV)
  clear hl
  have eg : ∀ args w, (callFunc 78 args).run Try.prog w = .ok (.enter 78 args) w := enters_of Try.func78 (by kernel_rfl) rfl
  go_enter Try.func54, Try.ntmps54
  go_wp2_with fail
  refine (indexFunc_any (ofP q) _ _ eg A cap xs _ (of1_tells q _ _ k0) (by omega) HL.out).mono ?_
  rintro e w1 ⟨rfl, hx⟩
  go_wp2_with fail
  go_ret
  exact ⟨rfl, hV.trans hx⟩
end Go.Proofs.Ytllcekmbcmhckaa

