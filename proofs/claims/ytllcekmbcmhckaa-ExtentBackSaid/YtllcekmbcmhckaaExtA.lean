/- slices.Delete and slices.IndexFunc, ContainsFunc, Equal at spans. -/
import Derived.Test.YtllcekmbcmhckaaLaw03A
import Derived.Test.YtllcekmbcmhckaaOrd
import Derived.Lib.SliceRun
set_option linter.unusedSimpArgs false
set_option linter.unusedVariables false
namespace Go.Proofs.Ytllcekmbcmhckaa
open Go.RowKit Go.Shelf

/-! ### Stores of several elements, and cuts. -/
theorem Below.setCells {B : Nat} {a w : World} (h : Below B a w) {g : Nat} (hg : B ≤ g) : ∀ (vs : List Value) (o : Nat), Below B a (w.setCells g o vs) := by
  intro vs
  induction vs generalizing w with
  | nil => intro o; exact h
  | cons v vs ih => intro o; exact ih (h.setCell (p := ⟨g, o, none⟩) hg v) (o + 1)
theorem size_setCells (g : Nat) : ∀ (vs : List Value) (o : Nat) (w : World), (w.setCells g o vs).heap.size = w.heap.size := by
  intro vs
  induction vs with
  | nil => intro o w; rfl
  | cons v vs ih => intro o w; show (World.setCells (w.setCell _ _) g (o + 1) vs).heap.size = _; rw [ih]; simp
/-- Elements laid over others. -/
def layL (xs : List (Int × Int)) (i : Nat) : List (Int × Int) → List (Int × Int)
  | [] => xs
  | y :: ys => layL (xs.set i y) (i + 1) ys
theorem layL_length : ∀ (ys xs : List (Int × Int)) (i : Nat), (layL xs i ys).length = xs.length := by
  intro ys
  induction ys with
  | nil => intro xs i; rfl
  | cons y ys ih => intro xs i; rw [layL, ih, List.length_set]
theorem layL_eq : ∀ (ys xs : List (Int × Int)) (i : Nat), i + ys.length ≤ xs.length → layL xs i ys = xs.take i ++ ys ++ xs.drop (i + ys.length) := by
  intro ys
  induction ys with
  | nil => intro xs i h; simp [layL]
  | cons y ys ih =>
    intro xs i h
    simp only [List.length_cons] at h
    rw [layL, ih _ _ (by rw [List.length_set]; omega)]
    have h1 : (xs.set i y).take (i + 1) = xs.take i ++ [y] := by
      rw [List.take_succ_eq_append_getElem (by rw [List.length_set]; omega), List.take_set_of_le (Nat.le_refl _)]
      simp
    rw [h1, List.drop_set_of_lt (by omega)]
    simp only [List.append_assoc, List.cons_append, List.nil_append, List.length_cons]
    rw [show i + 1 + ys.length = i + (ys.length + 1) from by omega]
theorem OwnS.lay {B g N cap : Nat} : ∀ (ys : List (Int × Int)) {w : World} {xs : List (Int × Int)} (i : Nat), OwnS w B (.slice (some ⟨g, 0, none⟩) N cap) xs → xs.length = N →
    OwnS (w.setCells g (i * 2) (ys.flatMap spanC)) B (.slice (some ⟨g, 0, none⟩) N cap) (layL xs i ys) := by
  intro ys
  induction ys with
  | nil => intro w xs i h hN; exact h
  | cons y ys ih =>
    intro w xs i h hN
    obtain ⟨a, b⟩ := y
    have h1 := OwnS.store h hN i a b
    have h2 := ih (i + 1) h1 (by rw [List.length_set]; exact hN)
    rw [show (i + 1) * 2 = i * 2 + 1 + 1 from by omega] at h2
    exact h2
theorem Own.cap {α : Type} {e n : Nat} {f : α → List Value} {w : World} {B : Nat} {xs : List α} {g N cap : Nat} (h : Own e n f w B (.slice (some ⟨g, 0, none⟩) N cap) xs) : N ≤ cap ∧ cap ≤ maxLen ∧ B ≤ g ∧ g < w.heap.size := by
  rcases h.2 with ⟨h', _⟩ | ⟨g', cap', cur, h', hb, hg, hnc, hcm, _⟩
  · simp at h'
  · simp only [Value.slice.injEq, Option.some.injEq, Addr.mk.injEq, and_true, true_and] at h'
    obtain ⟨rfl, _, rfl⟩ := h'
    exact ⟨by omega, hcm, hb, (Array.getElem?_eq_some_iff.1 hg).1⟩
theorem OwnS.cut {w : World} {B g N cap : Nat} {xs : List (Int × Int)} (h : OwnS w B (.slice (some ⟨g, 0, none⟩) N cap) xs) (hN : xs.length = N) (m : Nat) (hm : m ≤ N) :
    OwnS w B (.slice (some ⟨g, 0, none⟩) m cap) (xs.take m) := by
  subst hN
  rcases h.2 with ⟨h', _⟩ | ⟨g', cap', cur, h', hb, hg, hnc, hcm, hcs, htk⟩
  · simp at h'
  · simp only [Value.slice.injEq, Option.some.injEq, Addr.mk.injEq, and_true, true_and] at h'
    obtain ⟨rfl, rfl⟩ := h'
    have hml : (xs.take m).length = m := by rw [List.length_take]; omega
    refine ⟨flat_len spanCells _, .inr ⟨g, cap, cur, by rw [hml], hb, hg, by rw [hml]; omega, hcm, hcs, ?_⟩⟩
    rw [hml]
    have h2 : (xs.take m).flatMap spanC = (xs.flatMap spanC).take (m * 2) := by
      have e : xs.flatMap spanC = (xs.take m).flatMap spanC ++ (xs.drop m).flatMap spanC := by rw [← List.flatMap_append, List.take_append_drop]
      rw [e, List.take_append_of_le_length (by rw [flat_len spanCells, hml]; exact Nat.le_refl _)]
      exact (List.take_of_length_le (by rw [flat_len spanCells, hml]; exact Nat.le_refl _)).symm
    rw [h2, ← htk, List.take_take]
    congr 1
    omega

/-- append in place: there is room. -/
theorem wpList_app_room {P : Program} {ops : Array Oper} {rest : List Oper} {o : Oper} {a : Act} {w : World} {Q : Exit → Act → World → Prop} {t e n bytes : Nat} (hgd : o.guard = none) (s x : Operand)
    (ho : o.op = .call { callee := .builtin .append, args := #[s, x], argTypes := #[t, t] }) (hI : Info P t e n bytes) (g N cap k c : Nat) (ad : Addr)
    (hs : a.eval s = .slice (some ⟨g, 0, none⟩) N cap) (hx : a.eval x = .slice (some ad) k c) (news : List Value) (hl : news.length = k * n) (hc : ∀ j u, news[j]? = some u → w.cell? (ad.add j) = some u) (h1 : ∀ u ∈ news, u.oneCell' = true)
    (hroom : N + k ≤ cap) (hsp : ∀ j, j < news.length → (w.cell? ⟨g, N * n + j, none⟩).isSome = true ∧ w.frozen? ⟨g, N * n + j, none⟩ = false)
    (h : wpList P ops Q rest (a.put o.dst (.slice (some ⟨g, 0, none⟩) (N + k) cap)) (w.setCells g (N * n) news)) : wpList P ops Q (o :: rest) a w :=
  wpList_plain hgd fun K hK => by
    obtain ⟨i, z, hi, _, hz, _, _⟩ := hI.inf
    subst hz
    have hrun := run_append_room_cells (P := P) (w := w) t o.type e i hI.und hi g 0 N cap ad k c news hl hc h1 hroom (fun j hj => by simpa using (hsp j hj).1) (fun j hj => by simpa using (hsp j hj).2)
    simp only [Nat.zero_add] at hrun
    unfold Oper.wp execOp
    simp only [ho, resolve, invoke, builtin, Sem.run_bind, Sem.run_pure, Result.andThen_ok, List.map_toArray, List.map_cons, List.map_nil, hs, hx, hrun]
    exact hK _ _ h

theorem run_clear_span (w : World) (ty : TypeId) (b o c : Nat) (hc : ∀ j, j < 2 → (w.cell? ⟨b, o + j, none⟩).isSome = true) (hf : ∀ j, j < 2 → w.frozen? ⟨b, o + j, none⟩ = false) :
    (Builtin.clear_ #[29] ty #[.slice (some ⟨b, o, none⟩) 1 c]).run Try.prog w = .ok (.tuple #[]) (w.setCells b o [.int .i64 0, .int .i64 0]) := by
  have hv : ∀ w, (zeroValue 23).run Try.prog w = .ok (.agg #[.int .i64 0, .int .i64 0]) w := fun w => by kernel_rfl
  have hzc : (Builtin.zeroCells (Value.agg #[.int .i64 0, .int .i64 0]).cells 1).toList = [.int .i64 0, .int .i64 0] := by kernel_rfl
  have hst := run_storeCells_cells (P := Try.prog) b o [.int .i64 0, .int .i64 0] 0 w (by simpa using hc) (by simpa using hf) (by simp; rfl)
  simp only [Nat.add_zero] at hst
  simp [Builtin.clear_, run_underlying Try.underlying29, hv, hzc, hst]

theorem Ext.below_of {a w : World} (h : Ext a w) {B : Nat} (hB : B ≤ a.heap.size) : Below B a w := Below.mono h hB
theorem OwnS.some_at {w : World} {B g N cap : Nat} {xs : List (Int × Int)} (h : OwnS w B (.slice (some ⟨g, 0, none⟩) N cap) xs) (hN : xs.length = N) {j : Nat} (hj : j < N * 2) : (w.cell? ⟨g, j, none⟩).isSome = true ∧ w.frozen? ⟨g, j, none⟩ = false := by
  unfold OwnS Own at h
  rw [hN] at h
  refine ⟨?_, World.ownsRow.frozenAt h _⟩
  rw [World.ownsRow.cellAt h _ hj]
  have : j < (xs.flatMap spanC).length := by rw [flat_len spanCells, hN]; exact hj
  simp [List.getElem?_eq_getElem this]
theorem OwnS.row {w : World} {B g N cap : Nat} {xs : List (Int × Int)} (h : OwnS w B (.slice (some ⟨g, 0, none⟩) N cap) xs) : SpansAt w (some ⟨g, 0, none⟩) xs := by
  obtain ⟨_, _, e3, hrow3, _⟩ := h.form spanCells (by decide)
  obtain ⟨rfl, _, rfl⟩ : _ ∧ _ ∧ _ := by simpa only [Value.slice.injEq] using e3
  exact hrow3
theorem del_list {xs : List (Int × Int)} {i k : Nat} (h : xs.length = i + k + 1) : (layL (layL xs i (xs.drop (i + 1))) (i + k) [(0, 0)]).take (i + k) = xs.eraseIdx i := by
  have h1 : (xs.drop (i + 1)).length = k := by rw [List.length_drop]; omega
  rw [layL_eq _ _ _ (by rw [layL_length, h]; simp), layL_eq (xs.drop (i + 1)) _ _ (by rw [h1]; omega), h1, List.eraseIdx_eq_take_drop_succ]
  have h2 : (xs.take i ++ xs.drop (i + 1)).length = i + k := by rw [List.length_append, h1, List.length_take]; omega
  rw [List.append_assoc, List.take_append_of_le_length (by simp; omega), List.take_take, Nat.min_self]
  rw [List.take_append_of_le_length (by omega), List.take_of_length_le (by omega)]

set_option maxRecDepth 100000 in
set_option maxHeartbeats 4000000 in
/-- One element less. -/
theorem delete_any (B g cap i k : Nat) (j : Int) (xs : List (Int × Int)) (w : World) (hN : xs.length = i + k + 1) (hj : j = (i + 1 : Nat)) (hB : B ≤ w.heap.size) (hO : OwnS w B (.slice (some ⟨g, 0, none⟩) (i + k + 1) cap) xs) :
    Calls Try.prog 71 #[.slice (some ⟨g, 0, none⟩) (i + k + 1) cap, .int .i64 i, .int .i64 j] w
      fun e w' => e = .returned (.slice (some ⟨g, 0, none⟩) (i + k) cap) ∧ OwnS w' B (.slice (some ⟨g, 0, none⟩) (i + k) cap) (xs.eraseIdx i) ∧ Below B w w' := by
  subst hj
  obtain ⟨c1, c2, c3, c4⟩ := Own.cap hO
  have c5 := hB
  have HO := Lib.hid hO
  have hm : cap ≤ 9223372036854775807 := c2
  have hne : ((i : Int) == ((i + 1 : Nat) : Int)) = false := by simp; omega
  have hs0 : Ext w w := Ext.refl w
  have HL : Hid (((xs.drop (i + 1)).flatMap spanC).length = k * 2) := Lib.hid (by rw [flat_len spanCells, List.length_drop, hN]; congr 1; omega)
  have HU : Hid (∀ u ∈ (xs.drop (i + 1)).flatMap spanC, u.oneCell' = true) := Lib.hid (fun u hu => by obtain ⟨x, _, hx⟩ := List.mem_flatMap.1 hu; exact spanCells.one x u hx)
  have HS : Hid (∀ w1, Ext w w1 → ∀ j, j < ((xs.drop (i + 1)).flatMap spanC).length → (w1.cell? ⟨g, i * 2 + j, none⟩).isSome = true ∧ w1.frozen? ⟨g, i * 2 + j, none⟩ = false) :=
    Lib.hid (fun w1 hx j hj => OwnS.some_at (hO.ext hx) hN (by rw [HL.out] at hj; omega))
  by_cases hcp : cap = i + 1
  · subst hcp
    have hk0 : k = 0 := by omega
    have HN : Hid (∀ w1, Ext w w1 → ∀ j u, ((xs.drop (i + 1)).flatMap spanC)[j]? = some u → w1.cell? ((⟨g, 0, none⟩ : Addr).add j) = some u) := Lib.hid (fun w1 hx j u hu => by
      rw [List.drop_eq_nil_of_le (by omega)] at hu; simp at hu)
    have HK0 := Lib.hid hk0
    clear hk0
    clear hO
    go_enter Try.func71, Try.ntmps71
    go_wp2_with fail
    (refine wp_region_ord (W := w) [(0, true), (1, true), (2, true), (3, true), (4, true), (5, true)] [] [6, 7] (by kernel_rfl) (by kernel_rfl) (by intro c a d v w h; cases d <;> exact h) (by with_reducible assumption) ?_; simp only [opsOf, List.map_cons, List.map_nil, List.getD_cons_zero, List.getD_cons_succ]; (repeat (go_big_quiet_step (fail))); refine wpQuiet_nil ?_; intro w1 hx; refine mid_nil ?_)
    have HO1 := Lib.hid (HO.out.ext hx)
    have HB1 := Lib.hid (Ext.below_of hx c5)
    refine wpList_app_room rfl (.tmp 22) (.tmp 25) rfl spanInfo g i (i + 1) k 0 ⟨g, 0, none⟩ rfl (by simp [Act.eval, Act.put, HK0.out]) ((xs.drop (i + 1)).flatMap spanC) HL.out (HN.out w1 hx) HU.out (by omega) (HS.out w1 hx) ?_
    have HO2 := Lib.hid (OwnS.lay (xs.drop (i + 1)) i HO1.out hN)
    have HB2 := Lib.hid (Below.setCells HB1.out c3 ((xs.drop (i + 1)).flatMap spanC) (i * 2))
    generalize w1.setCells g (i * 2) ((xs.drop (i + 1)).flatMap spanC) = W2 at *
    have hcl : ∀ ty c, (Builtin.clear_ #[29] ty #[.slice (some ⟨g, (i + k) * 2, none⟩) 1 c]).run Try.prog W2 = .ok (.tuple #[]) (W2.setCells g ((i + k) * 2) [.int .i64 0, .int .i64 0]) :=
      fun ty c => run_clear_span W2 ty g ((i + k) * 2) c (fun j hj => (OwnS.some_at HO2.out (layL_length _ _ _ |>.trans hN) (by omega)).1) (fun j hj => (OwnS.some_at (j := (i + k) * 2 + j) HO2.out (layL_length _ _ _ |>.trans hN) (by omega)).2)
    have HO3 := Lib.hid (OwnS.cut (OwnS.lay [(0, 0)] (i + k) HO2.out (layL_length _ _ _ |>.trans hN)) (by rw [layL_length, layL_length]; exact hN) (i + k) (by omega))
    have HB3 := Lib.hid (Below.setCells HB2.out c3 [.int .i64 0, .int .i64 0] ((i + k) * 2))
    clear HO HN HL HU HS
    go_wp2_with fail
    go_ret
    refine ⟨rfl, ?_, HB3.out⟩
    have h := HO3.out
    rw [del_list hN] at h
    exact h
  · have HN : Hid (∀ w1, Ext w w1 → ∀ j u, ((xs.drop (i + 1)).flatMap spanC)[j]? = some u → w1.cell? ((⟨g, (i + 1) * 2, none⟩ : Addr).add j) = some u) := Lib.hid (fun w1 hx =>
      row_cells spanCells (by decide) (by have := RowAt.drop (OwnS.row (hO.ext hx)) (i + 1); rwa [Nat.zero_add] at this))
    clear hO
    go_enter Try.func71, Try.ntmps71
    go_wp2_with fail
    (refine wp_region_ord (W := w) [(0, true), (1, true), (2, true), (3, true), (4, true), (5, true)] [] [6, 7] (by kernel_rfl) (by kernel_rfl) (by intro c a d v w h; cases d <;> exact h) (by with_reducible assumption) ?_; simp only [opsOf, List.map_cons, List.map_nil, List.getD_cons_zero, List.getD_cons_succ]; (repeat (go_big_quiet_step (fail))); refine wpQuiet_nil ?_; intro w1 hx; refine mid_nil ?_)
    have HO1 := Lib.hid (HO.out.ext hx)
    have HB1 := Lib.hid (Ext.below_of hx c5)
    refine wpList_app_room rfl (.tmp 22) (.tmp 25) rfl spanInfo g i cap k _ _ rfl (by first | rfl | (simp [Act.eval, Act.put]; done)) ((xs.drop (i + 1)).flatMap spanC) HL.out (HN.out w1 hx) HU.out (by omega) (HS.out w1 hx) ?_
    have HO2 := Lib.hid (OwnS.lay (xs.drop (i + 1)) i HO1.out hN)
    have HB2 := Lib.hid (Below.setCells HB1.out c3 ((xs.drop (i + 1)).flatMap spanC) (i * 2))
    generalize w1.setCells g (i * 2) ((xs.drop (i + 1)).flatMap spanC) = W2 at *
    have hcl : ∀ ty c, (Builtin.clear_ #[29] ty #[.slice (some ⟨g, (i + k) * 2, none⟩) 1 c]).run Try.prog W2 = .ok (.tuple #[]) (W2.setCells g ((i + k) * 2) [.int .i64 0, .int .i64 0]) :=
      fun ty c => run_clear_span W2 ty g ((i + k) * 2) c (fun j hj => (OwnS.some_at HO2.out (layL_length _ _ _ |>.trans hN) (by omega)).1) (fun j hj => (OwnS.some_at (j := (i + k) * 2 + j) HO2.out (layL_length _ _ _ |>.trans hN) (by omega)).2)
    have HO3 := Lib.hid (OwnS.cut (OwnS.lay [(0, 0)] (i + k) HO2.out (layL_length _ _ _ |>.trans hN)) (by rw [layL_length, layL_length]; exact hN) (i + k) (by omega))
    have HB3 := Lib.hid (Below.setCells HB2.out c3 [.int .i64 0, .int .i64 0] ((i + k) * 2))
    clear HO HN HL HU HS
    go_wp2_with fail
    go_ret
    refine ⟨rfl, ?_, HB3.out⟩
    have h := HO3.out
    rw [del_list hN] at h
    exact h
end Go.Proofs.Ytllcekmbcmhckaa
