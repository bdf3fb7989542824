/- Merged by program (merge.py) out of: LedD, LedE, LedF, LedG, LedH, LedI, LedJ, LdN. -/
import Derived.Laws.Externs
import Derived.Test.YtkcpfimhbogdcaaMo25
import Derived.Test.YtkcpfimhbogdcaaMo4
import Derived.Test.YtkcpfimhbogdcaaMo19
import Derived.Test.YtkcpfimhbogdcaaMo23
import Derived.Test.YtkcpfimhbogdcaaMo20
/- slices.Insert at spans, where there is room. -/
set_option linter.unusedSimpArgs false
set_option linter.unusedVariables false
namespace Go.Proofs.Ytkcpfimhbogdcaa
open Go.RowKit Go.Shelf

theorem overlaps_no {w : World} {H g : Nat} (hne : H ≠ g) {cs cur : Array Value} {tA tB : TypeId} (hH : w.heap[H]? = some (.cells cs tA (0, 0))) (hg : w.heap[g]? = some (.cells cur tB (0, 0))) (hpos : cur.size ≠ 0) (o1 la ca o2 lb cb : Nat) :
    (callFunc 171 #[.slice (some ⟨H, o1, none⟩) la ca, .slice (some ⟨g, o2, none⟩) lb cb]).run Try.prog w = .ok (.value (.bool false)) w := by
  have hz : ∀ w, (Go.sizeOf 23).run Try.prog w = .ok 2 w := fun w => by kernel_rfl
  rw [run_callFunc_extern Try.func171 (by kernel_rfl) (by kernel_rfl) (by kernel_rfl) (e := Extern.SlicesOverlaps.overlaps #[45, 45] #[4]) (by kernel_rfl),
    Go.Lib.run_overlaps_apart w 45 4 23 Try.underlying45 2 hz ⟨H, o1, none⟩ ⟨g, o2, none⟩ la ca lb cb hne tA tB cs.size cur.size (by simp [World.shape?, hH]) (by simp [World.shape?, hg]) hpos (frozen_of_row w H o1 cs tA hH) (frozen_of_row w H _ cs tA hH)]
  rfl
theorem Own.block {α : Type} {e n : Nat} {f : α → List Value} {w : World} {B : Nat} {xs : List α} {g N cap : Nat} (h : Own e n f w B (.slice (some ⟨g, 0, none⟩) N cap) xs) : ∃ cur : Array Value, w.heap[g]? = some (.cells cur e (0, 0)) ∧ cur.size = cap * n := by
  rcases h.2 with ⟨h', _⟩ | ⟨g', cap', cur, h', hb, hg, hnc, hcm, hcs, _⟩
  · simp at h'
  · simp only [Value.slice.injEq, Option.some.injEq, Addr.mk.injEq, and_true, true_and] at h'
    obtain ⟨rfl, _, rfl⟩ := h'
    exact ⟨cur, hg, hcs⟩
theorem OwnS.room_at {w : World} {B g N cap : Nat} {xs : List (Int × Int)} (h : OwnS w B (.slice (some ⟨g, 0, none⟩) N cap) xs) {j : Nat} (hj : j < cap * 2) : (w.cell? ⟨g, j, none⟩).isSome = true ∧ w.frozen? ⟨g, j, none⟩ = false := by
  obtain ⟨cur, h1, h2⟩ := Own.block h
  refine ⟨?_, frozen_of_row w g j cur _ h1⟩
  have hjc : j < cur.size := by omega
  rw [cell_of_row w g j cur _ (0, 0) h1]
  simp [hjc]
theorem room_list {xs : List (Int × Int)} {x : Int × Int} {i N : Nat} (hN : xs.length = N) (hi : i < N) : layL (xs.take (i + 1) ++ xs.drop i) i [x] = xs.take i ++ x :: xs.drop i := by
  have h1 : (xs.take (i + 1)).length = i + 1 := by rw [List.length_take]; omega
  rw [layL_eq _ _ _ (by rw [List.length_append, h1, List.length_singleton]; omega), List.take_append_of_le_length (by omega), List.take_take, List.length_singleton, List.drop_append, h1, List.drop_of_length_le (by omega), Nat.sub_self, List.drop_zero, List.nil_append, Nat.min_eq_left (by omega)]
  simp

set_option maxRecDepth 100000 in
set_option maxHeartbeats 1000000 in
theorem insert_room (B N cap H g i : Nat) (xs : List (Int × Int)) (x : Int × Int) (w : World) (hN : xs.length = N) (hi : i < N) (hlen : N ≤ 400000) (hB : B ≤ w.heap.size) (hroom : N + 1 ≤ cap) (hO : OwnS w B (.slice (some ⟨g, 0, none⟩) N cap) xs) (hR : SpansAt w (some ⟨H, 0, none⟩) [x])
    (hHg : H ≠ g) (cs : Array Value) (tA : TypeId) (hH : w.heap[H]? = some (.cells cs tA (0, 0))) :
    Calls Try.prog 145 #[.slice (some ⟨g, 0, none⟩) N cap, .int .i64 i, .slice (some ⟨H, 0, none⟩) 1 1] w fun e w' => ∃ A2 cap2, e = .returned (.slice A2 (N + 1) cap2) ∧ OwnS w' B (.slice A2 (N + 1) cap2) (xs.take i ++ x :: xs.drop i) ∧ Below B w w' := by
  have HO := Lib.hid hO
  have HR := Lib.hid hR
  have hne : ((i : Int) == (N : Int)) = false := by simp; omega
  have hov : ∀ o2 lb cb, (callFunc 171 #[.slice (some ⟨H, 0, none⟩) 1 1, .slice (some ⟨g, o2, none⟩) lb cb]).run Try.prog w = .ok (.value (.bool false)) w := fun o2 lb cb => by
    obtain ⟨cur, h1, h2⟩ := Own.block hO
    exact overlaps_no hHg hH h1 (by omega) 0 1 1 o2 lb cb
  have hcm : cap ≤ 9223372036854775807 := (Own.cap hO).2.1
  have hne2 : ¬ (cap = i) := by omega
  have hne3 : ¬ (cap = i + 1) := by omega
  have hw1 : IntKind.i64.wrap ((i : Int) + 1) = (i : Int) + 1 := by rw [IntKind.wrap_i64]; omega
  have HG := Lib.hid ((Own.cap hO).2.2)
  have hs0 : Ext w w := Ext.refl w
  clear hO hR
  go_enter Try.func145, Try.ntmps145
  go_wp2_with (simp only [hov])
  (refine wp_region_ord (W := w) [(0, true), (1, true), (2, true), (3, true), (4, true), (5, true), (6, true), (7, true)] [] [8] (by kernel_rfl) (by kernel_rfl) (by intro c a d v w h; cases d <;> first | exact h | (cases h; done) | cases h.1.1 | cases h.1) (by with_reducible assumption) ?_; simp only [opsOf, List.map_cons, List.map_nil, List.getD_cons_zero, List.getD_cons_succ]; (repeat (go_big_quiet_step (fail))); refine wpQuiet_nil ?_; intro w1 hx; refine mid_nil ?_)
  have hcp2 : ∀ ty c c', (Builtin.copy_ #[45, 45] ty #[.slice (some ⟨g, (i + 1) * 2, none⟩) (N - i) c, .slice (some ⟨g, i * 2, none⟩) (N + 1 - i) c']).run Try.prog w1 = .ok (goInt (Nat.min (N + 1 - i) (N - i))) (w1.setCells g ((i + 1) * 2) ((xs.drop i).flatMap spanC)) := fun ty c c' =>
    run_copy_span w1 ty g ((i + 1) * 2) (N - i) c ⟨g, i * 2, none⟩ (N + 1 - i) c' ((xs.drop i).flatMap spanC) (by rw [flat_len spanCells, List.length_drop, hN]; simp only [Nat.min_def]; split <;> omega) (row_cells spanCells (by decide) (by have := RowAt.drop (OwnS.row (HO.out.ext hx)) i; rwa [Nat.zero_add] at this))
      (fun j hj => (OwnS.room_at (HO.out.ext hx) (by rw [flat_len spanCells, List.length_drop] at hj; omega)).1) (fun j hj => (OwnS.room_at (j := (i + 1) * 2 + j) (HO.out.ext hx) (by rw [flat_len spanCells, List.length_drop] at hj; omega)).2)
      (fun u hu => by obtain ⟨y, _, hy⟩ := List.mem_flatMap.1 hu; exact spanCells.one y u hy)
  have hdl : i + 1 + (xs.drop i).length = N + 1 := by rw [List.length_drop, hN]; omega
  have HO2 := Lib.hid (OwnS.over (HO.out.ext hx) hN (xs.drop i) (i + 1) (N + 1) (by omega) hdl (by omega) hroom)
  have HB2 : Hid (Below B w (w1.setCells g ((i + 1) * 2) ((xs.drop i).flatMap spanC))) := Lib.hid (Below.setCells (Ext.below_of hx hB) HG.out.1 _ _)
  have HR2 : Hid (SpansAt (w1.setCells g ((i + 1) * 2) ((xs.drop i).flatMap spanC)) (some ⟨H, 0, none⟩) [x]) := Lib.hid (by
    obtain ⟨b, o, h1, h2⟩ := HR.out.ext hx
    have h3 := h1 (by simp)
    simp only [Option.some.injEq, Addr.mk.injEq, and_true] at h3
    obtain ⟨rfl, rfl⟩ := h3
    refine ⟨H, 0, fun _ => rfl, fun k y hy j v hv => ?_⟩
    rw [World.cell?_setCells_out g _ _ _ _ (fun h _ => absurd h hHg)]
    exact h2 k y hy j v hv)
  have hh2 : (xs.take (i + 1) ++ xs.drop i).length = N + 1 := by rw [List.length_append, List.length_take, List.length_drop]; omega
  have hcp3 : ∀ ty c, (Builtin.copy_ #[45, 45] ty #[.slice (some ⟨g, i * 2, none⟩) (N + 1 - i) c, .slice (some ⟨H, 0, none⟩) 1 1]).run Try.prog (w1.setCells g ((i + 1) * 2) ((xs.drop i).flatMap spanC)) = .ok (goInt (Nat.min 1 (N + 1 - i))) ((w1.setCells g ((i + 1) * 2) ((xs.drop i).flatMap spanC)).setCells g (i * 2) ([x].flatMap spanC)) := fun ty c =>
    run_copy_span _ ty g (i * 2) (N + 1 - i) c ⟨H, 0, none⟩ 1 1 ([x].flatMap spanC) (by rw [flat_len spanCells]; simp only [List.length_singleton, Nat.min_def]; split <;> omega) (row_cells spanCells (by decide) HR2.out)
      (fun j hj => (OwnS.some_at HO2.out hh2 (by rw [flat_len spanCells] at hj; simp at hj; omega)).1) (fun j hj => (OwnS.some_at (j := i * 2 + j) HO2.out hh2 (by rw [flat_len spanCells] at hj; simp at hj; omega)).2)
      (fun u hu => by obtain ⟨y, _, hy⟩ := List.mem_flatMap.1 hu; exact spanCells.one y u hy)
  have HO3 := Lib.hid (OwnS.lay [x] i HO2.out hh2)
  have HB3 := Lib.hid (Below.setCells HB2.out HG.out.1 ([x].flatMap spanC) (i * 2))
  rw [show [x].flatMap spanC = spanC x from by simp] at HO3 HB3 hcp3
  clear hx hs0 hdl
  go_wp2_with (at_builtin; first | refine wpList_copy_run _ rfl _ _ _ _ rfl _ _ rfl (by first | rfl | (simp [Act.eval, Act.put]; done)) (hcp2 _ _ _) ?_ | refine wpList_copy_run _ rfl _ _ _ _ rfl _ _ rfl (by first | rfl | (simp [Act.eval, Act.put]; done)) (hcp3 _ _) ?_)
  go_ret
  have h := HO3.out
  rw [room_list hN hi] at h
  exact ⟨_, cap, rfl, h, HB3.out⟩

/-- An element put into a row of one's own. -/
theorem insert_c (B N cap H i : Nat) (z : Int) (A : Option Addr) (xs : List (Int × Int)) (x : Int × Int) (w : World) (hN : xs.length = N) (hz : z = (i : Int)) (hi : i ≤ N) (hlen : N ≤ 400000) (hB : B ≤ w.heap.size) (hO : OwnS w B (.slice A N cap) xs) (hR : SpansAt w (some ⟨H, 0, none⟩) [x])
    (hHg : ∀ ad, A = some ad → H ≠ ad.block) (cs : Array Value) (tA : TypeId) (hH : w.heap[H]? = some (.cells cs tA (0, 0))) :
    Calls Try.prog 145 #[.slice A N cap, .int .i64 z, .slice (some ⟨H, 0, none⟩) 1 1] w fun e w' => ∃ A2 cap2, e = .returned (.slice A2 (N + 1) cap2) ∧ OwnS w' B (.slice A2 (N + 1) cap2) (xs.take i ++ x :: xs.drop i) ∧ Below B w w' := by
  subst hz
  rcases Nat.lt_or_ge i N with h | h
  · have hA : ∃ g, A = some ⟨g, 0, none⟩ := by
      rcases hO.2 with ⟨h1, h0⟩ | ⟨g, c, cur, h1, _⟩
      · omega
      · injection h1 with h3 h4 h5
        exact ⟨g, h3⟩
    obtain ⟨g, rfl⟩ := hA
    rcases Nat.lt_or_ge N cap with h2 | h2
    · exact insert_room B N cap H g i xs x w hN h hlen hB h2 hO hR (hHg _ rfl) cs tA hH
    · obtain rfl : cap = N := by have := (Own.cap hO).1; omega
      exact insert_grow B cap H g i xs x w hN h hlen hB hO hR
  · obtain rfl : i = N := by omega
    rw [List.take_of_length_le (by omega), List.drop_of_length_le (by omega)]
    exact insert_end B i cap H A xs x w hN hlen hB hO hR
end Go.Proofs.Ytkcpfimhbogdcaa

/- ledger.Add. -/
set_option linter.unusedSimpArgs false
set_option linter.unusedVariables false
namespace Go.Proofs.Ytkcpfimhbogdcaa
open Go.RowKit Go.Shelf

/-- Where a span is put. -/
def addI (a : Int) (xs : List (Int × Int)) : Nat := (xs.findIdx? (addP a)).getD xs.length
theorem addI_le (a : Int) (xs : List (Int × Int)) : addI a xs ≤ xs.length := by
  unfold addI
  cases h : xs.findIdx? (addP a) with
  | none => exact Nat.le_refl _
  | some k =>
    obtain ⟨hk, _⟩ := List.findIdx?_eq_some_iff_getElem.1 h
    exact Nat.le_of_lt hk
theorem addI_cases (a : Int) (xs : List (Int × Int)) : (idxZ (addP a) xs = -1 ∧ addI a xs = xs.length) ∨ (idxZ (addP a) xs = (addI a xs : Int)) := by
  unfold addI idxZ
  cases h : xs.findIdx? (addP a) with
  | none => exact .inl ⟨rfl, rfl⟩
  | some k => exact .inr rfl
def addL (a s : Int) (xs : List (Int × Int)) : List (Int × Int) := xs.take (addI a xs) ++ (a, s) :: xs.drop (addI a xs)
theorem addL_length (a s : Int) (xs : List (Int × Int)) : (addL a s xs).length = xs.length + 1 := by
  have := addI_le a xs
  simp [addL]
  omega
/-- The two results. -/
def AddRes (a s : Int) (xs : List (Int × Int)) (ys : List (Int × Int)) (er : Int) : Prop :=
  (mayB a s = false ∧ ys = xs ∧ er = 1) ∨ (mayB a s = true ∧ xs.any (giveP a s) = true ∧ ys = xs ∧ er = 16) ∨ (mayB a s = true ∧ xs.any (giveP a s) = false ∧ ys = addL a s xs ∧ er = 0)
def AddPost (a s : Int) (xs : List (Int × Int)) (V : World) (e : Ending) (w' : World) : Prop :=
  ∃ (ys : List (Int × Int)) (er : Int) (m : Nat) (A2 : Option Addr) (cap2 : Nat), AddRes a s xs ys er ∧ m = ys.length ∧ e = .returned (.tuple #[.slice A2 m cap2, .int .i64 er]) ∧ SpansAt w' A2 ys ∧ Ext V w'

def AddOwn (a s : Int) (xs : List (Int × Int)) (V : World) (e : Ending) (w' : World) : Prop :=
  ∃ (ys : List (Int × Int)) (er : Int) (m : Nat) (A2 : Option Addr) (cap2 : Nat), AddRes a s xs ys er ∧ m = ys.length ∧ e = .returned (.tuple #[.slice A2 m cap2, .int .i64 er]) ∧ OwnS w' V.heap.size (.slice A2 m cap2) ys ∧ Ext V w'
set_option maxRecDepth 100000 in
set_option maxHeartbeats 4000000 in
theorem add_own (A : Option Addr) (cap : Nat) (xs : List (Int × Int)) (a s : Int) (V : World) (hlen : xs.length ≤ 400000) (hl : SpansAt V A xs) :
    Calls Try.prog 104 #[.slice A xs.length cap, .agg #[.int .i64 (a), .int .i64 (s)]] V (AddOwn a s xs V) := by
  have hV : Ext V (V.alloc (.cells #[.int .i64 a, .int .i64 s] 23)) := (Ext.refl V).alloc _
  have k0 := boxed V #[.int .i64 a, .int .i64 s] 23 0 (.int .i64 a) rfl
  have k1 := boxed V #[.int .i64 a, .int .i64 s] 23 1 (.int .i64 s) rfl
  have HL := Lib.hid (hl.ext hV)
  clear hl
  obtain ⟨b, hm⟩ : ∃ b, mayB a s = b := ⟨_, rfl⟩
  have HM := Lib.hid hm
  clear hm
  go_enter Try.func104, Try.ntmps104
  go_wp2_with fail
  generalize V.alloc (.cells #[.int .i64 a, .int .i64 s] 23) = V1 at *
  refine (may_is a s b HM.out _).mono ?_
  rintro e W ⟨rfl, hx⟩
  replace k0 := fun w' (h : Ext W w') => k0 w' (hx.trans h)
  replace k1 := fun w' (h : Ext W w') => k1 w' (hx.trans h)
  have HX := Lib.hid (hV.trans hx)
  have HL1 := Lib.hid (HL.out.ext hx)
  have c0 := k0 W (Ext.refl W)
  have c1 := k1 W (Ext.refl W)
  clear hx hV HL
  cases b
  · go_wp2_with fail
    refine (clone_c A cap xs _ _ rfl (by omega) HL1.out).mono ?_
    rintro e w1 ⟨A2, cap2, rfl, ho, hx, hg⟩
    have HO := Lib.hid ho
    have HX1 := Lib.hid (HX.out.trans hx)
    clear ho hx hg
    go_wp2_with fail
    go_ret2
    exact ⟨xs, 1, _, A2, cap2, .inl ⟨HM.out, rfl, rfl⟩, rfl, rfl, HO.out.mono HX.out.size, HX1.out⟩
  · have eg : ∀ args w, (callFunc 143 args).run Try.prog w = .ok (.enter 143 args) w := enters_of Try.func143 (by kernel_rfl) rfl
    go_wp2_with fail
    refine (containsFunc_any (giveP a s) _ _ eg A cap xs W (add1_tells a s _ W c0 c1) (by omega) HL1.out).mono ?_
    rintro e W1 ⟨rfl, hx1⟩
    obtain ⟨b, hb⟩ : ∃ b, xs.any (giveP a s) = b := ⟨_, rfl⟩
    have HB := Lib.hid hb
    rw [hb]
    replace k0 := fun w' (h : Ext W1 w') => k0 w' (hx1.trans h)
    replace k1 := fun w' (h : Ext W1 w') => k1 w' (hx1.trans h)
    have HX1 := Lib.hid (HX.out.trans hx1)
    have HL2 := Lib.hid (HL1.out.ext hx1)
    clear hb eg HX HL1 c0 c1 hx1
    cases b
    · have eg : ∀ args w, (callFunc 144 args).run Try.prog w = .ok (.enter 144 args) w := enters_of Try.func144 (by kernel_rfl) rfl
      go_wp2_with fail
      refine (indexFunc_any (addP a) _ _ eg A cap xs W1 (add2_tells a _ W1 (k0 W1 (Ext.refl _))) (by omega) HL2.out).mono ?_
      rintro e W2 ⟨rfl, hx2⟩
      have HI := Lib.hid (addI_le a xs)
      have hcs := addI_cases a xs
      replace k0 := fun w' (h : Ext W2 w') => k0 w' (hx2.trans h)
      replace k1 := fun w' (h : Ext W2 w') => k1 w' (hx2.trans h)
      have HX2 := Lib.hid (HX1.out.trans hx2)
      have HL3 := Lib.hid (HL2.out.ext hx2)
      clear eg HX1 HL2 hx2
      have hs0 : Ext W2 W2 := Ext.refl _
      have l0 := fun u : ExtOf W2 => k0 u.1 u.2
      have l1 := fun u : ExtOf W2 => k1 u.1 u.2
      clear k0 k1
      rcases hcs with ⟨hz, hi⟩ | hz
      all_goals
        rw [hz]
        clear hz
        go_wp2_with fail
        (refine wp_region_fork (W := W2) [(0, true), (2, true), (3, true)] 1 [(1, [4]), (4, [1])] [5, 6, 7] (by kernel_rfl) (by kernel_rfl) (by intro c a d v w h; cases d <;> first | exact h | (cases h; done) | cases h.1.1 | cases h.1) (by with_reducible assumption) ?_; simp only [opsOf, List.map_cons, List.map_nil, List.getD_cons_zero, List.getD_cons_succ]; (repeat (go_big_quiet_step (fail))); refine wpQuiet_nil ?_; refine all_two ?_ ?_ <;> (simp only [opsOf, List.map_cons, List.map_nil, List.getD_cons_zero, List.getD_cons_succ]; intro w1 hx))
        · (refine mid_step (by rfl) ?_; intro K hK; go_simp)
          refine (clone_c A cap xs _ w1 rfl (by omega) (HL3.out.ext hx)).mono ?_
          rintro e W3 ⟨A3, cap3, rfl, ho, hx3, hg⟩
          have hx4 : Ext W3 (W3.alloc (.cells #[.int .i64 a, .int .i64 s] 23)) := (Ext.refl _).alloc _
          have HO2 := Lib.hid ((ho.mono (show V.heap.size ≤ _ from (HX2.out.trans hx).size)).ext hx4)
          have HR : Hid (SpansAt (W3.alloc (.cells #[.int .i64 a, .int .i64 s] 23)) (some ⟨W3.heap.size, 0, none⟩) [(a, s)]) := Lib.hid (row_lit W3 _ rfl spanCells (by decide))
          have HX4 := Lib.hid (HX2.out.trans ((hx.trans hx3).trans hx4))
          have HH := Lib.hid (heap_alloc_new W3 (.cells #[.int .i64 a, .int .i64 s] 23))
          have HBL : Hid (∀ ad, A3 = some ad → W3.heap.size ≠ ad.block) := Lib.hid (fun ad e => by
            have := (World.ownsRow.lt ho ad.block (by rw [e]; rfl)).2
            omega)
          refine hK _ _ (hx.trans hx3) ?_
          clear hK K
          (refine mid_step (by rfl) ?_; intro K hK; go_simp)
          refine hK _ _ ((hx.trans hx3).trans hx4) ?_
          clear ho hx3 hx4 hx hg
          generalize W3.alloc (.cells #[.int .i64 a, .int .i64 s] 23) = W4 at *
          generalize W3.heap.size = H at *
          clear hK K HL3 l0 l1 hs0 HX2
          refine mid_nil ?_
          go_wp2_with fail
          refine (insert_c V.heap.size xs.length cap3 H (addI a xs) _ A3 xs (a, s) W4 rfl (by first | exact rfl | (rw [hi])) HI.out (by omega) HX4.out.size HO2.out HR.out HBL.out _ _ HH.out).mono ?_
          rintro e W6 ⟨A5, cap5, rfl, hj5, hx5⟩
          have HJ := Lib.hid hj5
          have HX6 : Hid (Ext V W6) := Lib.hid (Below.trans HX4.out hx5)
          clear hj5 hx5
          go_wp2_with fail
          go_ret2
          exact ⟨addL a s xs, 0, _, A5, cap5, .inr (.inr ⟨HM.out, HB.out, rfl, rfl⟩), (addL_length a s xs).symm, rfl, HJ.out, HX6.out⟩
        · (refine mid_step (by rfl) ?_; intro K hK; go_simp)
          have hx4 : Ext w1 (w1.alloc (.cells #[.int .i64 a, .int .i64 s] 23)) := (Ext.refl _).alloc _
          have HR0 : Hid (SpansAt (w1.alloc (.cells #[.int .i64 a, .int .i64 s] 23)) (some ⟨w1.heap.size, 0, none⟩) [(a, s)]) := Lib.hid (row_lit w1 _ rfl spanCells (by decide))
          have hsz : (w1.alloc (.cells #[.int .i64 a, .int .i64 s] 23)).heap.size = w1.heap.size + 1 := by simp
          have HH0 := Lib.hid (heap_alloc_new w1 (.cells #[.int .i64 a, .int .i64 s] 23))
          replace hx4 := hx.trans hx4
          refine hK _ _ hx4 ?_
          clear hK K
          (refine mid_step (by rfl) ?_; intro K hK; go_simp)
          refine (clone_c A cap xs _ _ rfl (by omega) (HL3.out.ext hx4)).mono ?_
          rintro e W4 ⟨A3, cap3, rfl, ho, hx3, hg⟩
          have HO2 := Lib.hid (ho.mono (show V.heap.size ≤ _ from (HX2.out.trans hx4).size))
          have HR := Lib.hid (HR0.out.ext hx3)
          have HX4 := Lib.hid (HX2.out.trans (hx4.trans hx3))
          have HH := Lib.hid ((hx3.block (k := w1.heap.size) (by omega)).trans HH0.out)
          have HBL : Hid (∀ ad, A3 = some ad → w1.heap.size ≠ ad.block) := Lib.hid (fun ad e => by
            have := (World.ownsRow.lt ho ad.block (by rw [e]; rfl)).1
            omega)
          refine hK _ _ (hx4.trans hx3) ?_
          clear ho hx3 hx4 hx hg HR0 HH0 hsz
          generalize w1.heap.size = H at *
          clear hK K HL3 l0 l1 hs0 HX2
          refine mid_nil ?_
          go_wp2_with fail
          refine (insert_c V.heap.size xs.length cap3 H (addI a xs) _ A3 xs (a, s) W4 rfl (by first | exact rfl | (rw [hi])) HI.out (by omega) HX4.out.size HO2.out HR.out HBL.out _ _ HH.out).mono ?_
          rintro e W6 ⟨A5, cap5, rfl, hj5, hx5⟩
          have HJ := Lib.hid hj5
          have HX6 : Hid (Ext V W6) := Lib.hid (Below.trans HX4.out hx5)
          clear hj5 hx5
          go_wp2_with fail
          go_ret2
          exact ⟨addL a s xs, 0, _, A5, cap5, .inr (.inr ⟨HM.out, HB.out, rfl, rfl⟩), (addL_length a s xs).symm, rfl, HJ.out, HX6.out⟩
    · go_wp2_with fail
      refine (clone_c A cap xs _ _ rfl (by omega) HL2.out).mono ?_
      rintro e w2 ⟨A2, cap2, rfl, ho, hx, hg⟩
      have HO := Lib.hid ho
      have HX2 := Lib.hid (HX1.out.trans hx)
      clear ho hx hg
      go_wp2_with fail
      go_ret2
      exact ⟨xs, 16, _, A2, cap2, .inr (.inl ⟨HM.out, HB.out, rfl, rfl⟩), rfl, rfl, HO.out.mono HX1.out.size, HX2.out⟩
theorem add_any (A : Option Addr) (cap : Nat) (xs : List (Int × Int)) (a s : Int) (V : World) (hlen : xs.length ≤ 400000) (hl : SpansAt V A xs) :
    Calls Try.prog 104 #[.slice A xs.length cap, .agg #[.int .i64 (a), .int .i64 (s)]] V (AddPost a s xs V) :=
  (add_own A cap xs a s V hlen hl).mono fun e w' ⟨ys, er, m, A2, cap2, h1, h2, h3, h4, h5⟩ => ⟨ys, er, m, A2, cap2, h1, h2, h3, h4.spans, h5⟩
end Go.Proofs.Ytkcpfimhbogdcaa

/- ledger.Drop. -/
set_option linter.unusedSimpArgs false
set_option linter.unusedVariables false
namespace Go.Proofs.Ytkcpfimhbogdcaa
open Go.RowKit Go.Shelf

/-- The three results. -/
def DropRes (q : Int) (xs ys : List (Int × Int)) (x : Int × Int) (er : Int) : Prop :=
  (idxZ (findP q) xs = -1 ∧ ys = xs ∧ x = (0, 0) ∧ er = 2) ∨ (∃ k, k < xs.length ∧ idxZ (findP q) xs = k ∧ ys = xs.eraseIdx k ∧ x = gt xs k ∧ er = 0)
def DropPost (q : Int) (xs : List (Int × Int)) (V : World) (e : Ending) (w' : World) : Prop :=
  ∃ (ys : List (Int × Int)) (a s er : Int) (m : Nat) (A2 : Option Addr) (cap2 : Nat), DropRes q xs ys (a, s) er ∧ m = ys.length ∧ e = .returned (.tuple #[.slice A2 m cap2, .agg #[.int .i64 (a), .int .i64 (s)], .int .i64 er]) ∧ SpansAt w' A2 ys ∧ Ext V w'

def DropOwn (q : Int) (xs : List (Int × Int)) (V : World) (e : Ending) (w' : World) : Prop :=
  ∃ (ys : List (Int × Int)) (a s er : Int) (m : Nat) (A2 : Option Addr) (cap2 : Nat), DropRes q xs ys (a, s) er ∧ m = ys.length ∧ e = .returned (.tuple #[.slice A2 m cap2, .agg #[.int .i64 (a), .int .i64 (s)], .int .i64 er]) ∧ OwnS w' V.heap.size (.slice A2 m cap2) ys ∧ Ext V w'

/-- What every step of the last statement keeps. -/
def DropS (V : World) (p : Nat) (a s : Int) (w : World) : Prop := Ext V w ∧ w.cell? ⟨p, 0, none⟩ = some (.int .i64 a) ∧ w.cell? ⟨p, 1, none⟩ = some (.int .i64 s)

set_option maxRecDepth 100000 in
set_option maxHeartbeats 4000000 in
theorem drop_own (A : Option Addr) (cap : Nat) (xs : List (Int × Int)) (q : Int) (V : World) (hlen : xs.length ≤ 400000) (hl : SpansAt V A xs) :
    Calls Try.prog 109 #[.slice A xs.length cap, .int .i64 q] V (DropOwn q xs V) := by
  have hV : Ext V (V.alloc (.cells #[.int .i64 0, .int .i64 0] 23)) := (Ext.refl V).alloc _
  have HL := Lib.hid (hl.ext hV)
  clear hl
  go_enter Try.func109, Try.ntmps109
  go_wp2_with fail
  refine (clone_c A cap xs _ _ rfl (by omega) HL.out).mono ?_
  rintro e W ⟨A2, cap2, rfl, ho, hx, hg⟩
  go_wp2_with fail
  refine (find_c A2 cap2 xs q _ _ W rfl rfl (by omega) ho.spans).mono ?_
  rintro e W2 ⟨rfl, hx2⟩
  have hsz : (V.alloc (.cells #[.int .i64 0, .int .i64 0] 23)).heap.size = V.heap.size + 1 := by simp
  have hbl : W2.heap[V.heap.size]? = some (.cells #[.int .i64 0, .int .i64 0] 23 (0, 0)) := ((hx.trans hx2).block (k := V.heap.size) (by omega)).trans (heap_alloc_new V _)
  have HBL := Lib.hid hbl
  have z0 : W2.cell? ⟨V.heap.size, 0, none⟩ = some (.int .i64 0) := by simp [World.cell?, hbl]
  have z1 : W2.cell? ⟨V.heap.size, 1, none⟩ = some (.int .i64 0) := by simp [World.cell?, hbl]
  have f0 : W2.frozen? ⟨V.heap.size, 0, none⟩ = false := frozen_of_row W2 _ 0 _ _ hbl
  have f1 : W2.frozen? ⟨V.heap.size, 1, none⟩ = false := frozen_of_row W2 _ 1 _ _ hbl
  have HO := Lib.hid (ho.ext hx2)
  have HX := Lib.hid (hV.trans (hx.trans hx2))
  have HNE : Hid (∀ ad, A2 = some ad → some ad.block ≠ some V.heap.size) := Lib.hid (fun ad e => by
    have := (World.ownsRow.lt ho ad.block (by rw [e]; rfl)).1
    rw [hsz] at this
    intro h
    injection h with h
    omega)
  rcases idx_cases (findP q) xs with ⟨hi, hno⟩ | ⟨k, hk, hi, hyes, hno⟩
  · rw [hi]
    have HI := Lib.hid hi
    have HR : Hid (OwnS ((W2.setCell ⟨V.heap.size, 0, none⟩ (.int .i64 0)).setCell ⟨V.heap.size, 1, none⟩ (.int .i64 0)) V.heap.size (.slice A2 xs.length cap2) xs) := Lib.hid ((Own.kept HO.out (((Only.refl V.heap.size W2).setCell 0 _).setCell 1 _) (Or.inr (fun e => by have := (World.ownsRow.lt HO.out _ e).1; rw [hsz] at this; omega))).mono (by rw [hsz]; omega))
    have HX2 : Hid (Ext V ((W2.setCell ⟨V.heap.size, 0, none⟩ (.int .i64 0)).setCell ⟨V.heap.size, 1, none⟩ (.int .i64 0))) := Lib.hid ((HX.out.setCell (p := ⟨V.heap.size, 0, none⟩) (Nat.le_refl _) _).setCell (p := ⟨V.heap.size, 1, none⟩) (Nat.le_refl _) _)
    clear hi hno hbl ho hx hx2 hV hg hsz
    go_wp2_with fail
    ((try simp only [Exit.inBlock, Exit.then]); refine bodyPost_ret (v := .tuple #[.slice A2 xs.length cap2, .agg #[.int .i64 0, .int .i64 0], .int .i64 2]) (by simp only [results, Try.results109]; go_simp) rfl ?_)
    exact ⟨xs, 0, 0, 2, _, A2, cap2, .inl ⟨HI.out, rfl, rfl, rfl⟩, rfl, rfl, HR.out, HX2.out⟩
  · rw [hi]
    obtain ⟨g, rfl⟩ := hg (by omega)
    have HI := Lib.hid hi
    obtain ⟨d1, d2, _, _⟩ := OwnS.at HO.out rfl hk
    obtain ⟨⟨a, s⟩, hgt⟩ : ∃ x, gt xs k = x := ⟨_, rfl⟩
    rw [hgt] at d1 d2
    simp only at d1 d2
    have HG := Lib.hid hgt
    have ib1 : (k : Int) < (xs.length : Int) := by omega
    have ib3 : (0 : Int) ≤ (k : Int) := by omega
    have HSZ := Lib.hid hsz
    have hw1 : IntKind.i64.wrap ((k : Int) + 1) = (k : Int) + 1 := by rw [IntKind.wrap_i64]; omega
    have HGB := Lib.hid (Own.cap HO.out).2.2
    clear hi hno hyes hbl ho hx hx2 hV hg hsz hgt z0 z1 f0 f1
    have t0 := boxed W2 #[.int .i64 a, .int .i64 s] 23 0 (.int .i64 a) rfl
    have t1 := boxed W2 #[.int .i64 a, .int .i64 s] 23 1 (.int .i64 s) rfl
    have hS : DropS V W2.heap.size a s (W2.alloc (.cells #[.int .i64 a, .int .i64 s] 23)) := ⟨HX.out.alloc _, t0 _ (Ext.refl _), t1 _ (Ext.refl _)⟩
    have HS := Lib.hid hS
    have HO3 := Lib.hid (HO.out.ext ((Ext.refl W2).alloc (.cells #[.int .i64 a, .int .i64 s] 23)))
    have HB3 := Lib.hid (((Ext.refl W2).alloc (.cells #[.int .i64 a, .int .i64 s] 23)).block (k := V.heap.size) (lt_of_heap HBL.out) |>.trans HBL.out)
    have HVL := Lib.hid (lt_of_heap HBL.out)
    clear t0 t1 hS
    go_wp2_with fail
    generalize W2.alloc (.cells #[.int .i64 a, .int .i64 s] 23) = W3 at *
    generalize W2.heap.size = H at *
    have l0 := fun u : KeptOf W3 (DropS V H a s) => (u.of HS.out).2.1
    have l1 := fun u : KeptOf W3 (DropS V H a s) => (u.of HS.out).2.2
    refine wp_region_exact (fun w' => ∃ u : KeptOf W3 (DropS V H a s), w' = u.1) [0, 1, 2, 3, 5] [4, 6, 7, 8] [] (by kernel_rfl) (by kernel_rfl) (by intro c a d v w h; cases d <;> exact h) (kept_mk ⟨HS.out.1.drew, HS.out.2.1, HS.out.2.2⟩) ?_
    simp only [opsOf, List.map_cons, List.map_nil, List.getD_cons_zero, List.getD_cons_succ]
    (repeat (go_big_quiet_step (fail)))
    refine wpQuiet_nil ?_
    clear l0 l1
    (refine mid_step (by rfl) ?_; intro K hK; go_simp)
    refine (delete_c V.heap.size g cap2 k xs.length _ xs _ rfl hk (by omega) (by exact HS.out.1.size) (by exact (HO3.out.mono (by rw [HSZ.out]; omega)).ext (Ext.drew (Ext.refl _)))).mono ?_
    rintro e W4 ⟨rfl, ho4, hb4, hon4⟩
    have hgV : V.heap.size < g := by have := HGB.out.1; rw [HSZ.out] at this; omega
    have hgH : g ≠ H := Nat.ne_of_lt HGB.out.2
    have hVH : V.heap.size < H := HVL.out
    have hS4 : DropS V H a s W4 := ⟨hon4.ext HS.out.1.drew (by omega), hon4.cell (p := ⟨H, 0, none⟩) HS.out.2.1 (Ne.symm hgH), hon4.cell (p := ⟨H, 1, none⟩) HS.out.2.2 (Ne.symm hgH)⟩
    have hbl : W4.heap[V.heap.size]? = some (.cells #[.int .i64 0, .int .i64 0] 23 (0, 0)) := (hon4.block V.heap.size (lt_of_heap HB3.out) (by intro e; injection e with e; omega)).trans HB3.out
    have z0 : W4.cell? ⟨V.heap.size, 0, none⟩ = some (.int .i64 0) := by simp [World.cell?, hbl]
    have z1 : W4.cell? ⟨V.heap.size, 1, none⟩ = some (.int .i64 0) := by simp [World.cell?, hbl]
    have f0 : W4.frozen? ⟨V.heap.size, 0, none⟩ = false := frozen_of_row W4 _ 0 _ _ hbl
    have f1 : W4.frozen? ⟨V.heap.size, 1, none⟩ = false := frozen_of_row W4 _ 1 _ _ hbl
    have hon5 := ((Only.refl V.heap.size W4).setCell 0 (.int .i64 a)).setCell 1 (.int .i64 s)
    have hS5 : DropS V H a s ((W4.setCell ⟨V.heap.size, 0, none⟩ (.int .i64 a)).setCell ⟨V.heap.size, 1, none⟩ (.int .i64 s)) :=
      ⟨(hS4.1.setCell (p := ⟨V.heap.size, 0, none⟩) (Nat.le_refl _) _).setCell (p := ⟨V.heap.size, 1, none⟩) (Nat.le_refl _) _, hon5.cell (p := ⟨H, 0, none⟩) hS4.2.1 (Nat.ne_of_gt hVH), hon5.cell (p := ⟨H, 1, none⟩) hS4.2.2 (Nat.ne_of_gt hVH)⟩
    have HR5 : Hid (OwnS ((W4.setCell ⟨V.heap.size, 0, none⟩ (.int .i64 a)).setCell ⟨V.heap.size, 1, none⟩ (.int .i64 s)) V.heap.size (.slice (some ⟨g, 0, none⟩) (xs.length - 1) cap2) (xs.eraseIdx k)) := Lib.hid (Own.kept ho4 hon5 (Or.inr (fun e => by simp only [Value.ownBlock, Option.some.injEq] at e; omega)))
    have HS4 := Lib.hid hS4
    have HS5 := Lib.hid hS5
    refine hK _ _ (kept_mk hS4) ?_
    clear hK K hbl hon4 hon5 hb4 ho4 hS4 hS5 hgV hgH hVH
    (refine mid_step (by rfl) ?_; intro K hK; go_simp)
    refine hK _ _ (kept_mk HS4.out) ?_
    clear hK K
    (refine mid_step (by rfl) ?_; intro K hK; go_simp)
    refine hK _ _ (kept_mk HS5.out) ?_
    have r0 : ((W4.setCell ⟨V.heap.size, 0, none⟩ (.int .i64 a)).setCell ⟨V.heap.size, 1, none⟩ (.int .i64 s)).cell? ⟨V.heap.size, 0, none⟩ = some (.int .i64 a) := by first | (simp [go_sem, z0, z1]; done) | (simp [World.cell?, World.setCell, hbl]; done) | (go_simp; done)
    have r1 : ((W4.setCell ⟨V.heap.size, 0, none⟩ (.int .i64 a)).setCell ⟨V.heap.size, 1, none⟩ (.int .i64 s)).cell? ⟨V.heap.size, 1, none⟩ = some (.int .i64 s) := by first | (simp [go_sem, z0, z1]; done) | (simp [World.cell?, World.setCell, hbl]; done) | (go_simp; done)
    clear hK K z0 z1 f0 f1
    generalize (W4.setCell ⟨V.heap.size, 0, none⟩ (.int .i64 a)).setCell ⟨V.heap.size, 1, none⟩ (.int .i64 s) = W5 at *
    (refine mid_step (by rfl) ?_; intro K hK; go_simp)
    refine hK _ _ (kept_mk HS5.out) ?_
    clear hK K
    refine mid_nil ?_
    go_wp2_with fail
    ((try simp only [Exit.inBlock, Exit.then]); refine bodyPost_ret (v := .tuple #[.slice (some ⟨g, 0, none⟩) (xs.length - 1) cap2, .agg #[.int .i64 a, .int .i64 s], .int .i64 0]) (by simp only [results, Try.results109]; go_simp) rfl ?_)
    exact ⟨xs.eraseIdx k, a, s, 0, _, _, _, .inr ⟨k, hk, HI.out, rfl, HG.out.symm, rfl⟩, by rw [List.length_eraseIdx]; simp [hk], rfl, HR5.out, HS5.out.1⟩
theorem drop_any (A : Option Addr) (cap : Nat) (xs : List (Int × Int)) (q : Int) (V : World) (hlen : xs.length ≤ 400000) (hl : SpansAt V A xs) :
    Calls Try.prog 109 #[.slice A xs.length cap, .int .i64 q] V (DropPost q xs V) :=
  (drop_own A cap xs q V hlen hl).mono fun e w' ⟨ys, a, s, er, m, A2, cap2, h1, h2, h3, h4, h5⟩ => ⟨ys, a, s, er, m, A2, cap2, h1, h2, h3, h4.spans, h5⟩
end Go.Proofs.Ytkcpfimhbogdcaa

/- The reference of the ledger: Find, Of. -/
set_option linter.unusedSimpArgs false
set_option linter.unusedVariables false
namespace Go.Proofs.Ytkcpfimhbogdcaa
open Go.RowKit Go.Shelf

end Go.Proofs.Ytkcpfimhbogdcaa

/- The reference of ledger.Drop. -/
set_option linter.unusedSimpArgs false
set_option linter.unusedVariables false
namespace Go.Proofs.Ytkcpfimhbogdcaa
open Go.RowKit Go.Shelf

/-- What 'x[i:]' has for an address. -/
def cutA (A : Option Addr) (cap i : Nat) : Option Addr := if cap = i then A else A.map (·.add (i * 2))
theorem cutA_row {w : World} {A : Option Addr} {cap : Nat} {xs : List (Int × Int)} (h : SpansAt w A xs) (hcap : xs.length ≤ cap) (i : Nat) : SpansAt w (cutA A cap i) (xs.drop i) := by
  unfold cutA
  by_cases hi : i < xs.length
  · obtain ⟨b, off, hA, hc⟩ := h
    obtain rfl := hA (by intro e; subst e; simp at hi)
    rw [if_neg (by omega)]
    have := RowAt.drop (n := 2) (f := spanC) (w := w) (b := b) (off := off) (xs := xs) ⟨b, off, fun _ => rfl, hc⟩ i
    simp only [Option.map_some, Addr.add]
    split
    · rename_i h0
      obtain rfl : i = 0 := by omega
      simpa using this
    · exact this
  · rw [List.drop_eq_nil_of_le (by omega)]
    exact RowAt.none _ _ _
theorem cutA_none {A : Option Addr} {cap i : Nat} (hA : A = none → cap = 0) (h : cutA A cap i = none) : cap - i = 0 := by
  unfold cutA at h
  split at h
  · omega
  · cases A with
    | none => have := hA rfl; omega
    | some a => simp at h

end Go.Proofs.Ytkcpfimhbogdcaa

/- The reference of ledger.Add. -/
set_option linter.unusedSimpArgs false
set_option linter.unusedVariables false
namespace Go.Proofs.Ytkcpfimhbogdcaa
open Go.RowKit Go.Shelf

theorem refmeets_is (a s c d : Int) (b : Bool) (h : meetsB a s c d = b) (w : World) : Calls Try.prog 150 #[.agg #[.int .i64 (a), .int .i64 (s)], .agg #[.int .i64 (c), .int .i64 (d)]] w fun e w' => e = .returned (.bool b) ∧ Ext w w' := by
  subst h; exact refmeets_any a s c d w
theorem any_hit {p : Int × Int → Bool} {xs : List (Int × Int)} {k : Nat} (hk : k < xs.length) (h : p (xs.getD k (0, 0)) = true) : xs.any p = true := by
  rw [List.any_eq_true]
  exact ⟨xs.getD k (0, 0), by simp [hk], h⟩
theorem any_miss {p : Int × Int → Bool} {xs : List (Int × Int)} (h : ∀ k, k < xs.length → p (xs.getD k (0, 0)) = false) : xs.any p = false := by
  rw [List.any_eq_false]
  intro x hx
  obtain ⟨k, hk, rfl⟩ := List.getElem_of_mem hx
  have := h k hk
  simp only [List.getD_eq_getElem?_getD, List.getElem?_eq_getElem hk, Option.getD_some] at this
  simp [this]
theorem addI_at {a : Int} {xs : List (Int × Int)} {k : Nat} (hk : k ≤ xs.length) (h1 : ∀ i, i < k → addP a (xs.getD i (0, 0)) = false) (h2 : k < xs.length → addP a (xs.getD k (0, 0)) = true) : addI a xs = k := by
  rcases Nat.lt_or_ge k xs.length with h | h
  · have := idx_hit (p := addP a) h (h2 h) h1
    rcases addI_cases a xs with ⟨hz, hi⟩ | hz <;> omega
  · have := idx_miss (p := addP a) (xs := xs) (fun i hi => h1 i (by omega))
    rcases addI_cases a xs with ⟨hz, hi⟩ | hz <;> omega
theorem step_no {p : Int × Int → Bool} {xs : List (Int × Int)} {k : Nat} (h : ∀ i, i < k → p (xs.getD i (0, 0)) = false) (h2 : p (xs.getD k (0, 0)) = false) : ∀ i, i < k + 1 → p (xs.getD i (0, 0)) = false := fun i hi => by
  rcases Nat.lt_or_ge i k with h' | h'
  · exact h i h'
  · obtain rfl : i = k := by omega
    exact h2

end Go.Proofs.Ytkcpfimhbogdcaa

/- ledger.Right. -/
set_option linter.unusedSimpArgs false
set_option linter.unusedVariables false
namespace Go.Proofs.Ytkcpfimhbogdcaa
open Go.RowKit Go.Shelf

def ledB (a s : Int) (xs : List (Int × Int)) : Bool := xs.all (fun x => withinB x.1 x.2 a s) && chainB xs
open Classical in
noncomputable def ledR (a s : Int) (xs fs : List (Int × Int)) : Bool := ledB a s xs && decide (GapsOf a s xs fs)
theorem ledR_no {a s : Int} {xs fs : List (Int × Int)} (h : ledB a s xs = false) : ledR a s xs fs = false := by unfold ledR; rw [h]; rfl
theorem ledR_of {a s : Int} {xs ys fs : List (Int × Int)} (h : ledB a s xs = true) (hg : GapsOf a s xs ys) : ledR a s xs fs = decide (ys = fs) := by
  unfold ledR
  rw [h, Bool.true_and, Bool.eq_iff_iff]
  simp only [decide_eq_true_eq]
  exact ⟨fun h2 => Canon.unique hg h2, fun e => e ▸ hg⟩
theorem led_no1 {a s : Int} {xs : List (Int × Int)} {k : Nat} (hk : k < xs.length) (h : withinB (xs.getD k (0, 0)).1 (xs.getD k (0, 0)).2 a s = false) : ledB a s xs = false := by
  have : xs.all (fun x => withinB x.1 x.2 a s) = false := by
    rw [List.all_eq_false]
    exact ⟨xs.getD k (0, 0), by simp [hk], by rw [h]; simp⟩
  rw [ledB, this, Bool.false_and]
theorem led_no2 {a s : Int} {xs : List (Int × Int)} {j : Nat} (hj : j + 1 < xs.length) (h : (xs.getD (j + 1) (0, 0)).1 < (xs.getD j (0, 0)).1 + (xs.getD j (0, 0)).2) : ledB a s xs = false := by
  rw [ledB, chain_no2 hj h, Bool.and_false]
def LedTo (a s : Int) (xs : List (Int × Int)) (k : Nat) : Prop := ∀ i, i < k → withinB (xs.getD i (0, 0)).1 (xs.getD i (0, 0)).2 a s = true ∧ ∀ j, j + 1 = i → (xs.getD j (0, 0)).1 + (xs.getD j (0, 0)).2 ≤ (xs.getD i (0, 0)).1
theorem LedTo.step {a s : Int} {xs : List (Int × Int)} {k : Nat} (h : LedTo a s xs k) (h1 : withinB (xs.getD k (0, 0)).1 (xs.getD k (0, 0)).2 a s = true) (h2 : ∀ j, j + 1 = k → (xs.getD j (0, 0)).1 + (xs.getD j (0, 0)).2 ≤ (xs.getD k (0, 0)).1) : LedTo a s xs (k + 1) := fun i hi => by
  rcases Nat.lt_or_ge i k with h' | h'
  · exact h i h'
  · obtain rfl : i = k := by omega
    exact ⟨h1, h2⟩
theorem led_yes {a s : Int} {xs : List (Int × Int)} (h : LedTo a s xs xs.length) : ledB a s xs = true := by
  rw [ledB, all_within fun i hi => (h i hi).1, Bool.true_and]
  exact chain_yes fun i hi => ⟨within_may (h i hi).1, fun j _ hj => (h i hi).2 j hj⟩

set_option maxRecDepth 100000 in
set_option maxHeartbeats 4000000 in
theorem ledright_any (a s : Int) (A A2 : Option Addr) (cap cap2 : Nat) (xs fs : List (Int × Int)) (w : World) (hlen : xs.length ≤ 400000) (hlen2 : fs.length ≤ 9223372036854775807) (hl : SpansAt w A xs) (hl2 : SpansAt w A2 fs) :
    Calls Try.prog 92 #[.agg #[.int .i64 (a), .int .i64 (s)], .slice A xs.length cap, .slice A2 fs.length cap2] w fun e w' => e = .returned (.bool (ledR a s xs fs)) ∧ Ext w w' := by
  have hW : Ext w (w.alloc (.cells #[.int .i64 a, .int .i64 s] 23)) := (Ext.refl w).alloc _
  have HL := Lib.hid (hl.ext hW)
  have HF := Lib.hid (hl2.ext hW)
  have b0 := boxed w #[.int .i64 a, .int .i64 s] 23 0 (.int .i64 a) rfl
  have b1 := boxed w #[.int .i64 a, .int .i64 s] 23 1 (.int .i64 s) rfl
  clear hl hl2
  go_enter Try.func92, Try.ntmps92
  go_wp2_with fail
  generalize w.alloc (.cells #[.int .i64 a, .int .i64 s] 23) = W at *
  go_loopw [7, 8, 11] (fun _ _ i wr => ∃ k : Nat, k ≤ xs.length ∧ i = .int .i64 k ∧ Ext W wr ∧ Hid (LedTo a s xs k)) (fun _ _ i _ => xs.length - (intOf i).toNat)
  case atStart => exact ⟨0, by omega, rfl, Ext.refl _, Lib.hid (fun i hi => absurd hi (by omega))⟩
  case round =>
    obtain ⟨k, hk, rfl, hxr, hq⟩ := hrel
    by_cases hlt : k < xs.length
    rotate_left
    · have HR := Lib.hid (led_yes (a := a) (s := s) (xs := xs) (fun i hi => hq.out i (by omega)))
      have c0 := b0 wr hxr
      have c1 := b1 wr hxr
      clear hq
      go_wp2_with fail
      refine (gaps_any a s A cap xs _ (by omega) (HL.out.ext hxr)).mono ?_
      rintro e W8 ⟨ys, hg, h8⟩
      obtain ⟨A8, cap8, rfl, hj8, hx8⟩ := h8.open
      have HJ := Lib.hid hj8
      have hys := gaps_len hg
      have HG := Lib.hid (ledR_of (fs := fs) HR.out hg)
      replace hxr := hxr.trans hx8
      clear hj8 hx8 h8 c0 c1
      go_wp2_with fail
      refine (equal_any A8 A2 cap8 cap2 ys fs W8 (by omega) (by omega) HJ.out (HF.out.ext hxr)).mono ?_
      rintro e W9 ⟨rfl, hx9⟩
      replace hxr := hxr.trans hx9
      go_wp2_with fail
      go_ret
      exact ⟨ret_bool (by rw [HG.out]), hW.trans hxr⟩
    obtain ⟨lb, off, rfl, hc⟩ := HL.out.get (by omega)
    have HC := Lib.hid hc
    obtain ⟨e1, e2⟩ := spans_cell hc hlt
    have HN1 := Lib.hid (fun h => led_no1 (a := a) (s := s) hlt h)
    have HP := Lib.hid (fun h1 h2 => hq.out.step h1 h2)
    have ib1 : (k : Int) < (xs.length : Int) := by omega
    have c1 := hxr.cell e1
    have c2 := hxr.cell e2
    clear e1 e2 hc HL HF
    rcases k with _ | m
    · generalize xs.getD 0 (0, 0) = x at *
      obtain ⟨x1, x2⟩ := x
      simp only [Nat.zero_mul, Nat.add_zero] at c1 c2
      have hz0 : Ext wr (wr.alloc (.cells #[.int .i64 x1, .int .i64 x2] 23)) := (Ext.refl wr).alloc _
      have n0 := boxed wr #[.int .i64 x1, .int .i64 x2] 23 0 (.int .i64 x1) rfl
      have n1 := boxed wr #[.int .i64 x1, .int .i64 x2] 23 1 (.int .i64 x2) rfl
      clear hq HC
      cases hb : withinB x1 x2 a s
      all_goals
        go_wp2_with fail
        generalize wr.alloc (.cells #[.int .i64 x1, .int .i64 x2] 23) = Wn at *
        generalize wr.heap.size = H at *
        have l1 := fun u : ExtOf Wn => n0 u.1 u.2
        have l2 := fun u : ExtOf Wn => n1 u.1 u.2
        have m1 := fun u : ExtOf Wn => b0 u.1 (hxr.trans (hz0.trans u.2))
        have m2 := fun u : ExtOf Wn => b1 u.1 (hxr.trans (hz0.trans u.2))
        have hs0 : Ext Wn Wn := Ext.refl Wn
        (refine wp_region_ext (W := Wn) (by kernel_rfl) (by kernel_rfl) (by with_reducible assumption) ?_; (repeat (go_big_quiet_step (first | (go_at_call 93; with_reducible exact Calls.ext_of (within_is x1 x2 a s _ hb _))))); refine wpQuiet_nil ?_; intro w1 hx)
        go_wp2_with fail
      · go_ret
        exact ⟨ret_bool (by rw [ledR_no (HN1.out hb)]), hW.trans (hxr.trans (hz0.trans hx))⟩
      · go_roundw
        case rel => exact ⟨0 + 1, by omega, by go_num, hxr.trans (hz0.trans hx), Lib.hid (HP.out hb (by omega))⟩
        case measure => simp [intOf]; omega
    · have hq1 := within_may (hq.out m (by omega)).1
      obtain ⟨e3, e4⟩ := spans_cell HC.out (show m < xs.length by omega)
      have c3 := hxr.cell e3
      have c4 := hxr.cell e4
      have HN2 := Lib.hid (fun h => led_no2 (a := a) (s := s) (xs := xs) (j := m) hlt h)
      have HP2 := Lib.hid (fun h1 (h2 : (xs.getD m (0, 0)).1 + (xs.getD m (0, 0)).2 ≤ (xs.getD (m + 1) (0, 0)).1) => HP.out h1 (fun j (hj : j + 1 = m + 1) => (show j = m by omega) ▸ h2))
      clear e3 e4 hq HC HP
      generalize xs.getD (m + 1) (0, 0) = x at *
      generalize xs.getD m (0, 0) = y at *
      obtain ⟨x1, x2⟩ := x
      obtain ⟨c, d⟩ := y
      simp only at c1 c2 c3 c4 hq1
      obtain ⟨q1, q2, q3, q4⟩ := may_bd hq1
      have hcast : ((m + 1 : Nat) : Int) = (m : Int) + 1 := by omega
      rw [hcast]
      rw [hcast] at ib1
      clear hcast hq1
      have hp : decide ((0 : Int) < (m : Int) + 1) = true := by simp; try omega
      have s1 : IntKind.i64.wrap ((m : Int) + 1 - 1) = (m : Int) := by rw [show (m : Int) + 1 - 1 = (m : Int) from by omega]; exact IntWalk.i64_in _ (by omega)
      have ib2 : (m : Int) < (xs.length : Int) := by omega
      have ib3 : (0 : Int) ≤ (m : Int) := by omega
      have hz0 : Ext wr (wr.alloc (.cells #[.int .i64 x1, .int .i64 x2] 23)) := (Ext.refl wr).alloc _
      have n0 := boxed wr #[.int .i64 x1, .int .i64 x2] 23 0 (.int .i64 x1) rfl
      have n1 := boxed wr #[.int .i64 x1, .int .i64 x2] 23 1 (.int .i64 x2) rfl
      obtain ⟨t, ht⟩ : ∃ t, decide (x1 < c + d) = t := ⟨_, rfl⟩
      have HT := Lib.hid ht
      have C3 := Lib.hid c3
      have C4 := Lib.hid c4
      clear c3 c4
      cases hb : withinB x1 x2 a s
      all_goals cases t
      all_goals
        go_wp2_with fail
        generalize wr.alloc (.cells #[.int .i64 x1, .int .i64 x2] 23) = Wn at *
        generalize wr.heap.size = H at *
        have l1 := fun u : ExtOf Wn => n0 u.1 u.2
        have l2 := fun u : ExtOf Wn => n1 u.1 u.2
        have m1 := fun u : ExtOf Wn => b0 u.1 (hxr.trans (hz0.trans u.2))
        have m2 := fun u : ExtOf Wn => b1 u.1 (hxr.trans (hz0.trans u.2))
        have l3 := fun u : ExtOf Wn => (hz0.trans u.2).cell C3.out
        have l4 := fun u : ExtOf Wn => (hz0.trans u.2).cell C4.out
        have hs0 : Ext Wn Wn := Ext.refl Wn
        (refine wp_region_ext (W := Wn) (by kernel_rfl) (by kernel_rfl) (by with_reducible assumption) ?_; (repeat (go_big_quiet_step (first | (go_at_call 93; with_reducible exact Calls.ext_of (within_is x1 x2 a s _ hb _))))); refine wpQuiet_nil ?_; intro w1 hx)
        go_wp2_with fail
      · go_ret
        exact ⟨ret_bool (by rw [ledR_no (HN1.out hb)]), hW.trans (hxr.trans (hz0.trans hx))⟩
      · go_ret
        exact ⟨ret_bool (by rw [ledR_no (HN1.out hb)]), hW.trans (hxr.trans (hz0.trans hx))⟩
      · go_roundw
        case rel => exact ⟨m + 1 + 1, by omega, by go_num, hxr.trans (hz0.trans hx), Lib.hid (HP2.out hb (by have := HT.out; simpa using this))⟩
        case measure => simp [intOf]; omega
      · go_ret
        exact ⟨ret_bool (by rw [ledR_no (HN2.out (by have := HT.out; simpa using this))]), hW.trans (hxr.trans (hz0.trans hx))⟩
end Go.Proofs.Ytkcpfimhbogdcaa

/- A ledger with nothing in it. -/
set_option linter.unusedSimpArgs false
set_option linter.unusedVariables false
namespace Go.Proofs.Ytkcpfimhbogdcaa
open Go.RowKit
theorem gaps_new {a s : Int} (h : mayB a s = true) : GapsOf a s [] [(a, s)] := by
  have hb := may_bd h
  refine ⟨by simp; omega, by simp, fun p => ?_⟩
  simp only [LeftB, coveredB, hasB, h, InS]
  simp
theorem gaps_new0 {a s : Int} (h : mayB a s = false) : GapsOf a s [] [] := by
  refine ⟨by simp, by simp, fun p => ?_⟩
  simp [LeftB, coveredB, hasB, h]
theorem led_nil (a s : Int) : ledB a s [] = true := by
  simp [ledB, chainB]
end Go.Proofs.Ytkcpfimhbogdcaa

