/- The walk of the reference's Sort of layer 3. -/
import Derived.Test.YtllcekmbcmhckaaRef03B
import Derived.Test.YtllcekmbcmhckaaSpanSpec
set_option linter.unusedSimpArgs false
set_option linter.unusedVariables false
namespace Go.Proofs.Ytllcekmbcmhckaa
open Go.RowKit

def SortRel (W : World) (xs : List (Int × Int)) (v i : Value) (wr : World) : Prop :=
  ∃ (k : Nat) (ys : List (Int × Int)) (A : Option Addr) (cap : Nat), k ≤ xs.length ∧ i = .int .i64 k ∧ v = .slice A k cap ∧ ys.length = k ∧ OwnS wr W.heap.size v ys ∧
    ys.Perm (xs.take k) ∧ ys.Pairwise (fun x y => leS x y = true) ∧ Ext W wr

theorem take_succ_perm {xs ys zs : List (Int × Int)} {k : Nat} (hk : k < xs.length) (hp : ys.Perm (xs.take k)) (hz : zs.Perm (ys ++ [((xs.getD k (0, 0)).1, (xs.getD k (0, 0)).2)])) : zs.Perm (xs.take (k + 1)) := by
  rw [List.take_succ_eq_append_getElem hk]
  have : ((xs.getD k (0, 0)).1, (xs.getD k (0, 0)).2) = xs[k] := by simp [List.getD, List.getElem?_eq_getElem hk]
  rw [this] at hz
  exact hz.trans (hp.append_right _)

set_option maxRecDepth 100000 in
set_option maxHeartbeats 4000000 in
theorem refsort_any (A : Option Addr) (cap : Nat) (xs : List (Int × Int)) (W : World) (hlen : xs.length ≤ 1000000) (hl : SpansAt W A xs) :
    Calls Try.prog 24 #[.slice A xs.length cap] W (RetS W W.heap.size (sortS xs)) := by
  have HL := Lib.hid hl
  clear hl
  go_enter Try.func24, Try.ntmps24
  go_wp2_with fail
  go_loopw [3, 4] (fun v i wr => SortRel W xs v i wr) (fun _ i _ => xs.length - (intOf i).toNat)
  case atStart => exact ⟨0, [], none, 0, by omega, rfl, rfl, rfl, Own.nil _ _ _ _ _, by simp, List.Pairwise.nil, Ext.refl _⟩
  case round =>
    obtain ⟨k, ys, A1, cap1, hk, rfl, rfl, hyl, hown, hperm, hsort, hE⟩ := hrel
    have HO := Lib.hid hown
    have HP := Lib.hid hperm
    have HS := Lib.hid hsort
    have HY := Lib.hid hyl
    clear hown hperm hsort hyl
    by_cases hlt : k < xs.length
    rotate_left
    · obtain rfl : k = xs.length := by omega
      go_wp2_with fail
      go_ret
      exact ⟨_, rfl, by rw [← sortS_unique (l := xs) (by have := HP.out; rwa [List.take_length] at this) HS.out]; exact HO.out, hE⟩
    obtain ⟨lb, off, rfl, hc⟩ := HL.out.get (by omega)
    obtain ⟨e1, e2⟩ := spans_cell hc hlt
    have E1 := Lib.hid e1
    have E2 := Lib.hid e2
    have c1 : ∀ w', Ext W w' → w'.cell? ⟨lb, off + k * 2, none⟩ = some (.int .i64 (xs.getD k (0, 0)).1) := fun w' h => h.cell E1.out
    have c2 : ∀ w', Ext W w' → w'.cell? ⟨lb, off + k * 2 + 1, none⟩ = some (.int .i64 (xs.getD k (0, 0)).2) := fun w' h => h.cell E2.out
    have HT := Lib.hid (fun (zs : List (Int × Int)) (hz : zs.Perm (ys ++ [((xs.getD k (0, 0)).1, (xs.getD k (0, 0)).2)])) => take_succ_perm hlt HP.out hz)
    have hsz : W.heap.size ≤ wr.heap.size := Ext.size hE
    clear e1 e2 hc HL HP E1 E2
    generalize (xs.getD k (0, 0)).1 = a at *
    generalize (xs.getD k (0, 0)).2 = s at *
    have ib1 : (k : Int) < (xs.length : Int) := by omega
    have ib0 : (0 : Int) ≤ (k : Int) := by omega
    have ib2 : (xs.length : Int) ≤ 1000000 := by omega
    rcases A1 with _ | ad
    · -- nothing yet
      have hk0 : k = 0 ∧ cap1 = 0 := by
        rcases HO.out.2 with ⟨h, h'⟩ | ⟨g, c, cur, h, _⟩
        · injection h with _ h1 h2; exact ⟨h1, h2⟩
        · injection h with h; cases h
      obtain ⟨rfl, rfl⟩ := hk0
      obtain rfl : ys = [] := List.eq_nil_of_length_eq_zero HY.out
      simp only [Nat.zero_mul, Nat.add_zero, Nat.zero_add] at c1 c2
      go_wp2_with fail
      go_loopw [5] (fun i w2 => i = .int .i64 0 ∧ ∃ n, w2 = wr.drewN n) (fun _ _ => 0)
      case atStart => exact ⟨rfl, 0, rfl⟩
      case round =>
        obtain ⟨rfl, n, rfl⟩ := hrel
        go_wp2_with fail
        go_quiet (fail)
        have hE2 := (hE.drewN n).drewN nq
        have hsz2 : W.heap.size ≤ ((wr.drewN n).drewN nq).heap.size := Ext.size hE2
        clear hE hsz HO
        generalize (wr.drewN n).drewN nq = W2 at *
        go_wp2_with (first
          | (at_builtin; refine wpList_app_none rfl (.tmp 61) (.tmp 64) 29 rfl spanInfo rfl (by exact Own.empty 23 2 spanC W2 W2.heap.size (Nat.le_refl _)) rfl ?_; have hE3 : Ext W (W2.alloc (.cells #[] 23)) := hE2.alloc _; have HN := Lib.hid (Own.empty 23 2 spanC W2 W2.heap.size (Nat.le_refl _)))
          | (at_builtin; refine wpList_app_lit rfl (.tmp 66) (.tmp 71) 29 rfl spanInfo spanCells rfl (by exact HN.out) [(a, s)] 1 _ rfl 1 1 rfl rfl _ rfl (by simp) (by omega) (by simp [maxLen]) (by simp) ?_; intro A3 cap3 w3 hown3 hgr3 hat3; have HO3 := Lib.hid hown3; have hE4 : Ext W w3 := Ext.trans hE2 (Own.below HN.out (((Below.refl _ _).alloc (Nat.le_refl _) _).alloc (by simp) _) hgr3 (by simp; try omega)); clear hown3 hgr3 hat3)
          | (at_builtin; refine wpList_app_none rfl (.tmp 73) (.tmp 76) 29 rfl spanInfo rfl (by exact HO3.out) rfl ?_))
        go_roundw
        case rel => exact ⟨1, [(a, s)], A3, cap3, by omega, by go_num, rfl, rfl, HO3.out.mono hsz2, HT.out _ (by simp), by simp, hE4⟩
        case measure => simp [intOf]; omega
    · obtain ⟨A', cap', hv, hrow, -, had, hnc, hcm⟩ := HO.out.form spanCells (by decide)
      injection hv with hv1 hv2 hv3
      subst hv1 hv3
      obtain ⟨had1, had2, had3, had4⟩ := had ad rfl
      obtain ⟨g, o, sp⟩ := ad
      simp only at had1 had2 had3 had4
      subst had3 had4
      have HR := Lib.hid hrow
      have hkc : k ≤ cap1 := by have := HY.out; omega
      have hcm2 : cap1 ≤ 9223372036854775807 := by unfold maxLen at hcm; omega
      clear hrow hnc hcm had1 hv2
      go_wp2_with fail
      go_loopw [5] (fun i w2 => ∃ m : Nat, m ≤ k ∧ i = .int .i64 m ∧ (∃ n, w2 = wr.drewN n) ∧ Hid (∀ i, m ≤ i → i < k → leS (a, s) (ys.getD i (0, 0)) = true)) (fun i _ => (intOf i).toNat)
      case atStart => exact ⟨k, by omega, rfl, ⟨0, rfl⟩, Lib.hid (by omega)⟩
      case round =>
        obtain ⟨m, hm, rfl, ⟨n, rfl⟩, hhi⟩ := hrel
        have hE2 := hE.drewN n
        have hsz2 : W.heap.size ≤ (wr.drewN n).heap.size := Ext.size hE2
        have hgs : g < (wr.drewN n).heap.size := had2
        replace HO := Lib.hid (show OwnS (wr.drewN n) W.heap.size _ ys from HO.out)
        have HR2 := Lib.hid (show SpansAt (wr.drewN n) _ ys from HR.out)
        have ic0 : (0 : Int) ≤ (m : Int) := by omega
        have ic1 : (m : Int) ≤ (k : Int) := by omega
        have ic2 : (k : Int) ≤ (cap1 : Int) := by omega
        rcases m with _ | m
        · -- at the beginning
          have HLO : Hid (∀ i, i < 0 → i + 1 = 0 → leS (ys.getD i (0, 0)) (a, s) = true) := Lib.hid (by omega)
          have HHI := Lib.hid hhi.out
          clear hhi hsz HR had2
          go_wp2_with fail
          go_quiet (fail)
          replace HO := Lib.hid (show OwnS ((wr.drewN n).drewN nq) W.heap.size _ ys from HO.out)
          replace HR2 := Lib.hid (show SpansAt ((wr.drewN n).drewN nq) _ ys from HR2.out)
          replace hE2 := hE2.drewN nq
          have hgs2 : g < ((wr.drewN n).drewN nq).heap.size := hgs
          have hsz3 : W.heap.size ≤ ((wr.drewN n).drewN nq).heap.size := hsz2
          clear hgs hsz2 hE
          generalize (wr.drewN n).drewN nq = W2 at *
          have HI := Lib.hid (ins_sorted HS.out (m := 0) (by have := HY.out; omega) HLO.out (fun i h1 h2 => HHI.out i h1 (by have := HY.out; omega)))
          have hck : 0 = cap1 ∨ 0 < cap1 := by omega
          have HKL := Lib.hid (show (ys.take (0)).length = 0 by have := HY.out; simp; try omega)
          have HDL := Lib.hid (show (ys.drop (0)).length = k - (0) by have := HY.out; simp; try omega)
          rcases hck with hck | hck
          · have hke : k = 0 := by omega
            subst hke
            simp only [Nat.zero_mul, Nat.add_zero, Nat.zero_add] at c1 c2
            subst hck
            go_wp2_with (first
              | (at_builtin; refine wpList_app rfl (.tmp 61) (.tmp 64) 29 rfl spanInfo spanCells rfl (by exact Own.empty 23 2 spanC W2 W2.heap.size (Nat.le_refl _)) (ys.take (0)) ⟨g, 0, none⟩ (0) (0) (0) (by simp only [List.length_nil, HKL.out, Nat.zero_add]) HKL.out rfl (by exact RowAt.ext (HR2.out.take _) ((Ext.refl _).alloc _)) (by omega) (by simp [maxLen]; try omega) (by simp) ?_; intro A3 cap3 w3 hown3 hgr3 hat3; have HO3 := Lib.hid hown3; have hX3 : Ext W2 w3 := Own.below (Own.empty 23 2 spanC W2 W2.heap.size (Nat.le_refl _)) ((Below.refl _ _).alloc (Nat.le_refl _) _) hgr3 (by simp); have hE3 : Ext W w3 := hE2.trans hX3; have hs3 : W2.heap.size ≤ w3.heap.size := Ext.size hX3; clear hown3 hgr3 hat3)
              | (at_builtin; refine wpList_app_lit rfl (.tmp 66) (.tmp 71) 29 rfl spanInfo spanCells rfl (by exact HO3.out) [(a, s)] 1 _ rfl 1 1 (by simp only [List.nil_append, HKL.out, List.length_cons, List.length_nil]) rfl _ rfl (by first | rfl | simp) (by omega) (by simp [maxLen]; try omega) hs3 ?_; intro A4 cap4 w4 hown4 hgr4 hat4; have HO4 := Lib.hid hown4; have hX4 : Ext W2 w4 := Own.below HO3.out (Below.alloc hX3 hs3 _) hgr4 (by simp; try omega); have hE4 : Ext W w4 := hE2.trans hX4; have hs4 : W2.heap.size ≤ w4.heap.size := Ext.size hX4; clear hown4 hgr4 hat4)
              | (at_builtin; refine wpList_app rfl (.tmp 73) (.tmp 76) 29 rfl spanInfo spanCells rfl (by exact HO4.out) (ys.drop (0)) ⟨g, 0, none⟩ _ (0 + 1) 0 (by have := HDL.out; simp only [List.nil_append, List.length_append, HKL.out, List.length_cons, List.length_nil]; omega) (by have := HDL.out; omega) rfl (by exact RowAt.ext (by rw [List.drop_eq_nil_of_le (by have := HY.out; omega)]; exact RowAt.none _ _ _) hX4) (by omega) (by simp [maxLen]; try omega) hs4 ?_; intro A5 cap5 w5 hown5 hgr5 hat5; have HO5 := Lib.hid hown5; have hE5 : Ext W w5 := hE2.trans (Own.below HO4.out hX4 hgr5 hs4); clear hown5 hgr5 hat5))
            go_roundw
            case rel => exact ⟨0 + 1, ys.take (0) ++ [(a, s)] ++ ys.drop (0), A5, cap5, by omega, by go_num, by first | rfl | (congr 1; omega), by rw [HI.out.2.length_eq]; simp [HY.out], (by have h := HO5.out; simp only [List.nil_append] at h; exact h.mono hsz3), HT.out _ HI.out.2, HI.out.1, hE5⟩
            case measure => simp [intOf]; omega
          · go_wp2_with (first
              | (at_builtin; refine wpList_app rfl (.tmp 61) (.tmp 64) 29 rfl spanInfo spanCells rfl (by exact Own.empty 23 2 spanC W2 W2.heap.size (Nat.le_refl _)) (ys.take (0)) ⟨g, 0, none⟩ cap1 (0) (0) (by simp only [List.length_nil, HKL.out, Nat.zero_add]) HKL.out rfl (by exact RowAt.ext (HR2.out.take _) ((Ext.refl _).alloc _)) (by omega) (by simp [maxLen]; try omega) (by simp) ?_; intro A3 cap3 w3 hown3 hgr3 hat3; have HO3 := Lib.hid hown3; have hX3 : Ext W2 w3 := Own.below (Own.empty 23 2 spanC W2 W2.heap.size (Nat.le_refl _)) ((Below.refl _ _).alloc (Nat.le_refl _) _) hgr3 (by simp); have hE3 : Ext W w3 := hE2.trans hX3; have hs3 : W2.heap.size ≤ w3.heap.size := Ext.size hX3; clear hown3 hgr3 hat3)
              | (at_builtin; refine wpList_app_lit rfl (.tmp 66) (.tmp 71) 29 rfl spanInfo spanCells rfl (by exact HO3.out) [(a, s)] 1 _ rfl 1 1 (by simp only [List.nil_append, HKL.out, List.length_cons, List.length_nil]) rfl _ rfl (by first | rfl | simp) (by omega) (by simp [maxLen]; try omega) hs3 ?_; intro A4 cap4 w4 hown4 hgr4 hat4; have HO4 := Lib.hid hown4; have hX4 : Ext W2 w4 := Own.below HO3.out (Below.alloc hX3 hs3 _) hgr4 (by simp; try omega); have hE4 : Ext W w4 := hE2.trans hX4; have hs4 : W2.heap.size ≤ w4.heap.size := Ext.size hX4; clear hown4 hgr4 hat4)
              | (at_builtin; refine wpList_app rfl (.tmp 73) (.tmp 76) 29 rfl spanInfo spanCells rfl (by exact HO4.out) (ys.drop (0)) ⟨g, 0, none⟩ _ (k + 1) _ (by simp only [List.nil_append, List.length_append, HKL.out, HDL.out, List.length_cons, List.length_nil]; omega) HDL.out rfl (by have h0 := HR2.out.drop (0); first | exact RowAt.ext h0 hX4 | (rw [Nat.zero_add] at h0; exact RowAt.ext h0 hX4)) (by omega) (by simp [maxLen]; try omega) hs4 ?_; intro A5 cap5 w5 hown5 hgr5 hat5; have HO5 := Lib.hid hown5; have hE5 : Ext W w5 := hE2.trans (Own.below HO4.out hX4 hgr5 hs4); clear hown5 hgr5 hat5))
            go_roundw
            case rel => exact ⟨k + 1, ys.take (0) ++ [(a, s)] ++ ys.drop (0), A5, cap5, by omega, by go_num, by first | rfl | (congr 1; omega), by rw [HI.out.2.length_eq]; simp [HY.out], (by have h := HO5.out; simp only [List.nil_append] at h; exact h.mono hsz3), HT.out _ HI.out.2, HI.out.1, hE5⟩
            case measure => simp [intOf]; omega
        · have hmk : m < ys.length := by have := HY.out; omega
          have hcast : ((m + 1 : Nat) : Int) = (m : Int) + 1 := by omega
          rw [hcast]
          rw [hcast] at ic0 ic1
          clear hcast
          have hy1 : (ys.getD m (0, 0)).1 = (ys.getD m (0, 0)).1 := rfl
          obtain ⟨f1, f2⟩ : wr.cell? ⟨g, m * 2, none⟩ = some (.int .i64 (ys.getD m (0, 0)).1) ∧ wr.cell? ⟨g, m * 2 + 1, none⟩ = some (.int .i64 (ys.getD m (0, 0)).2) := by
            obtain ⟨b', off', hA, hc'⟩ := HR2.out
            have hA' := hA (by intro e; subst e; simp at hmk)
            simp only [Option.some.injEq, Addr.mk.injEq, and_true] at hA'
            obtain ⟨rfl, rfl⟩ := hA'
            have := spans_cell hc' hmk
            simpa using this
          have HG := Lib.hid (rfl : ys.getD m (0, 0) = ys.getD m (0, 0))
          have HLE := Lib.hid (fun (h : leS (ys.getD m (0, 0)) (a, s) = true) => (fun i (h1 : i < m + 1) (h2 : i + 1 = m + 1) => by
            obtain rfl : i = m := by omega
            exact h : ∀ i, i < m + 1 → i + 1 = m + 1 → leS (ys.getD i (0, 0)) (a, s) = true))
          have HLT := Lib.hid (fun (h : leS (a, s) (ys.getD m (0, 0)) = true) => (fun i (h1 : m ≤ i) (h2 : i < k) => by
            rcases Nat.lt_or_ge m i with h3 | h3
            · exact hhi.out i h3 h2
            · obtain rfl : i = m := by omega
              exact h : ∀ i, m ≤ i → i < k → leS (a, s) (ys.getD i (0, 0)) = true))
          have HHI := Lib.hid hhi.out
          clear hhi hsz HR had2 hy1 HG
          generalize ys.getD m (0, 0) = y at *
          obtain ⟨y1, y2⟩ := y
          simp only at f1 f2
          have id0 : (0 : Int) < (m : Int) + 1 := by omega
          have id1 : (m : Int) < (k : Int) := by omega
          by_cases h1 : a < y1
          · have HLT2 := Lib.hid (HLT.out (by rw [leS_iff]; exact .inl h1))
            clear HLT HLE HHI
            go_wp2_with fail
            go_quiet (fail)
            go_wp2_with fail
            go_roundw
            case rel => exact ⟨m, by omega, by go_num, (by first | exact ⟨_, rfl⟩ | (simp only [World.drewN_drewN]; exact ⟨_, rfl⟩)), HLT2⟩
            case measure => simp [intOf]
          have hd1 : decide (a < y1) = false := by simpa using h1
          by_cases h2 : a = y1
          · have hd2 : ((a : Int) == y1) = true := by simpa using h2
            by_cases h3 : s < y2
            · have HLT2 := Lib.hid (HLT.out (by rw [leS_iff]; exact .inr ⟨h2, by simp only; omega⟩))
              clear HLT HLE HHI h1 h2
              go_wp2_with fail
              go_quiet (fail)
              go_wp2_with fail
              go_roundw
              case rel => exact ⟨m, by omega, by go_num, (by first | exact ⟨_, rfl⟩ | (simp only [World.drewN_drewN]; exact ⟨_, rfl⟩)), HLT2⟩
              case measure => simp [intOf]
            · have HLO := Lib.hid (HLE.out (by rw [leS_iff]; exact .inr ⟨h2.symm, by simp only; omega⟩))
              have hd3 : decide (s < y2) = false := by simpa using h3
              clear HLT HLE h1 h2 h3
              go_wp2_with fail
              go_quiet (fail)
              replace HO := Lib.hid (show OwnS ((wr.drewN n).drewN nq) W.heap.size _ ys from HO.out)
              replace HR2 := Lib.hid (show SpansAt ((wr.drewN n).drewN nq) _ ys from HR2.out)
              replace hE2 := hE2.drewN nq
              have hgs2 : g < ((wr.drewN n).drewN nq).heap.size := hgs
              have hsz3 : W.heap.size ≤ ((wr.drewN n).drewN nq).heap.size := hsz2
              clear hgs hsz2 f1 f2 hE
              generalize (wr.drewN n).drewN nq = W2 at *
              have HI := Lib.hid (ins_sorted HS.out (m := m + 1) (by have := HY.out; omega) HLO.out (fun i h1 h2 => HHI.out i h1 (by have := HY.out; omega)))
              have hck : m + 1 = cap1 ∨ m + 1 < cap1 := by omega
              have HKL := Lib.hid (show (ys.take (m + 1)).length = m + 1 by have := HY.out; simp; try omega)
              have HDL := Lib.hid (show (ys.drop (m + 1)).length = k - (m + 1) by have := HY.out; simp; try omega)
              rcases hck with hck | hck
              · have hke : k = m + 1 := by omega
                subst hke
                subst hck
                go_wp2_with (first
                  | (at_builtin; refine wpList_app rfl (.tmp 61) (.tmp 64) 29 rfl spanInfo spanCells rfl (by exact Own.empty 23 2 spanC W2 W2.heap.size (Nat.le_refl _)) (ys.take (m + 1)) ⟨g, 0, none⟩ (m + 1) (m + 1) (m + 1) (by simp only [List.length_nil, HKL.out, Nat.zero_add]) HKL.out rfl (by exact RowAt.ext (HR2.out.take _) ((Ext.refl _).alloc _)) (by omega) (by simp [maxLen]; try omega) (by simp) ?_; intro A3 cap3 w3 hown3 hgr3 hat3; have HO3 := Lib.hid hown3; have hX3 : Ext W2 w3 := Own.below (Own.empty 23 2 spanC W2 W2.heap.size (Nat.le_refl _)) ((Below.refl _ _).alloc (Nat.le_refl _) _) hgr3 (by simp); have hE3 : Ext W w3 := hE2.trans hX3; have hs3 : W2.heap.size ≤ w3.heap.size := Ext.size hX3; clear hown3 hgr3 hat3)
                  | (at_builtin; refine wpList_app_lit rfl (.tmp 66) (.tmp 71) 29 rfl spanInfo spanCells rfl (by exact HO3.out) [(a, s)] 1 _ rfl (m + 1 + 1) 1 (by simp only [List.nil_append, HKL.out, List.length_cons, List.length_nil]) rfl _ rfl (by first | rfl | simp) (by omega) (by simp [maxLen]; try omega) hs3 ?_; intro A4 cap4 w4 hown4 hgr4 hat4; have HO4 := Lib.hid hown4; have hX4 : Ext W2 w4 := Own.below HO3.out (Below.alloc hX3 hs3 _) hgr4 (by simp; try omega); have hE4 : Ext W w4 := hE2.trans hX4; have hs4 : W2.heap.size ≤ w4.heap.size := Ext.size hX4; clear hown4 hgr4 hat4)
                  | (at_builtin; refine wpList_app rfl (.tmp 73) (.tmp 76) 29 rfl spanInfo spanCells rfl (by exact HO4.out) (ys.drop (m + 1)) ⟨g, 0, none⟩ _ (m + 1 + 1) 0 (by have := HDL.out; simp only [List.nil_append, List.length_append, HKL.out, List.length_cons, List.length_nil]; omega) (by have := HDL.out; omega) rfl (by exact RowAt.ext (by rw [List.drop_eq_nil_of_le (by have := HY.out; omega)]; exact RowAt.none _ _ _) hX4) (by omega) (by simp [maxLen]; try omega) hs4 ?_; intro A5 cap5 w5 hown5 hgr5 hat5; have HO5 := Lib.hid hown5; have hE5 : Ext W w5 := hE2.trans (Own.below HO4.out hX4 hgr5 hs4); clear hown5 hgr5 hat5))
                go_roundw
                case rel => exact ⟨m + 1 + 1, ys.take (m + 1) ++ [(a, s)] ++ ys.drop (m + 1), A5, cap5, by omega, by go_num, by first | rfl | (congr 1; omega), by rw [HI.out.2.length_eq]; simp [HY.out], (by have h := HO5.out; simp only [List.nil_append] at h; exact h.mono hsz3), HT.out _ HI.out.2, HI.out.1, hE5⟩
                case measure => simp [intOf]; omega
              · go_wp2_with (first
                  | (at_builtin; refine wpList_app rfl (.tmp 61) (.tmp 64) 29 rfl spanInfo spanCells rfl (by exact Own.empty 23 2 spanC W2 W2.heap.size (Nat.le_refl _)) (ys.take (m + 1)) ⟨g, 0, none⟩ cap1 (m + 1) (m + 1) (by simp only [List.length_nil, HKL.out, Nat.zero_add]) HKL.out rfl (by exact RowAt.ext (HR2.out.take _) ((Ext.refl _).alloc _)) (by omega) (by simp [maxLen]; try omega) (by simp) ?_; intro A3 cap3 w3 hown3 hgr3 hat3; have HO3 := Lib.hid hown3; have hX3 : Ext W2 w3 := Own.below (Own.empty 23 2 spanC W2 W2.heap.size (Nat.le_refl _)) ((Below.refl _ _).alloc (Nat.le_refl _) _) hgr3 (by simp); have hE3 : Ext W w3 := hE2.trans hX3; have hs3 : W2.heap.size ≤ w3.heap.size := Ext.size hX3; clear hown3 hgr3 hat3)
                  | (at_builtin; refine wpList_app_lit rfl (.tmp 66) (.tmp 71) 29 rfl spanInfo spanCells rfl (by exact HO3.out) [(a, s)] 1 _ rfl (m + 1 + 1) 1 (by simp only [List.nil_append, HKL.out, List.length_cons, List.length_nil]) rfl _ rfl (by first | rfl | simp) (by omega) (by simp [maxLen]; try omega) hs3 ?_; intro A4 cap4 w4 hown4 hgr4 hat4; have HO4 := Lib.hid hown4; have hX4 : Ext W2 w4 := Own.below HO3.out (Below.alloc hX3 hs3 _) hgr4 (by simp; try omega); have hE4 : Ext W w4 := hE2.trans hX4; have hs4 : W2.heap.size ≤ w4.heap.size := Ext.size hX4; clear hown4 hgr4 hat4)
                  | (at_builtin; refine wpList_app rfl (.tmp 73) (.tmp 76) 29 rfl spanInfo spanCells rfl (by exact HO4.out) (ys.drop (m + 1)) ⟨g, (m + 1) * 2, none⟩ _ (k + 1) _ (by simp only [List.nil_append, List.length_append, HKL.out, HDL.out, List.length_cons, List.length_nil]; omega) HDL.out rfl (by have h0 := HR2.out.drop (m + 1); first | exact RowAt.ext h0 hX4 | (rw [Nat.zero_add] at h0; exact RowAt.ext h0 hX4)) (by omega) (by simp [maxLen]; try omega) hs4 ?_; intro A5 cap5 w5 hown5 hgr5 hat5; have HO5 := Lib.hid hown5; have hE5 : Ext W w5 := hE2.trans (Own.below HO4.out hX4 hgr5 hs4); clear hown5 hgr5 hat5))
                go_roundw
                case rel => exact ⟨k + 1, ys.take (m + 1) ++ [(a, s)] ++ ys.drop (m + 1), A5, cap5, by omega, by go_num, by first | rfl | (congr 1; omega), by rw [HI.out.2.length_eq]; simp [HY.out], (by have h := HO5.out; simp only [List.nil_append] at h; exact h.mono hsz3), HT.out _ HI.out.2, HI.out.1, hE5⟩
                case measure => simp [intOf]; omega
          · have hd2 : ((a : Int) == y1) = false := by simpa using h2
            have HLO := Lib.hid (HLE.out (by rw [leS_iff]; exact .inl (by simp only; omega)))
            clear HLT HLE h1 h2
            go_wp2_with fail
            go_quiet (fail)
            replace HO := Lib.hid (show OwnS ((wr.drewN n).drewN nq) W.heap.size _ ys from HO.out)
            replace HR2 := Lib.hid (show SpansAt ((wr.drewN n).drewN nq) _ ys from HR2.out)
            replace hE2 := hE2.drewN nq
            have hgs2 : g < ((wr.drewN n).drewN nq).heap.size := hgs
            have hsz3 : W.heap.size ≤ ((wr.drewN n).drewN nq).heap.size := hsz2
            clear hgs hsz2 f1 f2 hE
            generalize (wr.drewN n).drewN nq = W2 at *
            have HI := Lib.hid (ins_sorted HS.out (m := m + 1) (by have := HY.out; omega) HLO.out (fun i h1 h2 => HHI.out i h1 (by have := HY.out; omega)))
            have hck : m + 1 = cap1 ∨ m + 1 < cap1 := by omega
            have HKL := Lib.hid (show (ys.take (m + 1)).length = m + 1 by have := HY.out; simp; try omega)
            have HDL := Lib.hid (show (ys.drop (m + 1)).length = k - (m + 1) by have := HY.out; simp; try omega)
            rcases hck with hck | hck
            · have hke : k = m + 1 := by omega
              subst hke
              subst hck
              go_wp2_with (first
                | (at_builtin; refine wpList_app rfl (.tmp 61) (.tmp 64) 29 rfl spanInfo spanCells rfl (by exact Own.empty 23 2 spanC W2 W2.heap.size (Nat.le_refl _)) (ys.take (m + 1)) ⟨g, 0, none⟩ (m + 1) (m + 1) (m + 1) (by simp only [List.length_nil, HKL.out, Nat.zero_add]) HKL.out rfl (by exact RowAt.ext (HR2.out.take _) ((Ext.refl _).alloc _)) (by omega) (by simp [maxLen]; try omega) (by simp) ?_; intro A3 cap3 w3 hown3 hgr3 hat3; have HO3 := Lib.hid hown3; have hX3 : Ext W2 w3 := Own.below (Own.empty 23 2 spanC W2 W2.heap.size (Nat.le_refl _)) ((Below.refl _ _).alloc (Nat.le_refl _) _) hgr3 (by simp); have hE3 : Ext W w3 := hE2.trans hX3; have hs3 : W2.heap.size ≤ w3.heap.size := Ext.size hX3; clear hown3 hgr3 hat3)
                | (at_builtin; refine wpList_app_lit rfl (.tmp 66) (.tmp 71) 29 rfl spanInfo spanCells rfl (by exact HO3.out) [(a, s)] 1 _ rfl (m + 1 + 1) 1 (by simp only [List.nil_append, HKL.out, List.length_cons, List.length_nil]) rfl _ rfl (by first | rfl | simp) (by omega) (by simp [maxLen]; try omega) hs3 ?_; intro A4 cap4 w4 hown4 hgr4 hat4; have HO4 := Lib.hid hown4; have hX4 : Ext W2 w4 := Own.below HO3.out (Below.alloc hX3 hs3 _) hgr4 (by simp; try omega); have hE4 : Ext W w4 := hE2.trans hX4; have hs4 : W2.heap.size ≤ w4.heap.size := Ext.size hX4; clear hown4 hgr4 hat4)
                | (at_builtin; refine wpList_app rfl (.tmp 73) (.tmp 76) 29 rfl spanInfo spanCells rfl (by exact HO4.out) (ys.drop (m + 1)) ⟨g, 0, none⟩ _ (m + 1 + 1) 0 (by have := HDL.out; simp only [List.nil_append, List.length_append, HKL.out, List.length_cons, List.length_nil]; omega) (by have := HDL.out; omega) rfl (by exact RowAt.ext (by rw [List.drop_eq_nil_of_le (by have := HY.out; omega)]; exact RowAt.none _ _ _) hX4) (by omega) (by simp [maxLen]; try omega) hs4 ?_; intro A5 cap5 w5 hown5 hgr5 hat5; have HO5 := Lib.hid hown5; have hE5 : Ext W w5 := hE2.trans (Own.below HO4.out hX4 hgr5 hs4); clear hown5 hgr5 hat5))
              go_roundw
              case rel => exact ⟨m + 1 + 1, ys.take (m + 1) ++ [(a, s)] ++ ys.drop (m + 1), A5, cap5, by omega, by go_num, by first | rfl | (congr 1; omega), by rw [HI.out.2.length_eq]; simp [HY.out], (by have h := HO5.out; simp only [List.nil_append] at h; exact h.mono hsz3), HT.out _ HI.out.2, HI.out.1, hE5⟩
              case measure => simp [intOf]; omega
            · go_wp2_with (first
                | (at_builtin; refine wpList_app rfl (.tmp 61) (.tmp 64) 29 rfl spanInfo spanCells rfl (by exact Own.empty 23 2 spanC W2 W2.heap.size (Nat.le_refl _)) (ys.take (m + 1)) ⟨g, 0, none⟩ cap1 (m + 1) (m + 1) (by simp only [List.length_nil, HKL.out, Nat.zero_add]) HKL.out rfl (by exact RowAt.ext (HR2.out.take _) ((Ext.refl _).alloc _)) (by omega) (by simp [maxLen]; try omega) (by simp) ?_; intro A3 cap3 w3 hown3 hgr3 hat3; have HO3 := Lib.hid hown3; have hX3 : Ext W2 w3 := Own.below (Own.empty 23 2 spanC W2 W2.heap.size (Nat.le_refl _)) ((Below.refl _ _).alloc (Nat.le_refl _) _) hgr3 (by simp); have hE3 : Ext W w3 := hE2.trans hX3; have hs3 : W2.heap.size ≤ w3.heap.size := Ext.size hX3; clear hown3 hgr3 hat3)
                | (at_builtin; refine wpList_app_lit rfl (.tmp 66) (.tmp 71) 29 rfl spanInfo spanCells rfl (by exact HO3.out) [(a, s)] 1 _ rfl (m + 1 + 1) 1 (by simp only [List.nil_append, HKL.out, List.length_cons, List.length_nil]) rfl _ rfl (by first | rfl | simp) (by omega) (by simp [maxLen]; try omega) hs3 ?_; intro A4 cap4 w4 hown4 hgr4 hat4; have HO4 := Lib.hid hown4; have hX4 : Ext W2 w4 := Own.below HO3.out (Below.alloc hX3 hs3 _) hgr4 (by simp; try omega); have hE4 : Ext W w4 := hE2.trans hX4; have hs4 : W2.heap.size ≤ w4.heap.size := Ext.size hX4; clear hown4 hgr4 hat4)
                | (at_builtin; refine wpList_app rfl (.tmp 73) (.tmp 76) 29 rfl spanInfo spanCells rfl (by exact HO4.out) (ys.drop (m + 1)) ⟨g, (m + 1) * 2, none⟩ _ (k + 1) _ (by simp only [List.nil_append, List.length_append, HKL.out, HDL.out, List.length_cons, List.length_nil]; omega) HDL.out rfl (by have h0 := HR2.out.drop (m + 1); first | exact RowAt.ext h0 hX4 | (rw [Nat.zero_add] at h0; exact RowAt.ext h0 hX4)) (by omega) (by simp [maxLen]; try omega) hs4 ?_; intro A5 cap5 w5 hown5 hgr5 hat5; have HO5 := Lib.hid hown5; have hE5 : Ext W w5 := hE2.trans (Own.below HO4.out hX4 hgr5 hs4); clear hown5 hgr5 hat5))
              go_roundw
              case rel => exact ⟨k + 1, ys.take (m + 1) ++ [(a, s)] ++ ys.drop (m + 1), A5, cap5, by omega, by go_num, by first | rfl | (congr 1; omega), by rw [HI.out.2.length_eq]; simp [HY.out], (by have h := HO5.out; simp only [List.nil_append] at h; exact h.mono hsz3), HT.out _ HI.out.2, HI.out.1, hE5⟩
              case measure => simp [intOf]; omega
end Go.Proofs.Ytllcekmbcmhckaa
