/- Merged by program (merge.py) out of: SortI, SpanC, SpanD, SpanE. -/
import Derived.WalkSpells
import Derived.Lib.SliceRun
import Derived.Test.YtllcekmbcmhckaaMg8
import Derived.Test.YtllcekmbcmhckaaMg1
/- The walks of slices' SortStableFunc and Clone at spans, and of span.Sort. -/
set_option linter.unusedSimpArgs false
set_option linter.unusedVariables false
namespace Go.Proofs.Ytllcekmbcmhckaa
open Go.RowKit

set_option maxHeartbeats 1000000 in
theorem sortStable_any (B g N cap : Nat) (xs : List (Int × Int)) (w : World) (hB : B ≤ w.heap.size) (hBg : B ≤ g) (hN : xs.length = N) (hN2 : N ≤ 4000000000000)
    (ho : OwnS w B (.slice (some ⟨g, 0, none⟩) N cap) xs) :
    Calls Try.prog 60 #[.slice (some ⟨g, 0, none⟩) N cap, .func (.func 61) #[] #[]] w
      (InPlace w B g N cap (fun ys => Seg 0 N xs ys ∧ Ordered 0 N ys)) := by
  have HO := Lib.hid ho
  have HN := Lib.hid hN
  clear ho hN
  go_enter Try.func60, Try.ntmps60
  go_wp2_with fail
  refine (stable_any B g N cap xs _ hB hBg HN.out hN2 HO.out).mono ?_
  rintro e w1 ⟨rfl, hb1, ys, hyl, hs1, hw1⟩
  have H1 := Lib.hid hw1
  have H2 := Lib.hid hyl
  have H3 := Lib.hid hb1
  have H4 := Lib.hid hs1
  clear hw1 hyl hb1 hs1
  go_wp2_with fail
  go_end0
  exact ⟨rfl, H3.out, ys, H2.out, H4.out, H1.out⟩

theorem Ordered.all {N : Nat} {ys : List (Int × Int)} (h : Ordered 0 N ys) (hl : ys.length = N) : ys.Pairwise (fun x y => leS x y = true) := by
  rw [List.pairwise_iff_getElem]
  intro i j hi hj hij
  have := h i j (by omega) hij (by omega)
  simpa [gt, List.getElem?_eq_getElem hi, List.getElem?_eq_getElem hj] using this
theorem insSort_nil (w : World) :
    Calls Try.prog 85 #[.slice none 0 0, .int .i64 0, .int .i64 0, .func (.func 61) #[] #[]] w fun e w' => e = .returned (.tuple #[]) ∧ Ext w w' := by
  go_enter Try.func85, Try.ntmps85
  go_wp2_with fail
  go_loopw [8] (fun i wr => i = .int .i64 1 ∧ Ext w wr) (fun _ _ => 0)
  case atStart => exact ⟨rfl, Ext.refl _⟩
  case round =>
    obtain ⟨rfl, hx⟩ := hrel
    go_wp2_with fail
    go_end0
    exact ⟨rfl, hx⟩

theorem stable_nil (w : World) :
    Calls Try.prog 79 #[.slice none 0 0, .int .i64 0, .func (.func 61) #[] #[]] w fun e w' => e = .returned (.tuple #[]) ∧ Ext w w' := by
  go_enter Try.func79, Try.ntmps79
  go_wp2_with fail
  go_loopw [7, 8] (fun a b wr => a = .int .i64 0 ∧ b = .int .i64 20 ∧ Ext w wr) (fun _ _ _ => 0)
  case atStart => exact ⟨rfl, rfl, Ext.refl _⟩
  case round =>
    obtain ⟨rfl, rfl, hx⟩ := hrel
    go_wp2_with fail
    refine (insSort_nil _).mono ?_
    rintro e w1 ⟨rfl, hx1⟩
    replace hx := hx.trans hx1
    clear hx1
    go_wp2_with fail
    go_loopw [6] (fun s wr => s = .int .i64 20 ∧ Ext w wr) (fun _ _ => 0)
    case atStart => exact ⟨rfl, hx⟩
    case round =>
      obtain ⟨rfl, hx⟩ := hrel
      go_wp2_with fail
      go_end0
      exact ⟨rfl, hx⟩

theorem sortStable_nil (w : World) :
    Calls Try.prog 60 #[.slice none 0 0, .func (.func 61) #[] #[]] w fun e w' => e = .returned (.tuple #[]) ∧ Ext w w' := by
  go_enter Try.func60, Try.ntmps60
  go_wp2_with fail
  refine (stable_nil _).mono ?_
  rintro e w1 ⟨rfl, hx⟩
  go_wp2_with fail
  go_end0
  exact ⟨rfl, hx⟩

/-- A slice that is nil reads as no elements. -/
theorem row_none {α : Type} {n : Nat} {f : α → List Value} {w : World} {xs : List α} (h : RowAt n f w none xs) : xs = [] := by
  obtain ⟨b, off, hA, _⟩ := h
  cases xs with
  | nil => rfl
  | cons x xs => exact absurd (hA (by simp)) (by simp)

set_option maxHeartbeats 1000000 in
theorem clone_none (cap : Nat) (W : World) :
    Calls Try.prog 59 #[.slice none 0 cap] W fun e w' => e = .returned (.slice none 0 0) ∧ Ext W w' := by
  have he := fun w => Lib.run_eql_slice_nil (P := Try.prog) w 29 23 none 0 cap 0 0 Try.underlying29
  simp only [Option.isNone_none] at he
  go_enter Try.func59, Try.ntmps59
  go_wp2_with fail
  go_ret
  exact ⟨rfl, Ext.refl _⟩
set_option maxHeartbeats 1000000 in
theorem clone_some (ad : Addr) (cap : Nat) (xs : List (Int × Int)) (W : World) (hlen : xs.length ≤ 4000000000000) (hl : SpansAt W (some ad) xs) :
    Calls Try.prog 59 #[.slice (some ad) xs.length cap] W fun e w' => ∃ g cap, e = .returned (.slice (some ⟨g, 0, none⟩) xs.length cap) ∧ OwnS w' W.heap.size (.slice (some ⟨g, 0, none⟩) xs.length cap) xs ∧ Below W.heap.size W w' := by
  have he := fun w => Lib.run_eql_slice_nil (P := Try.prog) w 29 23 (some ad) xs.length cap 0 0 Try.underlying29
  simp only [Option.isNone_some] at he
  have HL := Lib.hid hl
  clear hl
  go_enter Try.func59, Try.ntmps59
  go_wp2_with (at_builtin; refine wpList_app rfl (.tmp 5) (.tmp 6) 29 rfl spanInfo spanCells rfl (by exact Own.empty 23 2 spanC W W.heap.size (Nat.le_refl _)) xs ad cap xs.length xs.length (by simp) rfl rfl (by exact RowAt.ext HL.out ((Ext.refl _).alloc _)) (by omega) (by simp [maxLen]; try omega) (by simp) ?_; intro A3 cap3 w3 hown3 hgr3 hat3; have HO3 := Lib.hid hown3; have hX3 : Ext W w3 := Own.below (Own.empty 23 2 spanC W W.heap.size (Nat.le_refl _)) ((Below.refl _ _).alloc (Nat.le_refl _) _) hgr3 (by simp); have HT := Lib.hid hat3; clear hown3 hgr3 hat3)
  have hA : ∃ g, A3 = some ⟨g, 0, none⟩ := by
    rcases HO3.out.2 with ⟨h, _⟩ | ⟨g, _, _, h, _⟩
    · exfalso
      have := HT.out
      injection h with h1 h2 h3
      subst h1
      simp [Value.ownBlock, Act.eval] at this
    · injection h with h1 h2 h3
      exact ⟨g, h1⟩
  obtain ⟨g, rfl⟩ := hA
  go_ret
  exact ⟨g, cap3, rfl, by simpa using HO3.out, hX3⟩

set_option maxHeartbeats 1000000 in
theorem sort_any (A : Option Addr) (cap : Nat) (xs : List (Int × Int)) (W : World) (hlen : xs.length ≤ 1000000) (hl : SpansAt W A xs) :
    Calls Try.prog 23 #[.slice A xs.length cap] W (RetS W W.heap.size (sortS xs)) := by
  have HL := Lib.hid hl
  clear hl
  cases A with
  | none =>
    obtain rfl := row_none HL.out
    simp only [List.length_nil]
    go_enter Try.func23, Try.ntmps23
    go_wp2_with fail
    refine (clone_none _ _).mono ?_
    rintro e w1 ⟨rfl, hx⟩
    go_wp2_with fail
    refine (sortStable_nil _).mono ?_
    rintro e w2 ⟨rfl, hx2⟩
    have hx' := hx.trans hx2
    clear hx hx2
    go_wp2_with fail
    go_ret
    exact ⟨_, rfl, by rw [show sortS [] = [] from by simp [sortS]]; exact Own.nil _ _ _ _ _, hx'⟩
  | some ad =>
    go_enter Try.func23, Try.ntmps23
    go_wp2_with fail
    refine (clone_some ad cap xs _ (by omega) HL.out).mono ?_
    rintro e w1 ⟨g, cap1, rfl, ho, hb⟩
    have HO := Lib.hid ho
    have HB := Lib.hid hb
    clear ho hb
    have hg : W.heap.size ≤ g := by
      rcases HO.out.2 with ⟨h, _⟩ | ⟨g', _, _, h, hb, _⟩
      · simp at h
      · simp at h; omega
    go_wp2_with fail
    refine (sortStable_any W.heap.size g xs.length cap1 xs _ (Ext.size HB.out) hg rfl (by omega) HO.out).mono ?_
    rintro e w2 ⟨rfl, hb2, ys, hyl, ⟨hs, hord⟩, ho2⟩
    have HO2 := Lib.hid ho2
    have HB2 := Lib.hid (HB.out.trans hb2)
    have HS := Lib.hid hs
    have HD := Lib.hid hord
    have HY := Lib.hid hyl
    clear ho2 hb2 hs hord hyl
    go_wp2_with fail
    go_ret
    have he : sortS xs = ys := (sortS_unique (Seg.perm HS.out) (Ordered.all HD.out HY.out)).symm
    exact ⟨_, rfl, by rw [he]; exact HO2.out, HB2.out⟩
end Go.Proofs.Ytllcekmbcmhckaa

/- The walks of span.Total, span.Apart, and of the reference's Total and Same. -/
set_option linter.unusedSimpArgs false
set_option linter.unusedVariables false
namespace Go.Proofs.Ytllcekmbcmhckaa
open Go.RowKit

def most62 : Int := 4611686018427387904
def addT (n : Int) (x : Int × Int) : Int := if mayB x.1 x.2 then min (n + x.2) most62 else n
def totalL (xs : List (Int × Int)) : Int := xs.foldl addT 0
theorem total_snoc {xs : List (Int × Int)} {k : Nat} (hk : k < xs.length) : totalL (xs.take (k + 1)) = addT (totalL (xs.take k)) (xs.getD k (0, 0)) := by
  unfold totalL
  rw [List.take_succ_eq_append_getElem hk, List.foldl_append]
  simp [List.getElem?_eq_getElem hk]
theorem addT_bd {n : Int} {x : Int × Int} (h : 0 ≤ n ∧ n ≤ most62) : 0 ≤ addT n x ∧ addT n x ≤ most62 := by
  unfold addT
  split
  · rename_i hm
    have := may_bd hm
    unfold most62 at *
    omega
  · exact h
theorem total_bd (xs : List (Int × Int)) : 0 ≤ totalL xs ∧ totalL xs ≤ most62 := by
  unfold totalL
  suffices ∀ (l : List (Int × Int)) (n : Int), 0 ≤ n ∧ n ≤ most62 → 0 ≤ l.foldl addT n ∧ l.foldl addT n ≤ most62 from this xs 0 (by unfold most62; omega)
  intro l
  induction l with
  | nil => exact fun n h => h
  | cons x l ih => exact fun n h => ih _ (addT_bd h)

set_option maxRecDepth 100000 in
set_option maxHeartbeats 1000000 in
theorem total_any (A : Option Addr) (cap : Nat) (xs : List (Int × Int)) (W : World) (hlen : xs.length ≤ 9223372036854775807) (hl : SpansAt W A xs) :
    Calls Try.prog 25 #[.slice A xs.length cap] W fun e w' => e = .returned (.int .i64 (totalL xs)) ∧ Ext W w' := by
  have HL := Lib.hid hl
  clear hl
  go_enter Try.func25, Try.ntmps25
  go_wp2_with fail
  go_loopw [3, 8] (fun n i wr => ∃ k : Nat, k ≤ xs.length ∧ i = .int .i64 k ∧ n = .int .i64 (totalL (xs.take k)) ∧ Ext W wr) (fun _ i _ => xs.length - (intOf i).toNat)
  case atStart => exact ⟨0, by omega, rfl, rfl, Ext.refl _⟩
  case round =>
    obtain ⟨k, hk, rfl, rfl, hxr⟩ := hrel
    by_cases hlt : k < xs.length
    rotate_left
    · go_wp2_with fail
      go_ret
      exact ⟨ret_int (by rw [List.take_of_length_le (by omega)]), hxr⟩
    obtain ⟨lb, off, rfl, hc⟩ := HL.out.get (by omega)
    obtain ⟨e1, e2⟩ := spans_cell hc hlt
    have E1 := Lib.hid e1
    have E2 := Lib.hid e2
    have c1 : ∀ w', Ext W w' → w'.cell? ⟨lb, off + k * 2, none⟩ = some (.int .i64 (xs.getD k (0, 0)).1) := fun w' h => h.cell E1.out
    have c2 : ∀ w', Ext W w' → w'.cell? ⟨lb, off + k * 2 + 1, none⟩ = some (.int .i64 (xs.getD k (0, 0)).2) := fun w' h => h.cell E2.out
    have HT := Lib.hid (total_snoc hlt)
    have hbd := total_bd (xs.take k)
    clear e1 e2 hc HL
    generalize xs.getD k (0, 0) = x at *
    obtain ⟨a, s⟩ := x
    simp only at c1 c2
    generalize totalL (xs.take k) = n at *
    obtain ⟨hb1, hb2⟩ := hbd
    unfold most62 at hb2
    have ib1 : (k : Int) < (xs.length : Int) := by omega
    go_wp2_with fail
    cases hm : mayB a s
    · refine (may_is a s _ hm _).mono ?_
      rintro e w1 ⟨rfl, hx1⟩
      have hx2 := (hxr.alloc _).trans hx1
      go_wp2_with fail
      go_roundw
      case rel => exact ⟨k + 1, by omega, by go_num, by rw [HT.out]; simp [addT, hm], hx2⟩
      case measure => simp [intOf]; omega
    · obtain ⟨q1, q2, q3, q4⟩ := may_bd hm
      refine (may_is a s _ hm _).mono ?_
      rintro e w1 ⟨rfl, hx1⟩
      have hx2 := (hxr.alloc _).trans hx1
      have k1 := boxed wr #[.int .i64 a, .int .i64 s] 23 1 (.int .i64 s) rfl w1 hx1
      go_wp2_with fail
      all_goals
        go_roundw
        case rel => exact ⟨k + 1, by omega, by go_num, by rw [HT.out]; simp only [addT, hm, if_true]; congr 1; unfold most62; omega, hx2⟩
        case measure => simp [intOf]; omega
end Go.Proofs.Ytllcekmbcmhckaa

/- The walks of span.Apart, and of the reference's Total and Same. -/
set_option linter.unusedSimpArgs false
set_option linter.unusedVariables false
namespace Go.Proofs.Ytllcekmbcmhckaa
open Go.RowKit

set_option maxRecDepth 100000 in
set_option maxHeartbeats 1000000 in
theorem reftotal_any (A : Option Addr) (cap : Nat) (xs : List (Int × Int)) (W : World) (hlen : xs.length ≤ 9223372036854775807) (hl : SpansAt W A xs) :
    Calls Try.prog 26 #[.slice A xs.length cap] W fun e w' => e = .returned (.int .i64 (totalL xs)) ∧ Ext W w' := by
  have HL := Lib.hid hl
  clear hl
  go_enter Try.func26, Try.ntmps26
  go_wp2_with fail
  go_loopw [3, 4] (fun n i wr => ∃ k : Nat, k ≤ xs.length ∧ i = .int .i64 k ∧ n = .int .i64 (totalL (xs.take k)) ∧ Ext W wr) (fun _ i _ => xs.length - (intOf i).toNat)
  case atStart => exact ⟨0, by omega, rfl, rfl, Ext.refl _⟩
  case round =>
    obtain ⟨k, hk, rfl, rfl, hxr⟩ := hrel
    by_cases hlt : k < xs.length
    rotate_left
    · go_wp2_with fail
      go_ret
      exact ⟨ret_int (by rw [List.take_of_length_le (by omega)]), hxr⟩
    obtain ⟨lb, off, rfl, hc⟩ := HL.out.get (by omega)
    obtain ⟨e1, e2⟩ := spans_cell hc hlt
    have E1 := Lib.hid e1
    have E2 := Lib.hid e2
    have c1 : ∀ w', Ext W w' → w'.cell? ⟨lb, off + k * 2, none⟩ = some (.int .i64 (xs.getD k (0, 0)).1) := fun w' h => h.cell E1.out
    have c2 : ∀ w', Ext W w' → w'.cell? ⟨lb, off + k * 2 + 1, none⟩ = some (.int .i64 (xs.getD k (0, 0)).2) := fun w' h => h.cell E2.out
    have HT := Lib.hid (total_snoc hlt)
    have hbd := total_bd (xs.take k)
    clear e1 e2 hc HL
    generalize xs.getD k (0, 0) = x at *
    obtain ⟨a, s⟩ := x
    simp only at c1 c2
    generalize totalL (xs.take k) = n at *
    obtain ⟨hb1, hb2⟩ := hbd
    unfold most62 at hb2
    have ib1 : (k : Int) < (xs.length : Int) := by omega
    go_wp2_with fail
    cases hm : mayB a s
    · refine (refmay_is a s _ hm _).mono ?_
      rintro e w1 ⟨rfl, hx1⟩
      have hx2 := hxr.trans hx1
      go_wp2_with fail
      go_roundw
      case rel => exact ⟨k + 1, by omega, by go_num, by rw [HT.out]; simp [addT, hm], hx2⟩
      case measure => simp [intOf]; omega
    · obtain ⟨q1, q2, q3, q4⟩ := may_bd hm
      refine (refmay_is a s _ hm _).mono ?_
      rintro e w1 ⟨rfl, hx1⟩
      have hx2 := hxr.trans hx1
      by_cases hgt : 4611686018427387904 < n + s
      all_goals
        go_wp2_with fail
        go_roundw
        case rel => exact ⟨k + 1, by omega, by go_num, by rw [HT.out]; simp only [addT, hm, if_true]; congr 1; unfold most62; omega, hx2⟩
        case measure => simp [intOf]; omega

theorem same_of {xs ys : List (Int × Int)} (hl : xs.length = ys.length) (h : ∀ i, i < xs.length → xs.getD i (0, 0) = ys.getD i (0, 0)) : xs = ys := by
  refine List.ext_getElem hl fun i h1 h2 => ?_
  have := h i h1
  simpa [List.getElem?_eq_getElem h1, List.getElem?_eq_getElem h2] using this

set_option maxRecDepth 100000 in
set_option maxHeartbeats 1000000 in
theorem refsame_any (A A2 : Option Addr) (cap cap2 : Nat) (xs ys : List (Int × Int)) (W : World) (hlen : xs.length ≤ 9223372036854775807) (hlen2 : ys.length ≤ 9223372036854775807) (hl : SpansAt W A xs) (hl2 : SpansAt W A2 ys) :
    Calls Try.prog 22 #[.slice A xs.length cap, .slice A2 ys.length cap2] W fun e w' => e = .returned (.bool (decide (xs = ys))) ∧ Ext W w' := by
  have HL := Lib.hid hl
  have HL2 := Lib.hid hl2
  clear hl hl2
  by_cases hne : xs.length = ys.length
  rotate_left
  · have h1 : ((xs.length : Int) != (ys.length : Int)) = true := by rw [bne_iff_ne]; omega
    have h2 : decide (xs = ys) = false := by simp; intro e; subst e; exact hne rfl
    have HR := Lib.hid h2
    clear h2 hne
    go_enter Try.func22, Try.ntmps22
    go_wp2_with fail
    go_ret
    exact ⟨ret_bool (by rw [HR.out]), Ext.refl _⟩
  have HN := Lib.hid hne
  have h1 : ((xs.length : Int) != (ys.length : Int)) = false := by rw [← HN.out]; simp
  clear hne
  go_enter Try.func22, Try.ntmps22
  go_wp2_with fail
  go_loopw [5] (fun i wr => ∃ k : Nat, k ≤ xs.length ∧ i = .int .i64 k ∧ Ext W wr ∧ Hid (∀ i, i < k → xs.getD i (0, 0) = ys.getD i (0, 0))) (fun i _ => xs.length - (intOf i).toNat)
  case atStart => exact ⟨0, by omega, rfl, Ext.refl _, Lib.hid (by omega)⟩
  case round =>
    obtain ⟨k, hk, rfl, hxr, hq⟩ := hrel
    by_cases hlt : k < xs.length
    rotate_left
    · have HR := Lib.hid (same_of HN.out (fun i hi => hq.out i (by omega)))
      clear hq
      go_wp2_with fail
      go_ret
      exact ⟨ret_bool (by simp [HR.out]), hxr⟩
    have hlt2 : k < ys.length := by have := HN.out; omega
    obtain ⟨lb, off, rfl, hc⟩ := HL.out.get (by omega)
    obtain ⟨lb2, off2, rfl, hc2⟩ := HL2.out.get (by omega)
    obtain ⟨e1, e2⟩ := spans_cell hc hlt
    obtain ⟨e3, e4⟩ := spans_cell hc2 hlt2
    have c1 := hxr.cell e1
    have c2 := hxr.cell e2
    have c3 := hxr.cell e3
    have c4 := hxr.cell e4
    have HS := Lib.hid (fun (h : xs.getD k (0, 0) = ys.getD k (0, 0)) => (fun i (hi : i < k + 1) => by
      rcases Nat.lt_or_ge i k with h' | h'
      · exact hq.out i h'
      · obtain rfl : i = k := by omega
        exact h : ∀ i, i < k + 1 → xs.getD i (0, 0) = ys.getD i (0, 0)))
    have HD := Lib.hid (fun (h : xs.getD k (0, 0) ≠ ys.getD k (0, 0)) => (fun e : xs = ys => h (by rw [e]) : xs ≠ ys))
    clear e1 e2 e3 e4 hc hc2 HL HL2 hq HN
    generalize xs.getD k (0, 0) = x at *
    generalize ys.getD k (0, 0) = y at *
    obtain ⟨a, s⟩ := x
    obtain ⟨c, d⟩ := y
    simp only at c1 c2 c3 c4
    have ib1 : (k : Int) < (xs.length : Int) := by omega
    have ib2 : (k : Int) < (ys.length : Int) := by omega
    have ib3 : (0 : Int) ≤ (k : Int) := by omega
    by_cases he : a = c ∧ s = d
    · obtain ⟨rfl, rfl⟩ := he
      go_wp2_with fail
      go_quiet (fail)
      go_wp2_with fail
      go_roundw
      case rel => exact ⟨k + 1, by omega, by go_num, hxr.drewN _, Lib.hid (HS.out (by first | rfl | trivial))⟩
      case measure => simp [intOf]; omega
    · have HE := Lib.hid (HD.out (by intro e; injection e with e1 e2; exact he ⟨e1, e2⟩))
      have hb : (a == c) = false ∨ (a = c ∧ (s == d) = false) := by
        by_cases h1 : a = c
        · exact .inr ⟨h1, by rw [beq_eq_false_iff_ne]; exact fun h => he ⟨h1, h⟩⟩
        · exact .inl (by rw [beq_eq_false_iff_ne]; exact h1)
      clear he HD HS
      rcases hb with hb | ⟨rfl, hb⟩
      all_goals
        go_wp2_with fail
        go_quiet (fail)
        go_wp2_with fail
        go_ret
        exact ⟨ret_bool (decide_eq_false HE.out).symm, hxr.drewN _⟩

/-- In a row in order: each may be, and none begins ahead of its forerunner's end. -/
def chainB (zs : List (Int × Int)) : Bool := decide (∀ i, i < zs.length → mayB (zs.getD i (0, 0)).1 (zs.getD i (0, 0)).2 = true ∧ ∀ j, j < i → j + 1 = i → (zs.getD j (0, 0)).1 + (zs.getD j (0, 0)).2 ≤ (zs.getD i (0, 0)).1)
theorem chain_yes {zs : List (Int × Int)} (h : ∀ i, i < zs.length → mayB (zs.getD i (0, 0)).1 (zs.getD i (0, 0)).2 = true ∧ ∀ j, j < i → j + 1 = i → (zs.getD j (0, 0)).1 + (zs.getD j (0, 0)).2 ≤ (zs.getD i (0, 0)).1) : chainB zs = true := decide_eq_true h
theorem chain_no1 {zs : List (Int × Int)} {i : Nat} (hi : i < zs.length) (h : mayB (zs.getD i (0, 0)).1 (zs.getD i (0, 0)).2 = false) : chainB zs = false :=
  decide_eq_false fun H => by rw [(H i hi).1] at h; cases h
theorem chain_no2 {zs : List (Int × Int)} {j : Nat} (hi : j + 1 < zs.length) (h : (zs.getD (j + 1) (0, 0)).1 < (zs.getD j (0, 0)).1 + (zs.getD j (0, 0)).2) : chainB zs = false :=
  decide_eq_false fun H => by have := (H (j + 1) hi).2 j (by omega) rfl; omega

theorem meets_symm (a s c d : Int) : meetsB a s c d = meetsB c d a s := by
  unfold meetsB
  cases mayB a s <;> cases mayB c d <;> simp [Bool.or_comm]
theorem apart_iff {xs : List (Int × Int)} : apartB xs = true ↔ (∀ x ∈ xs, mayB x.1 x.2 = true) ∧ xs.Pairwise (fun x y => meetsB x.1 x.2 y.1 y.2 = false) := by
  unfold apartB
  rw [decide_eq_true_iff]
  have gd : ∀ i (h : i < xs.length), xs.getD i (0, 0) = xs[i] := fun i h => by simp [List.getElem?_eq_getElem h]
  constructor
  · intro h
    refine ⟨fun x hx => ?_, List.pairwise_iff_getElem.2 fun i j hi hj hij => ?_⟩
    · obtain ⟨i, hi, rfl⟩ := List.getElem_of_mem hx
      have := (h i hi).1
      rwa [gd i hi] at this
    · have := (h j hj).2 i hij
      rwa [gd i hi, gd j hj, meets_symm] at this
  · rintro ⟨h1, h2⟩ i hi
    rw [gd i hi]
    refine ⟨h1 _ (List.getElem_mem hi), fun k hk => ?_⟩
    rw [gd k (by omega), meets_symm]
    exact List.pairwise_iff_getElem.1 h2 k i (by omega) hi hk

theorem chain_sort (xs : List (Int × Int)) : chainB (sortS xs) = apartB xs := by
  rw [Bool.eq_iff_iff, apart_iff]
  have hp := sortS_perm xs
  have hs := sortS_sorted xs
  have hsym : ∀ {x y : Int × Int}, meetsB x.1 x.2 y.1 y.2 = false → meetsB y.1 y.2 x.1 x.2 = false := fun h => by rw [meets_symm]; exact h
  rw [show (∀ x ∈ xs, mayB x.1 x.2 = true) ↔ (∀ x ∈ sortS xs, mayB x.1 x.2 = true) from ⟨fun h x hx => h x (hp.mem_iff.1 hx), fun h x hx => h x (hp.mem_iff.2 hx)⟩,
    ← hp.pairwise_iff hsym]
  generalize sortS xs = zs at *
  unfold chainB
  rw [decide_eq_true_iff]
  have gd : ∀ i (h : i < zs.length), zs.getD i (0, 0) = zs[i] := fun i h => by simp [List.getElem?_eq_getElem h]
  constructor
  · intro h
    have hm : ∀ i (h : i < zs.length), mayB zs[i].1 zs[i].2 = true := fun i hi => by have := (h i hi).1; rwa [gd i hi] at this
    have key : ∀ (d i : Nat) (hi : i + d + 1 < zs.length), zs[i].1 + zs[i].2 ≤ zs[i + d + 1].1 := by
      intro d
      induction d with
      | zero =>
        intro i hi
        have := (h (i + 1) hi).2 i (by omega) rfl
        rwa [gd i (by omega), gd (i + 1) hi] at this
      | succ d ih =>
        intro i hi
        have h1 := ih i (by omega)
        have h2 := (h (i + d + 1 + 1) (by omega)).2 (i + d + 1) (by omega) rfl
        rw [gd _ (by omega), gd _ (by omega)] at h2
        have h3 := may_bd (hm (i + d + 1) (by omega))
        have h4 : i + (d + 1) + 1 = i + d + 1 + 1 := by omega
        simp only [h4]
        omega
    refine ⟨fun x hx => ?_, List.pairwise_iff_getElem.2 fun i j hi hj hij => ?_⟩
    · obtain ⟨i, hi, rfl⟩ := List.getElem_of_mem hx
      exact hm i hi
    · obtain ⟨d, rfl⟩ : ∃ d, j = i + d + 1 := ⟨j - i - 1, by omega⟩
      have := key d i hj
      rw [meets_alt (hm i hi) (hm _ hj)]
      simp
      omega
  · rintro ⟨h1, h2⟩ i hi
    have hm : ∀ i (h : i < zs.length), mayB zs[i].1 zs[i].2 = true := fun i hi => h1 _ (List.getElem_mem hi)
    refine ⟨by rw [gd i hi]; exact hm i hi, fun j _ hj => ?_⟩
    subst hj
    rw [gd j (by omega), gd (j + 1) hi]
    have h3 := List.pairwise_iff_getElem.1 h2 j (j + 1) (by omega) hi (by omega)
    rw [meets_alt (hm j (by omega)) (hm _ hi)] at h3
    have h4 := List.pairwise_iff_getElem.1 hs j (j + 1) (by omega) hi (by omega)
    rw [leS_iff] at h4
    have h5 := may_bd (hm j (by omega))
    have h6 := may_bd (hm (j + 1) hi)
    simp at h3
    omega
end Go.Proofs.Ytllcekmbcmhckaa

/- The walk of span.Apart. -/
set_option linter.unusedSimpArgs false
set_option linter.unusedVariables false
namespace Go.Proofs.Ytllcekmbcmhckaa
open Go.RowKit

theorem RetS.open {w : World} {xs : List (Int × Int)} {e : Ending} {w' : World} (h : RetS w w.heap.size xs e w') : ∃ A cap, e = .returned (.slice A xs.length cap) ∧ SpansAt w' A xs ∧ Ext w w' := by
  obtain ⟨v, rfl, ho, hb⟩ := h
  obtain ⟨A, cap, rfl, hr, _⟩ := ho.form spanCells (by decide)
  exact ⟨A, cap, rfl, hr, hb⟩

set_option maxRecDepth 100000 in
set_option maxHeartbeats 4000000 in
theorem apart_any (A : Option Addr) (cap : Nat) (xs : List (Int × Int)) (V : World) (hlen : xs.length ≤ 1000000) (hl : SpansAt V A xs) :
    Calls Try.prog 27 #[.slice A xs.length cap] V fun e w' => e = .returned (.bool (apartB xs)) ∧ Ext V w' := by
  rw [← chain_sort]
  have HL := Lib.hid hl
  have hzl : (sortS xs).length ≤ 1000000 := by rw [sortS_length]; exact hlen
  clear hl
  generalize hz : sortS xs = zs at *
  have HZ := Lib.hid hz
  clear hz
  go_enter Try.func27, Try.ntmps27
  go_wp2_with fail
  refine (sort_any A cap xs _ hlen HL.out).mono ?_
  intro e W1 hret
  rw [HZ.out] at hret
  obtain ⟨A1, cap1, rfl, hr1, hx1⟩ := hret.open
  clear hret HL hlen HZ
  have HL := Lib.hid hr1
  clear hr1
  go_wp2_with fail
  go_loopw [10] (fun i wr => ∃ k : Nat, k ≤ zs.length ∧ i = .int .i64 k ∧ Ext W1 wr ∧ Hid (∀ i, i < k → mayB (zs.getD i (0, 0)).1 (zs.getD i (0, 0)).2 = true ∧ ∀ j, j < i → j + 1 = i → (zs.getD j (0, 0)).1 + (zs.getD j (0, 0)).2 ≤ (zs.getD i (0, 0)).1)) (fun i _ => zs.length - (intOf i).toNat)
  case atStart => exact ⟨0, by omega, rfl, Ext.refl _, Lib.hid (by omega)⟩
  case round =>
    obtain ⟨k, hk, rfl, hxr, hq⟩ := hrel
    by_cases hlt : k < zs.length
    rotate_left
    · go_wp2_with fail
      go_ret
      exact ⟨ret_bool (by rw [chain_yes (fun i hi => hq.out i (by omega))]), hx1.trans hxr⟩
    obtain ⟨lb, off, rfl, hc⟩ := HL.out.get (by omega)
    have HC := Lib.hid hc
    obtain ⟨e1, e2⟩ := spans_cell hc hlt
    have c1 := hxr.cell e1
    have c2 := hxr.cell e2
    have HN1 := Lib.hid (fun h => chain_no1 (zs := zs) (i := k) hlt h)
    have HP := Lib.hid (fun (h1 : mayB (zs.getD k (0, 0)).1 (zs.getD k (0, 0)).2 = true) (h2 : ∀ j, j < k → j + 1 = k → (zs.getD j (0, 0)).1 + (zs.getD j (0, 0)).2 ≤ (zs.getD k (0, 0)).1) =>
      (fun i (hi : i < k + 1) => by
        rcases Nat.lt_or_ge i k with h | h
        · exact hq.out i h
        · obtain rfl : i = k := by omega
          exact ⟨h1, h2⟩ : ∀ i, i < k + 1 → mayB (zs.getD i (0, 0)).1 (zs.getD i (0, 0)).2 = true ∧ ∀ j, j < i → j + 1 = i → (zs.getD j (0, 0)).1 + (zs.getD j (0, 0)).2 ≤ (zs.getD i (0, 0)).1))
    have ib1 : (k : Int) < (zs.length : Int) := by omega
    clear e1 e2 hc HL
    rcases k with _ | m
    · -- the first
      generalize zs.getD 0 (0, 0) = x at *
      obtain ⟨a, s⟩ := x
      simp only [Nat.zero_mul, Nat.add_zero] at c1 c2
      clear hq HC
      go_wp2_with fail
      have hW : Ext W1 (wr.alloc (.cells #[.int .i64 a, .int .i64 s] 23)) := hxr.alloc _
      have k0 := boxed wr #[.int .i64 a, .int .i64 s] 23 0 (.int .i64 a) rfl
      have k1 := boxed wr #[.int .i64 a, .int .i64 s] 23 1 (.int .i64 s) rfl
      generalize wr.alloc (.cells #[.int .i64 a, .int .i64 s] 23) = W at *
      have hs0 : Ext W W := Ext.refl W
      have l0 := fun u : ExtOf W => k0 u.1 u.2
      have l1 := fun u : ExtOf W => k1 u.1 u.2
      clear k0 k1 c1 c2 hxr
      cases hm : mayB a s
      · (refine wp_region_ext (W := W) (by kernel_rfl) (by kernel_rfl) (by with_reducible assumption) ?_; (repeat (go_big_quiet_step (first | (go_at_call 13; with_reducible exact Calls.ext_of (may_is a s _ hm _))))); refine wpQuiet_nil ?_; intro w1 hx)
        go_wp2_with fail
        go_ret
        exact ⟨ret_bool (by rw [HN1.out hm]), hx1.trans (hW.trans hx)⟩
      · (refine wp_region_ext (W := W) (by kernel_rfl) (by kernel_rfl) (by with_reducible assumption) ?_; (repeat (go_big_quiet_step (first | (go_at_call 13; with_reducible exact Calls.ext_of (may_is a s _ hm _))))); refine wpQuiet_nil ?_; intro w1 hx)
        go_wp2_with fail
        go_roundw
        case rel => exact ⟨0 + 1, by omega, by go_num, hW.trans hx, Lib.hid (HP.out hm (by omega))⟩
        case measure => simp [intOf]; omega
    · have hq1 := (hq.out m (by omega)).1
      obtain ⟨e3, e4⟩ := spans_cell HC.out (show m < zs.length by omega)
      have c3 := hxr.cell e3
      have c4 := hxr.cell e4
      have HN2 := Lib.hid (fun h => chain_no2 (zs := zs) (j := m) hlt h)
      have HP2 := Lib.hid (fun h1 (h2 : (zs.getD m (0, 0)).1 + (zs.getD m (0, 0)).2 ≤ (zs.getD (m + 1) (0, 0)).1) => HP.out h1 (fun j (_ : j < m + 1) (hj : j + 1 = m + 1) => (show j = m by omega) ▸ h2))
      clear e3 e4 hq HC HP
      generalize zs.getD (m + 1) (0, 0) = x at *
      generalize zs.getD m (0, 0) = y at *
      obtain ⟨a, s⟩ := x
      obtain ⟨c, d⟩ := y
      simp only at c1 c2 c3 c4 hq1
      have hcast : ((m + 1 : Nat) : Int) = (m : Int) + 1 := by omega
      rw [hcast]
      rw [hcast] at ib1
      clear hcast
      have HQ := Lib.hid hq1
      clear hq1
      go_wp2_with fail
      have hW : Ext W1 (wr.alloc (.cells #[.int .i64 a, .int .i64 s] 23)) := hxr.alloc _
      have k0 := boxed wr #[.int .i64 a, .int .i64 s] 23 0 (.int .i64 a) rfl
      have k1 := boxed wr #[.int .i64 a, .int .i64 s] 23 1 (.int .i64 s) rfl
      have k3 := Ext.cell ((Ext.refl wr).alloc (.cells #[.int .i64 a, .int .i64 s] 23)) c3
      have k4 := Ext.cell ((Ext.refl wr).alloc (.cells #[.int .i64 a, .int .i64 s] 23)) c4
      generalize wr.alloc (.cells #[.int .i64 a, .int .i64 s] 23) = W at *
      have hs0 : Ext W W := Ext.refl W
      have l0 := fun u : ExtOf W => k0 u.1 u.2
      have l1 := fun u : ExtOf W => k1 u.1 u.2
      have l3 := fun u : ExtOf W => u.2.cell k3
      have l4 := fun u : ExtOf W => u.2.cell k4
      clear k0 k1 c1 c2 c3 c4 k3 k4 hxr
      cases hm : mayB a s
      · (refine wp_region_ext (W := W) (by kernel_rfl) (by kernel_rfl) (by with_reducible assumption) ?_; (repeat (go_big_quiet_step (first | (go_at_call 13; with_reducible exact Calls.ext_of (may_is a s _ hm _))))); refine wpQuiet_nil ?_; intro w1 hx)
        go_wp2_with fail
        go_ret
        exact ⟨ret_bool (by rw [HN1.out hm]), hx1.trans (hW.trans hx)⟩
      · have hp : decide ((0 : Int) < (m : Int) + 1) = true := by simp; try omega
        have s1 : IntKind.i64.wrap ((m : Int) + 1 - 1) = (m : Int) := by rw [show (m : Int) + 1 - 1 = (m : Int) from by omega]; exact IntWalk.i64_in _ (by omega)
        have ib2 : (m : Int) < (zs.length : Int) := by omega
        have ib3 : (0 : Int) ≤ (m : Int) := by omega
        by_cases ht : a < c + d
        · have ht' : decide (a < c + d) = true := by simpa using ht
          (refine wp_region_ext (W := W) (by kernel_rfl) (by kernel_rfl) (by with_reducible assumption) ?_; (repeat (go_big_quiet_step (first | (go_at_call 13; with_reducible exact Calls.ext_of (may_is a s _ hm _)) | (go_at_call 58; with_reducible exact Calls.ext_of (end_is c d HQ.out _))))); refine wpQuiet_nil ?_; intro w1 hx)
          go_wp2_with fail
          go_ret
          exact ⟨ret_bool (by rw [HN2.out ht]), hx1.trans (hW.trans hx)⟩
        · have ht' : decide (a < c + d) = false := by simpa using ht
          (refine wp_region_ext (W := W) (by kernel_rfl) (by kernel_rfl) (by with_reducible assumption) ?_; (repeat (go_big_quiet_step (first | (go_at_call 13; with_reducible exact Calls.ext_of (may_is a s _ hm _)) | (go_at_call 58; with_reducible exact Calls.ext_of (end_is c d HQ.out _))))); refine wpQuiet_nil ?_; intro w1 hx)
          go_wp2_with fail
          go_roundw
          case rel => exact ⟨m + 1 + 1, by omega, by go_num, hW.trans hx, Lib.hid (HP2.out hm (by omega))⟩
          case measure => simp [intOf]; omega
end Go.Proofs.Ytllcekmbcmhckaa

