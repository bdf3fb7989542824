/- The walks of slices' SortStableFunc and Clone at spans, and of span.Sort. -/
import Derived.Test.YtllcekmbcmhckaaSortH
import Derived.WalkSpells
import Derived.Lib.SliceRun
set_option linter.unusedSimpArgs false
set_option linter.unusedVariables false
namespace Go.Proofs.Ytllcekmbcmhckaa
open Go.RowKit

set_option maxHeartbeats 1000000 in
theorem sortStable_any (B g N cap : Nat) (xs : List (Int × Int)) (w : World) (hB : B ≤ w.heap.size) (hBg : B ≤ g) (hN : xs.length = N) (hN2 : N ≤ 4000000000000)
    (ho : OwnS w B (.slice (some ⟨g, 0, none⟩) N cap) xs) :
    Calls Try.prog 60 #[.slice (some ⟨g, 0, none⟩) N cap, .func (.func 61) #[] #[]] w
      (InPlace w B g N cap (fun ys => Seg 0 N xs ys ∧ Ordered 0 N ys)) := by
  have HO := Lib.hid ho
  have HN := Lib.hid hN
  clear ho hN
  go_enter Try.func60, Try.ntmps60
  go_wp2_with fail
  refine (stable_any B g N cap xs _ hB hBg HN.out hN2 HO.out).mono ?_
  rintro e w1 ⟨rfl, hb1, ys, hyl, hs1, hw1⟩
  have H1 := Lib.hid hw1
  have H2 := Lib.hid hyl
  have H3 := Lib.hid hb1
  have H4 := Lib.hid hs1
  clear hw1 hyl hb1 hs1
  go_wp2_with fail
  go_end0
  exact ⟨rfl, H3.out, ys, H2.out, H4.out, H1.out⟩

theorem Ordered.all {N : Nat} {ys : List (Int × Int)} (h : Ordered 0 N ys) (hl : ys.length = N) : ys.Pairwise (fun x y => leS x y = true) := by
  rw [List.pairwise_iff_getElem]
  intro i j hi hj hij
  have := h i j (by omega) hij (by omega)
  simpa [gt, List.getElem?_eq_getElem hi, List.getElem?_eq_getElem hj] using this
theorem insSort_nil (w : World) :
    Calls Try.prog 85 #[.slice none 0 0, .int .i64 0, .int .i64 0, .func (.func 61) #[] #[]] w fun e w' => e = .returned (.tuple #[]) ∧ Ext w w' := by
  go_enter Try.func85, Try.ntmps85
  go_wp2_with fail
  go_loopw [8] (fun i wr => i = .int .i64 1 ∧ Ext w wr) (fun _ _ => 0)
  case atStart => exact ⟨rfl, Ext.refl _⟩
  case round =>
    obtain ⟨rfl, hx⟩ := hrel
    go_wp2_with fail
    go_end0
    exact ⟨rfl, hx⟩

theorem stable_nil (w : World) :
    Calls Try.prog 79 #[.slice none 0 0, .int .i64 0, .func (.func 61) #[] #[]] w fun e w' => e = .returned (.tuple #[]) ∧ Ext w w' := by
  go_enter Try.func79, Try.ntmps79
  go_wp2_with fail
  go_loopw [7, 8] (fun a b wr => a = .int .i64 0 ∧ b = .int .i64 20 ∧ Ext w wr) (fun _ _ _ => 0)
  case atStart => exact ⟨rfl, rfl, Ext.refl _⟩
  case round =>
    obtain ⟨rfl, rfl, hx⟩ := hrel
    go_wp2_with fail
    refine (insSort_nil _).mono ?_
    rintro e w1 ⟨rfl, hx1⟩
    replace hx := hx.trans hx1
    clear hx1
    go_wp2_with fail
    go_loopw [6] (fun s wr => s = .int .i64 20 ∧ Ext w wr) (fun _ _ => 0)
    case atStart => exact ⟨rfl, hx⟩
    case round =>
      obtain ⟨rfl, hx⟩ := hrel
      go_wp2_with fail
      go_end0
      exact ⟨rfl, hx⟩

theorem sortStable_nil (w : World) :
    Calls Try.prog 60 #[.slice none 0 0, .func (.func 61) #[] #[]] w fun e w' => e = .returned (.tuple #[]) ∧ Ext w w' := by
  go_enter Try.func60, Try.ntmps60
  go_wp2_with fail
  refine (stable_nil _).mono ?_
  rintro e w1 ⟨rfl, hx⟩
  go_wp2_with fail
  go_end0
  exact ⟨rfl, hx⟩

/-- A slice that is nil reads as no elements. -/
theorem row_none {α : Type} {n : Nat} {f : α → List Value} {w : World} {xs : List α} (h : RowAt n f w none xs) : xs = [] := by
  obtain ⟨b, off, hA, _⟩ := h
  cases xs with
  | nil => rfl
  | cons x xs => exact absurd (hA (by simp)) (by simp)

set_option maxHeartbeats 1000000 in
theorem clone_none (cap : Nat) (W : World) :
    Calls Try.prog 59 #[.slice none 0 cap] W fun e w' => e = .returned (.slice none 0 0) ∧ Ext W w' := by
  have he := fun w => Lib.run_eql_slice_nil (P := Try.prog) w 29 23 none 0 cap 0 0 Try.underlying29
  simp only [Option.isNone_none] at he
  go_enter Try.func59, Try.ntmps59
  go_wp2_with fail
  go_ret
  exact ⟨rfl, Ext.refl _⟩
set_option maxHeartbeats 1000000 in
theorem clone_some (ad : Addr) (cap : Nat) (xs : List (Int × Int)) (W : World) (hlen : xs.length ≤ 4000000000000) (hl : SpansAt W (some ad) xs) :
    Calls Try.prog 59 #[.slice (some ad) xs.length cap] W fun e w' => ∃ g cap, e = .returned (.slice (some ⟨g, 0, none⟩) xs.length cap) ∧ OwnS w' W.heap.size (.slice (some ⟨g, 0, none⟩) xs.length cap) xs ∧ Below W.heap.size W w' := by
  have he := fun w => Lib.run_eql_slice_nil (P := Try.prog) w 29 23 (some ad) xs.length cap 0 0 Try.underlying29
  simp only [Option.isNone_some] at he
  have HL := Lib.hid hl
  clear hl
  go_enter Try.func59, Try.ntmps59
  go_wp2_with (at_builtin; refine wpList_app rfl (.tmp 5) (.tmp 6) 29 rfl spanInfo spanCells rfl (by exact Own.empty 23 2 spanC W W.heap.size (Nat.le_refl _)) xs ad cap xs.length xs.length (by simp) rfl rfl (by exact RowAt.ext HL.out ((Ext.refl _).alloc _)) (by omega) (by simp [maxLen]; try omega) (by simp) ?_; intro A3 cap3 w3 hown3 hgr3 hat3; have HO3 := Lib.hid hown3; have hX3 : Ext W w3 := Own.below (Own.empty 23 2 spanC W W.heap.size (Nat.le_refl _)) ((Below.refl _ _).alloc (Nat.le_refl _) _) hgr3 (by simp); have HT := Lib.hid hat3; clear hown3 hgr3 hat3)
  have hA : ∃ g, A3 = some ⟨g, 0, none⟩ := by
    rcases HO3.out.2 with ⟨h, _⟩ | ⟨g, _, _, h, _⟩
    · exfalso
      have := HT.out
      injection h with h1 h2 h3
      subst h1
      simp [Value.ownBlock, Act.eval] at this
    · injection h with h1 h2 h3
      exact ⟨g, h1⟩
  obtain ⟨g, rfl⟩ := hA
  go_ret
  exact ⟨g, cap3, rfl, by simpa using HO3.out, hX3⟩

set_option maxHeartbeats 1000000 in
theorem sort_any (A : Option Addr) (cap : Nat) (xs : List (Int × Int)) (W : World) (hlen : xs.length ≤ 1000000) (hl : SpansAt W A xs) :
    Calls Try.prog 23 #[.slice A xs.length cap] W (RetS W W.heap.size (sortS xs)) := by
  have HL := Lib.hid hl
  clear hl
  cases A with
  | none =>
    obtain rfl := row_none HL.out
    simp only [List.length_nil]
    go_enter Try.func23, Try.ntmps23
    go_wp2_with fail
    refine (clone_none _ _).mono ?_
    rintro e w1 ⟨rfl, hx⟩
    go_wp2_with fail
    refine (sortStable_nil _).mono ?_
    rintro e w2 ⟨rfl, hx2⟩
    have hx' := hx.trans hx2
    clear hx hx2
    go_wp2_with fail
    go_ret
    exact ⟨_, rfl, by rw [show sortS [] = [] from by simp [sortS]]; exact Own.nil _ _ _ _ _, hx'⟩
  | some ad =>
    go_enter Try.func23, Try.ntmps23
    go_wp2_with fail
    refine (clone_some ad cap xs _ (by omega) HL.out).mono ?_
    rintro e w1 ⟨g, cap1, rfl, ho, hb⟩
    have HO := Lib.hid ho
    have HB := Lib.hid hb
    clear ho hb
    have hg : W.heap.size ≤ g := by
      rcases HO.out.2 with ⟨h, _⟩ | ⟨g', _, _, h, hb, _⟩
      · simp at h
      · simp at h; omega
    go_wp2_with fail
    refine (sortStable_any W.heap.size g xs.length cap1 xs _ (Ext.size HB.out) hg rfl (by omega) HO.out).mono ?_
    rintro e w2 ⟨rfl, hb2, ys, hyl, ⟨hs, hord⟩, ho2⟩
    have HO2 := Lib.hid ho2
    have HB2 := Lib.hid (HB.out.trans hb2)
    have HS := Lib.hid hs
    have HD := Lib.hid hord
    have HY := Lib.hid hyl
    clear ho2 hb2 hs hord hyl
    go_wp2_with fail
    go_ret
    have he : sortS xs = ys := (sortS_unique (Seg.perm HS.out) (Ordered.all HD.out HY.out)).symm
    exact ⟨_, rfl, by rw [he]; exact HO2.out, HB2.out⟩
end Go.Proofs.Ytllcekmbcmhckaa
