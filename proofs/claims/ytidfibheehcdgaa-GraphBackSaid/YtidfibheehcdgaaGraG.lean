/- The reference's turn: values whose references lead to where nodes are now. -/
import Derived.Test.YtidfibheehcdgaaGraF
import Derived.Test.YtidfibheehcdgaaRange
set_option linter.unusedSimpArgs false
set_option linter.unusedVariables false
namespace Go.Proofs.Ytidfibheehcdgaa
open Go.RowKit Go.Shelf

def turned (o : List Int) (v : Int × Int) : Int × Int := if v.1 = 2 then (2, placeZ o v.2) else v
def lostV (o : List Int) (v : Int × Int) : Bool := decide (v.1 = 2 ∧ placeZ o v.2 < 0)
theorem map_snoc {α β : Type} {f : α → β} {l : List α} {d : α} {k : Nat} (hk : k < l.length) : (l.take (k + 1)).map f = (l.take k).map f ++ [f (l.getD k d)] := by
  rw [List.take_add_one, List.getElem?_eq_getElem hk, List.getD_eq_getElem?_getD, List.getElem?_eq_getElem hk]
  simp only [Option.toList_some, List.map_append, List.map_cons, List.map_nil, Option.getD_some]
theorem place_ge (l : List Int) (x : Int) : -1 ≤ placeZ l x ∧ placeZ l x < l.length := by
  rcases place_cases l x with ⟨h, _⟩ | ⟨k, hk, h, _⟩ <;> omega
theorem ret_slice_bool {a b : Value} {x y : Bool} (h : a = b) (h2 : x = y) : Ending.returned (.tuple #[a, .bool x]) = .returned (.tuple #[b, .bool y]) := by rw [h, h2]
def TurnRel (V : World) (l : List (Int × Int)) (o : List Int) (v i : Value) (wr : World) : Prop :=
  ∃ (k n : Nat) (A1 : Option Addr) (cap1 : Nat), k ≤ l.length ∧ i = .int .i64 k ∧ v = .slice A1 n cap1 ∧ n = k ∧ Own 46 2 spanC wr V.heap.size v ((l.take k).map (turned o)) ∧ Ext V wr ∧ ∀ i, i < k → lostV o (l.getD i (0, 0)) = false
def RetT (W : World) (l : List (Int × Int)) (o : List Int) (e : Ending) (w' : World) : Prop :=
  Ext W w' ∧ ((l.any (lostV o) = true ∧ e = .returned (.tuple #[.slice none 0 0, .bool false])) ∨
    (l.any (lostV o) = false ∧ ∃ A1 cap1, e = .returned (.tuple #[.slice A1 (l.map (turned o)).length cap1, .bool true]) ∧ Own 46 2 spanC w' W.heap.size (.slice A1 (l.map (turned o)).length cap1) (l.map (turned o))))
theorem lost_all {o : List Int} {l : List (Int × Int)} (h : ∀ i, i < l.length → lostV o (l.getD i (0, 0)) = false) : l.any (lostV o) = false := by
  rw [List.any_eq_false]
  intro x hx
  obtain ⟨i, hi, rfl⟩ := List.getElem_of_mem hx
  have := h i hi
  simpa [List.getElem?_eq_getElem hi] using this
theorem lost_one {o : List Int} {l : List (Int × Int)} {k : Nat} (hk : k < l.length) (h : lostV o (l.getD k (0, 0)) = true) : l.any (lostV o) = true := List.any_eq_true.2 ⟨_, getD_mem hk, h⟩
theorem retT_of {V w : World} {l : List (Int × Int)} {o : List Int} {A1 : Option Addr} {n cap1 : Nat} (hn : n = l.length) (hl : l.any (lostV o) = false) (ho : Own 46 2 spanC w V.heap.size (.slice A1 n cap1) (l.map (turned o))) (hx : Ext V w) :
    RetT V l o (.returned (.tuple #[.slice A1 n cap1, .bool true])) w := by
  subst hn
  exact ⟨hx, .inr ⟨hl, A1, cap1, by rw [List.length_map], by rw [List.length_map]; exact ho⟩⟩

set_option maxRecDepth 100000
set_option maxHeartbeats 4000000
theorem turn_any (A A2 : Option Addr) (cap cap2 : Nat) (l : List (Int × Int)) (o : List Int) (V : World) (hlen : l.length ≤ 8796093022208) (holen : o.length ≤ 9223372036854775807) (hl : SpansAt V A l) (ho : IntsAt V A2 o) :
    Calls Try.prog 32 #[.slice A l.length cap, .slice A2 o.length cap2] V (RetT V l o) := by
  have HL := Lib.hid hl
  have HO2 := Lib.hid ho
  clear hl ho
  go_enter Try.func32, Try.ntmps32
  go_wp2_with fail
  go_loopw [6, 7] (fun v i wr => TurnRel V l o v i wr) (fun _ i _ => l.length - (intOf i).toNat)
  case atStart => exact ⟨0, 0, none, 0, by omega, rfl, rfl, rfl, Own.nil _ _ _ _ _, Ext.refl _, by omega⟩
  case round =>
    obtain ⟨k, n, A1, cap1, hk, rfl, rfl, hnk, hown, hE, hq⟩ := hrel
    have HO := Lib.hid hown
    have HE := Lib.hid hE
    have HQ := Lib.hid hq
    have HN := Lib.hid hnk
    clear hown hq
    by_cases hlt : k < l.length
    rotate_left
    · obtain rfl : k = l.length := by omega
      clear hnk
      go_wp2_with fail
      go_ret2
      have ho := HO.out
      rw [List.take_length] at ho
      exact retT_of HN.out (lost_all HQ.out) ho hE
    obtain ⟨lb, off, rfl, hc⟩ := HL.out.get (by omega)
    obtain ⟨f1, f2⟩ := spans_cell hc hlt
    have c1 := HE.out.cell f1
    have c2 := HE.out.cell f2
    have HT := Lib.hid (map_snoc (f := turned o) (d := (0, 0)) hlt)
    have HL1 := Lib.hid (fun h => lost_one (o := o) hlt h)
    have HQ1 := Lib.hid (fun (h : lostV o (l.getD k (0, 0)) = false) => (fun i (hi : i < k + 1) => by
      rcases Nat.lt_or_ge i k with h' | h'
      · exact HQ.out i h'
      · obtain rfl : i = k := by omega
        exact h : ∀ i, i < k + 1 → lostV o (l.getD i (0, 0)) = false))
    have ib1 : (k : Int) < (l.length : Int) := by omega
    have ib0 : (0 : Int) ≤ (k : Int) := by omega
    have hsz : V.heap.size ≤ wr.heap.size := Ext.size HE.out
    have hnl : n < 8796093022208 := by omega
    clear hc f1 f2 hE hnk HQ
    generalize l.getD k (0, 0) = y at *
    obtain ⟨p, q⟩ := y
    simp only at c1 c2 HT
    by_cases hp : p = 2
    · subst hp
      have hpg := place_ge o q
      have HW := Lib.hid (show turned o (2, q) = (2, placeZ o q) by simp [turned])
      have HB := Lib.hid (show lostV o (2, q) = decide (placeZ o q < 0) by simp [lostV])
      go_wp2_with fail
      refine (place_any A2 cap2 o q _ holen (HO2.out.ext (HE.out.alloc _))).mono ?_
      rintro e w1 ⟨rfl, hx⟩
      generalize placeZ o q = z at *
      obtain ⟨z1, z2⟩ := hpg
      have hb : w1.heap[wr.heap.size]? = some (.cells #[.int .i64 2, .int .i64 q] 46 (0, 0)) := (hx.block (by simp)).trans (World.alloc_heap_new _ _)
      have HX := Lib.hid (HE.out.trans (((Ext.refl wr).alloc _).trans hx))
      by_cases hz : z < 0
      · have hd : decide (z < 0) = true := by simpa using hz
        have HR := Lib.hid (HL1.out (HB.out.trans hd))
        go_wp2_with fail
        go_ret2
        exact ⟨HX.out, .inl ⟨HR.out, rfl⟩⟩
      · have hd : decide (z < 0) = false := by simpa using hz
        have HR := Lib.hid (HQ1.out (HB.out.trans hd))
        have g0 : w1.cell? ⟨wr.heap.size, 0, none⟩ = some (.int .i64 2) := by simp [World.cell?, hb]
        have g1 : w1.cell? ⟨wr.heap.size, 1, none⟩ = some (.int .i64 q) := by simp [World.cell?, hb]
        have g2 : w1.frozen? ⟨wr.heap.size, 1, none⟩ = false := by simp [World.frozen?, hb]
        have HOw := Lib.hid (show Own 46 2 spanC (w1.setCell ⟨wr.heap.size, 1, none⟩ (.int .i64 z)) V.heap.size (.slice A1 n cap1) ((l.take k).map (turned o)) from
          (HO.out.ext (((Ext.refl wr).alloc _).trans hx)).same fun g cs t r hg hc => (Below.heap_setCell w1 ⟨wr.heap.size, 1, none⟩ _ g (fun e => by simp only at e; have := (World.ownsRow.lt HO.out g hg).2; omega)).trans hc)
        have HXS := Lib.hid (HX.out.setCell (p := ⟨wr.heap.size, 1, none⟩) hsz (.int .i64 z))
        have hsz2 : wr.heap.size < w1.heap.size := by have := Ext.size hx; simp at this; omega
        have HXX := Lib.hid hx
        clear hx hb HL1 HQ1
        go_wp2_with (at_builtin; refine wpList_app_lit rfl (.tmp 31) (.tmp 33) 23 rfl valInfo spanCells rfl (by exact HOw.out) [(2, z)] 1 _ rfl (n + 1) 1 (by rw [List.length_map, List.length_take]; have := HN.out; simp only [List.length_cons, List.length_nil]; omega) rfl _ rfl (by first | rfl | simp) (by omega) (by simp [maxLen]; try omega) (by simp; omega) ?_; intro A4 cap4 w4 hown4 hgr4 hat4; have HO4 := Lib.hid hown4; have hE4 : Ext V w4 := Own.below HOw.out (Below.alloc HXS.out (by simp; omega) _) hgr4 (by simp; omega); clear hown4 hgr4 hat4)
        go_roundw
        case rel => exact ⟨k + 1, n + 1, A4, cap4, by omega, by go_num, rfl, by have := HN.out; omega, by rw [HT.out, HW.out]; exact HO4.out, hE4, HR.out⟩
        case measure => simp [intOf]; omega
    · have hb : (p == 2) = false := by simpa using hp
      have HW := Lib.hid (show turned o (p, q) = (p, q) by simp [turned, hp])
      have HR := Lib.hid (HQ1.out (by simp [lostV, hp]))
      clear hp HL1 HQ1
      go_wp2_with (at_builtin; refine wpList_app_lit rfl (.tmp 31) (.tmp 33) 23 rfl valInfo spanCells rfl (by exact HO.out.ext ((Ext.refl _).alloc _)) [(p, q)] 1 _ rfl (n + 1) 1 (by rw [List.length_map, List.length_take]; have := HN.out; simp only [List.length_cons, List.length_nil]; omega) rfl _ rfl (by first | rfl | simp) (by omega) (by simp [maxLen]; try omega) (by simp; omega) ?_; intro A4 cap4 w4 hown4 hgr4 hat4; have HO4 := Lib.hid hown4; have hE4 : Ext V w4 := Own.below HO.out (Below.alloc (Below.alloc HE.out hsz _) (by simp; omega) _) hgr4 (by simp; omega); clear hown4 hgr4 hat4)
      go_roundw
      case rel => exact ⟨k + 1, n + 1, A4, cap4, by omega, by go_num, rfl, by have := HN.out; omega, by rw [HT.out, HW.out]; exact HO4.out, hE4, HR.out⟩
      case measure => simp [intOf]; omega
end Go.Proofs.Ytidfibheehcdgaa
