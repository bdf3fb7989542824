/- Merged by program (merge.py) out of: ExtB, StD, ExtC, ExtD, ExtE, LedA, ExtF. -/
import Derived.Shelf.Abstract
import Derived.Test.YtkcpfimhbogdcaaMo20
import Derived.Test.YtkcpfimhbogdcaaMo7
import Derived.Test.YtkcpfimhbogdcaaMo19
import Derived.Test.YtkcpfimhbogdcaaMo4
/- slices.Equal, IndexFunc and ContainsFunc at spans; extent.Largest and its reference. -/
set_option linter.unusedSimpArgs false
set_option linter.unusedVariables false
namespace Go.Proofs.Ytkcpfimhbogdcaa
open Go.RowKit Go.Shelf

set_option maxRecDepth 100000 in
set_option maxHeartbeats 4000000 in
theorem equal_any (A A2 : Option Addr) (cap cap2 : Nat) (xs ys : List (Int × Int)) (W : World) (hlen : xs.length ≤ 9223372036854775807) (hlen2 : ys.length ≤ 9223372036854775807) (hl : SpansAt W A xs) (hl2 : SpansAt W A2 ys) :
    Calls Try.prog 89 #[.slice A xs.length cap, .slice A2 ys.length cap2] W fun e w' => e = .returned (.bool (decide (xs = ys))) ∧ Ext W w' := by
  have HL := Lib.hid hl
  have HL2 := Lib.hid hl2
  clear hl hl2
  by_cases hne : xs.length = ys.length
  rotate_left
  · have h1 : ((xs.length : Int) != (ys.length : Int)) = true := by rw [bne_iff_ne]; omega
    have h2 : decide (xs = ys) = false := by simp; intro e; subst e; exact hne rfl
    have HR := Lib.hid h2
    clear h2 hne
    go_enter Try.func89, Try.ntmps89
    go_wp2_with fail
    go_ret
    exact ⟨ret_bool (by rw [HR.out]), Ext.refl _⟩
  have HN := Lib.hid hne
  have h1 : ((xs.length : Int) != (ys.length : Int)) = false := by rw [← HN.out]; simp
  clear hne
  go_enter Try.func89, Try.ntmps89
  go_wp2_with fail
  go_loopw [5, 13] (fun _ i wr => ∃ k : Nat, k ≤ xs.length ∧ i = .int .i64 k ∧ Ext W wr ∧ Hid (∀ i, i < k → xs.getD i (0, 0) = ys.getD i (0, 0))) (fun _ i _ => xs.length - (intOf i).toNat)
  case atStart => exact ⟨0, by omega, rfl, Ext.refl _, Lib.hid (by omega)⟩
  case round =>
    obtain ⟨k, hk, rfl, hxr, hq⟩ := hrel
    by_cases hlt : k < xs.length
    rotate_left
    · have HR := Lib.hid (same_of HN.out (fun i hi => hq.out i (by omega)))
      clear hq
      go_wp2_with fail
      go_ret
      exact ⟨ret_bool (by simp [HR.out]), hxr⟩
    have hlt2 : k < ys.length := by have := HN.out; omega
    obtain ⟨lb, off, rfl, hc⟩ := HL.out.get (by omega)
    obtain ⟨lb2, off2, rfl, hc2⟩ := HL2.out.get (by omega)
    obtain ⟨e1, e2⟩ := spans_cell hc hlt
    obtain ⟨e3, e4⟩ := spans_cell hc2 hlt2
    have c1 := hxr.cell e1
    have c2 := hxr.cell e2
    have c3 := hxr.cell e3
    have c4 := hxr.cell e4
    have HS := Lib.hid (fun (h : xs.getD k (0, 0) = ys.getD k (0, 0)) => (fun i (hi : i < k + 1) => by
      rcases Nat.lt_or_ge i k with h' | h'
      · exact hq.out i h'
      · obtain rfl : i = k := by omega
        exact h : ∀ i, i < k + 1 → xs.getD i (0, 0) = ys.getD i (0, 0)))
    have HD := Lib.hid (fun (h : xs.getD k (0, 0) ≠ ys.getD k (0, 0)) => (fun e : xs = ys => h (by rw [e]) : xs ≠ ys))
    clear e1 e2 e3 e4 hc hc2 HL HL2 hq HN
    generalize xs.getD k (0, 0) = x at *
    generalize ys.getD k (0, 0) = y at *
    obtain ⟨a, s⟩ := x
    obtain ⟨c, d⟩ := y
    simp only at c1 c2 c3 c4
    have ib1 : (k : Int) < (xs.length : Int) := by omega
    have ib2 : (k : Int) < (ys.length : Int) := by omega
    have ib3 : (0 : Int) ≤ (k : Int) := by omega
    by_cases he : a = c ∧ s = d
    · obtain ⟨rfl, rfl⟩ := he
      go_wp2_with fail
      go_quiet (fail)
      go_wp2_with fail
      go_roundw
      case rel => exact ⟨k + 1, by omega, by go_num, hxr.drewN _, Lib.hid (HS.out (by first | rfl | trivial))⟩
      case measure => simp [intOf]; omega
    · have HE := Lib.hid (HD.out (by intro e; injection e with e1 e2; exact he ⟨e1, e2⟩))
      have hb : (a == c) = false ∨ (a = c ∧ (s == d) = false) := by
        by_cases h1 : a = c
        · exact .inr ⟨h1, by rw [beq_eq_false_iff_ne]; exact fun h => he ⟨h1, h⟩⟩
        · exact .inl (by rw [beq_eq_false_iff_ne]; exact h1)
      clear he HD HS
      rcases hb with hb | ⟨rfl, hb⟩
      all_goals
        go_wp2_with fail
        go_quiet (fail)
        go_wp2_with fail
        go_ret
        exact ⟨ret_bool (decide_eq_false HE.out).symm, hxr.drewN _⟩

/-- The first place at which something is told. -/
def idxZ (p : Int × Int → Bool) (xs : List (Int × Int)) : Int := match xs.findIdx? p with
  | some i => i
  | none => -1
theorem idx_hit {p : Int × Int → Bool} {xs : List (Int × Int)} {k : Nat} (hk : k < xs.length) (h : p (xs.getD k (0, 0)) = true) (hq : ∀ i, i < k → p (xs.getD i (0, 0)) = false) : idxZ p xs = k := by
  have : xs.findIdx? p = some k := by
    rw [List.findIdx?_eq_some_iff_getElem]
    refine ⟨hk, by simpa [List.getElem?_eq_getElem hk] using h, fun j hj => ?_⟩
    have := hq j hj
    simpa [List.getElem?_eq_getElem (show j < xs.length by omega)] using this
  simp [idxZ, this]
theorem idx_miss {p : Int × Int → Bool} {xs : List (Int × Int)} (hq : ∀ i, i < xs.length → p (xs.getD i (0, 0)) = false) : idxZ p xs = -1 := by
  have : xs.findIdx? p = none := by
    rw [List.findIdx?_eq_none_iff]
    intro x hx
    obtain ⟨i, hi, rfl⟩ := List.getElem_of_mem hx
    simpa [List.getElem?_eq_getElem hi] using hq i hi
  simp [idxZ, this]
/-- Which way the first place is: there is one, or none. -/
theorem idx_cases (p : Int × Int → Bool) (xs : List (Int × Int)) : (idxZ p xs = -1 ∧ ∀ x ∈ xs, p x = false) ∨ ∃ k : Nat, k < xs.length ∧ idxZ p xs = k ∧ p (xs.getD k (0, 0)) = true ∧ ∀ i, i < k → p (xs.getD i (0, 0)) = false := by
  cases h : xs.findIdx? p with
  | none => exact .inl ⟨by simp [idxZ, h], List.findIdx?_eq_none_iff.1 h⟩
  | some k =>
    obtain ⟨hk, h1, h2⟩ := List.findIdx?_eq_some_iff_getElem.1 h
    refine .inr ⟨k, hk, by simp [idxZ, h], by simpa [List.getElem?_eq_getElem hk] using h1, fun i hi => ?_⟩
    have := h2 i hi
    simpa [List.getElem?_eq_getElem (show i < xs.length by omega)] using this
theorem idx_any (p : Int × Int → Bool) (xs : List (Int × Int)) : decide (0 ≤ idxZ p xs) = xs.any p := by
  rw [Bool.eq_iff_iff, List.any_eq_true]
  rcases idx_cases p xs with ⟨h, hq⟩ | ⟨k, hk, h, h1, _⟩
  · rw [h]
    refine ⟨fun h => by simp at h, fun ⟨x, hx, hp⟩ => by rw [hq x hx] at hp; cases hp⟩
  · rw [h]
    refine ⟨fun _ => ⟨xs[k], List.getElem_mem hk, by simpa [List.getElem?_eq_getElem hk] using h1⟩, fun _ => by simp⟩

/-- A function of a span that tells, in every world that has grown. -/
def Tells (g : Nat) (lb : Array Value) (p : Int × Int → Bool) (V : World) : Prop :=
  ∀ W (x : Int × Int), Ext V W → Calls Try.prog g (#[.agg #[.int .i64 (x.1), .int .i64 (x.2)]] ++ lb) W fun e w' => e = .returned (.bool (p x)) ∧ Ext W w'

set_option maxRecDepth 100000 in
set_option maxHeartbeats 4000000 in
theorem indexFunc_any (p : Int × Int → Bool) (g : Nat) (lb : Array Value) (eg : ∀ args w, (callFunc g args).run Try.prog w = .ok (.enter g args) w) (A : Option Addr) (cap : Nat) (xs : List (Int × Int)) (V : World) (hp : Tells g lb p V)
    (hlen : xs.length ≤ 9223372036854775807) (hl : SpansAt V A xs) :
    Calls Try.prog 139 #[.slice A xs.length cap, .func (.func g) #[] lb] V fun e w' => e = .returned (.int .i64 (idxZ p xs)) ∧ Ext V w' := by
  have HL := Lib.hid hl
  have HP := Lib.hid hp
  clear hl hp
  go_enter Try.func139, Try.ntmps139
  go_wp2_with fail
  go_loopw [5, 8] (fun _ i wr => ∃ k : Nat, k ≤ xs.length ∧ i = .int .i64 k ∧ Ext V wr ∧ Hid (∀ i, i < k → p (xs.getD i (0, 0)) = false)) (fun _ i _ => xs.length - (intOf i).toNat)
  case atStart => exact ⟨0, by omega, rfl, Ext.refl _, Lib.hid (by omega)⟩
  case round =>
    obtain ⟨k, hk, rfl, hxr, hq⟩ := hrel
    by_cases hlt : k < xs.length
    rotate_left
    · have HR := Lib.hid (idx_miss (p := p) (xs := xs) (fun i hi => hq.out i (by omega)))
      clear hq
      go_wp2_with fail
      go_ret
      exact ⟨ret_int (by rw [HR.out]), hxr⟩
    obtain ⟨lb', off, rfl, hc⟩ := HL.out.get (by omega)
    obtain ⟨e1, e2⟩ := spans_cell hc hlt
    have c1 := hxr.cell e1
    have c2 := hxr.cell e2
    have ib1 : (k : Int) < (xs.length : Int) := by omega
    have hcall := HP.out wr (xs.getD k (0, 0)) hxr
    clear e1 e2 hc HL HP
    cases hh : p (xs.getD k (0, 0))
    · have HQ : Hid (∀ i, i < k + 1 → p (xs.getD i (0, 0)) = false) := Lib.hid (fun i hi => by
        rcases Nat.lt_or_ge i k with h' | h'
        · exact hq.out i h'
        · obtain rfl : i = k := by omega
          exact hh)
      rw [hh] at hcall
      have HC := Lib.hid hcall
      clear hcall hh hq
      generalize xs.getD k (0, 0) = x at *
      obtain ⟨x1, x2⟩ := x
      simp only at c1 c2
      go_wp2_with (go_at_fn g; refine HC.out.mono ?_; rintro e w1 ⟨rfl, hx1⟩; replace hxr := hxr.trans hx1)
      go_roundw
      case rel => exact ⟨k + 1, by omega, by go_num, hxr, HQ⟩
      case measure => simp [intOf]; omega
    · have HQ := Lib.hid (idx_hit hlt hh hq.out)
      rw [hh] at hcall
      have HC := Lib.hid hcall
      clear hcall hh hq
      generalize xs.getD k (0, 0) = x at *
      obtain ⟨x1, x2⟩ := x
      simp only at c1 c2
      go_wp2_with (go_at_fn g; refine HC.out.mono ?_; rintro e w1 ⟨rfl, hx1⟩; replace hxr := hxr.trans hx1)
      go_ret
      exact ⟨ret_int (by rw [HQ.out]), hxr⟩
set_option maxRecDepth 100000 in
set_option maxHeartbeats 1000000 in
theorem containsFunc_any (p : Int × Int → Bool) (g : Nat) (lb : Array Value) (eg : ∀ args w, (callFunc g args).run Try.prog w = .ok (.enter g args) w) (A : Option Addr) (cap : Nat) (xs : List (Int × Int)) (V : World) (hp : Tells g lb p V)
    (hlen : xs.length ≤ 9223372036854775807) (hl : SpansAt V A xs) :
    Calls Try.prog 142 #[.slice A xs.length cap, .func (.func g) #[] lb] V fun e w' => e = .returned (.bool (xs.any p)) ∧ Ext V w' := by
  rw [← idx_any]
  have HL := Lib.hid hl
  have HP := Lib.hid hp
  clear hl hp
  go_enter Try.func142, Try.ntmps142
  go_wp2_with fail
  refine (indexFunc_any p g lb eg A cap xs _ HP.out hlen HL.out).mono ?_
  rintro e w1 ⟨rfl, hx⟩
  go_wp2_with fail
  go_ret
  exact ⟨rfl, hx⟩
end Go.Proofs.Ytkcpfimhbogdcaa

/- A heap as a datum: its value, where it reads; Copy, Same. -/
set_option linter.unusedSimpArgs false
set_option linter.unusedVariables false
namespace Go.Proofs.Ytkcpfimhbogdcaa
open Go.RowKit Go.Shelf

/-- A heap: its numbers, and its four slices. -/
structure StD where
  c0 : Int
  c1 : Int
  c2 : Int
  c3 : Int
  snd : Bool
  wA : Option Addr
  ws : List Int
  wc : Nat
  top : Int
  tA : Option Addr
  tb : List (Int × Int)
  tc : Nat
  fA : Option Addr
  fr : List (Int × Int)
  fc : Nat
  sA : Option Addr
  sl : List (Bool × Int × Int)
  sc : Nat
/-- It reads so. -/
structure StAt (W : World) (s : StD) : Prop where
  w : WordsAt W s.wA s.ws
  t : SpansAt W s.tA s.tb
  f : SpansAt W s.fA s.fr
  s : SlotsAt W s.sA s.sl
theorem StAt.ext {W W' : World} {s : StD} (h : StAt W s) (hx : Ext W W') : StAt W' s := ⟨h.w.ext hx, h.t.ext hx, h.f.ext hx, h.s.ext hx⟩
theorem StAt.pers {W : World} {s : StD} (h : StAt W s) : Pers W (fun w => StAt w s) := fun _ k => h.ext k
/-- It is not too large to be copied. -/
structure StLe (s : StD) : Prop where
  w : s.ws.length ≤ 98304
  t : s.tb.length ≤ 98304
  f : s.fr.length ≤ 98304
  s : s.sl.length ≤ 98304
/-- The same, but for where it lies. -/
def eqvS (a b : StD) : Bool := decide (a.c0 = b.c0 ∧ a.c1 = b.c1 ∧ a.c2 = b.c2 ∧ a.c3 = b.c3) && decide (a.snd = b.snd) && decide (a.top = b.top) && decide (a.ws = b.ws) && decide (a.tb = b.tb) && decide (a.fr = b.fr) && decide (a.sl = b.sl)
theorem eqvS_iff {a b : StD} : eqvS a b = true ↔ (a.c0 = b.c0 ∧ a.c1 = b.c1 ∧ a.c2 = b.c2 ∧ a.c3 = b.c3) ∧ a.snd = b.snd ∧ a.top = b.top ∧ a.ws = b.ws ∧ a.tb = b.tb ∧ a.fr = b.fr ∧ a.sl = b.sl := by
  simp [eqvS, and_assoc]
/-- Its slices are the call's own. -/
structure StOwn (B : Nat) (W : World) (s : StD) : Prop where
  w : Own 64 1 u64C W B (.slice s.wA s.ws.length s.wc) s.ws
  t : Own 23 2 spanC W B (.slice s.tA s.tb.length s.tc) s.tb
  f : Own 23 2 spanC W B (.slice s.fA s.fr.length s.fc) s.fr
  s : Own 66 3 slotC W B (.slice s.sA s.sl.length s.sc) s.sl
theorem StOwn.at {B : Nat} {W : World} {s : StD} (h : StOwn B W s) : StAt W s := ⟨(own_row h.w u64Cells (by decide)).1, (own_row h.t spanCells (by decide)).1, (own_row h.f spanCells (by decide)).1, (own_row h.s slotCells (by decide)).1⟩
theorem StOwn.ext {B : Nat} {W W' : World} {s : StD} (h : StOwn B W s) (hx : Ext W W') : StOwn B W' s := ⟨h.w.ext hx, h.t.ext hx, h.f.ext hx, h.s.ext hx⟩
theorem StOwn.mono {B B' : Nat} {W : World} {s : StD} (h : StOwn B W s) (hb : B' ≤ B) : StOwn B' W s := ⟨h.w.mono hb, h.t.mono hb, h.f.mono hb, h.s.mono hb⟩
/-- A copy comes back. -/
def RetS2 (V : World) (s : StD) (e : Ending) (w' : World) : Prop := ∃ t : StD, e = .returned (.agg #[.int .i64 t.c0, .int .i64 t.c1, .int .i64 t.c2, .int .i64 t.c3, .bool t.snd, .slice t.wA t.ws.length t.wc, .int .i64 t.top, .slice t.tA t.tb.length t.tc, .slice t.fA t.fr.length t.fc, .slice t.sA t.sl.length t.sc]) ∧ StOwn V.heap.size w' t ∧ eqvS t s = true ∧ Ext V w'
set_option maxRecDepth 100000
set_option maxHeartbeats 4000000
theorem scopy_any (s : StD) (V : World) (h : StAt V s) (hle : StLe s) : Calls Try.prog 32 #[.agg #[.int .i64 s.c0, .int .i64 s.c1, .int .i64 s.c2, .int .i64 s.c3, .bool s.snd, .slice s.wA s.ws.length s.wc, .int .i64 s.top, .slice s.tA s.tb.length s.tc, .slice s.fA s.fr.length s.fc, .slice s.sA s.sl.length s.sc]] V (RetS2 V s) := by
  obtain ⟨c0, c1, c2, c3, sn, wA, ws, wc, top, tA, tb, tc, fA, fr, fc, sA, sl, sc⟩ := s
  obtain ⟨hw, ht, hf, hs⟩ := h
  obtain ⟨l1, l2, l3, l4⟩ := hle
  simp only at hw ht hf hs l1 l2 l3 l4
  have HW := pers_row hw
  have HT := pers_row ht
  have HF := pers_row hf
  have HS := pers_row hs
  have hl : V.heap.size < V.heap.size + 1 := by omega
  clear hw ht hf hs
  have hB := pers_new2 V #[.int .i64 c0, .int .i64 c1, .int .i64 c2, .int .i64 c3, .bool sn, .slice wA ws.length wc, .int .i64 top, .slice tA tb.length tc, .slice fA fr.length fc, .slice sA sl.length sc] 56 _ rfl (.cells #[.int .i64 0, .int .i64 0, .int .i64 0, .int .i64 0, .bool false, .slice none 0 0, .int .i64 0, .slice none 0 0, .slice none 0 0, .slice none 0 0] 56)
  have hZ := pers_new (V.alloc (.cells #[.int .i64 c0, .int .i64 c1, .int .i64 c2, .int .i64 c3, .bool sn, .slice wA ws.length wc, .int .i64 top, .slice tA tb.length tc, .slice fA fr.length fc, .slice sA sl.length sc] 56)) #[.int .i64 0, .int .i64 0, .int .i64 0, .int .i64 0, .bool false, .slice none 0 0, .int .i64 0, .slice none 0 0, .slice none 0 0, .slice none 0 0] 56 (V.heap.size + 1) (by simp)
  have hX := ((Ext.refl V).alloc (.cells #[.int .i64 c0, .int .i64 c1, .int .i64 c2, .int .i64 c3, .bool sn, .slice wA ws.length wc, .int .i64 top, .slice tA tb.length tc, .slice fA fr.length fc, .slice sA sl.length sc] 56)).alloc (.cells #[.int .i64 0, .int .i64 0, .int .i64 0, .int .i64 0, .bool false, .slice none 0 0, .int .i64 0, .slice none 0 0, .slice none 0 0, .slice none 0 0] 56)
  go_enter Try.func32, Try.ntmps32
  go_wp2_with fail
  generalize (V.alloc (.cells #[.int .i64 c0, .int .i64 c1, .int .i64 c2, .int .i64 c3, .bool sn, .slice wA ws.length wc, .int .i64 top, .slice tA tb.length tc, .slice fA fr.length fc, .slice sA sl.length sc] 56)).alloc (.cells #[.int .i64 0, .int .i64 0, .int .i64 0, .int .i64 0, .bool false, .slice none 0 0, .int .i64 0, .slice none 0 0, .slice none 0 0, .slice none 0 0] 56) = W at *
  generalize hS : V.heap.size = S at *
  have HVS := Lib.hid hS
  clear hS
  have g1 := hB.cells
  have g2 := hB.frees
  have hxw := Ext.refl W
  have HX := Lib.hid hX
  have hWS : S ≤ W.heap.size := by have := hX.size; rw [HVS.out] at this; exact this
  (refine wp_region_seg (W := W) [([(0, true), (1, true), (3, true), (4, true)], 2), ([(6, true)], 5)] [] [7, 8, 9] (by kernel_rfl) (by kernel_rfl) (by intro c a d v w h; cases d <;> first | exact h | (cases h; done) | cases h.1.1 | cases h.1) (by with_reducible assumption) ?_; simp only [opsOf, List.map_cons, List.map_nil, List.getD_cons_zero, List.getD_cons_succ])
  ((first | refine seg_cons ?_ | refine seg_last ?_); (repeat (go_big_quiet_step (fail))); refine wpQuiet_nil ?_; intro w1 hx)
  ((refine seg_step ?_ ?_; (focus rfl); intro K hK; go_simp); refine (cloneU_any wA wc ws _ (by omega) (HW.at (hX.trans hx))).mono ?_; rintro e W1 ⟨A1, cap1, rfl, ho1, hx2⟩; refine hK W1 _ _ (hx.trans hx2) (Ext.refl _) ?_; have hz2 := hx.size; replace hx2 := hx.trans hx2; replace hB := hB.re hx2; replace hZ := hZ.re hx2; clear hK K hx)
  have HO1 := pers_own (ho1.mono (B' := S) (by omega))
  replace HX := Lib.hid (hX.trans hx2)
  have hW1 := hx2.size
  clear ho1 hx2 g1 g2 hxw hX
  have g1 := hB.cells
  have g2 := hB.frees
  ((first | refine seg_cons ?_ | refine seg_last ?_); (repeat (go_big_quiet_step (fail))); refine wpQuiet_nil ?_; intro w1 hx)
  ((refine seg_step ?_ ?_; (focus rfl); intro K hK; go_simp); refine (cloneSp_any tA tc tb _ (by omega) (HT.at (HX.out.trans hx))).mono ?_; rintro e W2 ⟨A2, cap2, rfl, ho2, hx2⟩; refine hK W2 _ _ (hx.trans hx2) (Ext.refl _) ?_; have hz2 := hx.size; replace hx2 := hx.trans hx2; replace hB := hB.re hx2; replace hZ := hZ.re hx2; replace HO1 := HO1.re hx2; clear hK K hx)
  have HO2 := pers_own (ho2.mono (B' := S) (by omega))
  replace HX := Lib.hid (HX.out.trans hx2)
  have hW2 := hx2.size
  clear ho2 hx2 g1 g2
  have g1 := hB.cells
  have g2 := hB.frees
  ((first | refine seg_cons ?_ | refine seg_last ?_); (repeat (go_big_quiet_step (fail))); refine wpQuiet_nil ?_; intro w1 hx)
  (obtain ⟨uq, rfl⟩ : ∃ u : ExtOf W2, w1 = u.1 := ⟨⟨w1, hx⟩, rfl⟩; clear hx; go_wp2_with fail)
  have hb4 : ((uq.1.setCell ⟨S, 5, none⟩ (.slice A1 ws.length cap1)).setCell ⟨S, 7, none⟩ (.slice A2 tb.length cap2)).heap[S]? = some (.cells #[.int .i64 c0, .int .i64 c1, .int .i64 c2, .int .i64 c3, .bool sn, .slice A1 ws.length cap1, .int .i64 top, .slice A2 tb.length cap2, .slice fA fr.length fc, .slice sA sl.length sc] 56 (0, 0)) := blk_set (blk_set (hB.at uq.2) _) _
  have hz4 := blk_set_other (c := S) (i := 7) (blk_set_other (c := S) (i := 5) (hZ.at uq.2) (.slice A1 ws.length cap1) (by omega)) (.slice A2 tb.length cap2) (by omega)
  have hx4 : Ext V ((uq.1.setCell ⟨S, 5, none⟩ (.slice A1 ws.length cap1)).setCell ⟨S, 7, none⟩ (.slice A2 tb.length cap2)) := ((HX.out.trans uq.2).setCell (by rw [HVS.out]; exact Nat.le_refl S) _).setCell (by rw [HVS.out]; exact Nat.le_refl S) _
  have ho1 := ((HO1.at uq.2).setOther (i := 5) (u := .slice A1 ws.length cap1) (hB.at uq.2) (by decide)).setOther (i := 7) (u := .slice A2 tb.length cap2) (blk_set (hB.at uq.2) _) (by decide)
  have ho2 := ((HO2.at uq.2).setOther (i := 5) (u := .slice A1 ws.length cap1) (hB.at uq.2) (by decide)).setOther (i := 7) (u := .slice A2 tb.length cap2) (blk_set (hB.at uq.2) _) (by decide)
  have hW4 : W2.heap.size ≤ ((uq.1.setCell ⟨S, 5, none⟩ (.slice A1 ws.length cap1)).setCell ⟨S, 7, none⟩ (.slice A2 tb.length cap2)).heap.size := by have := uq.2.size; simpa using this
  generalize (uq.1.setCell ⟨S, 5, none⟩ (.slice A1 ws.length cap1)).setCell ⟨S, 7, none⟩ (.slice A2 tb.length cap2) = W4 at *
  clear g1 g2 hB hZ HO1 HO2 HX
  have hB := pers_blk hb4
  have hZ := pers_blk hz4
  have HO1 := pers_own ho1
  have HO2 := pers_own ho2
  have HX := Lib.hid hx4
  have hxw := Ext.refl W4
  clear hb4 hz4 ho1 ho2 hx4
  have g1 := hB.cells
  have g2 := hB.frees
  (refine wp_region_seg (W := W4) [([(0, true), (1, true), (3, true), (4, true)], 2), ([(6, true)], 5)] [] [7, 8, 9] (by kernel_rfl) (by kernel_rfl) (by intro c a d v w h; cases d <;> first | exact h | (cases h; done) | cases h.1.1 | cases h.1) (by with_reducible assumption) ?_; simp only [opsOf, List.map_cons, List.map_nil, List.getD_cons_zero, List.getD_cons_succ])
  ((first | refine seg_cons ?_ | refine seg_last ?_); (repeat (go_big_quiet_step (fail))); refine wpQuiet_nil ?_; intro w1 hx)
  ((refine seg_step ?_ ?_; (focus rfl); intro K hK; go_simp); refine (cloneSp_any fA fc fr _ (by omega) (HF.at (HX.out.trans hx))).mono ?_; rintro e W5 ⟨A5, cap5, rfl, ho5, hx2⟩; refine hK W5 _ _ (hx.trans hx2) (Ext.refl _) ?_; have hz2 := hx.size; replace hx2 := hx.trans hx2; replace hB := hB.re hx2; replace hZ := hZ.re hx2; replace HO1 := HO1.re hx2; replace HO2 := HO2.re hx2; clear hK K hx)
  have HO5 := pers_own (ho5.mono (B' := S) (by omega))
  replace HX := Lib.hid (HX.out.trans hx2)
  have hW5 := hx2.size
  clear ho5 hx2 g1 g2 hxw
  have g1 := hB.cells
  have g2 := hB.frees
  ((first | refine seg_cons ?_ | refine seg_last ?_); (repeat (go_big_quiet_step (fail))); refine wpQuiet_nil ?_; intro w1 hx)
  ((refine seg_step ?_ ?_; (focus rfl); intro K hK; go_simp); refine (cloneSl_any sA sc sl _ (by omega) (HS.at (HX.out.trans hx))).mono ?_; rintro e W6 ⟨A6, cap6, rfl, ho6, hx2⟩; refine hK W6 _ _ (hx.trans hx2) (Ext.refl _) ?_; have hz2 := hx.size; replace hx2 := hx.trans hx2; replace hB := hB.re hx2; replace hZ := hZ.re hx2; replace HO1 := HO1.re hx2; replace HO2 := HO2.re hx2; replace HO5 := HO5.re hx2; clear hK K hx)
  have HO6 := pers_own (ho6.mono (B' := S) (by omega))
  replace HX := Lib.hid (HX.out.trans hx2)
  clear ho6 hx2 g1 g2
  have g1 := hB.cells
  have g2 := hB.frees
  have g3 := hZ.cells
  have g4 := hZ.frees
  ((first | refine seg_cons ?_ | refine seg_last ?_); (repeat (go_big_quiet_step (fail))); refine wpQuiet_nil ?_; intro w1 hx)
  (obtain ⟨uq, rfl⟩ : ∃ u : ExtOf W6, w1 = u.1 := ⟨⟨w1, hx⟩, rfl⟩; clear hx; go_wp2_with fail)
  have o1 := HO1.at uq.2
  have o2 := HO2.at uq.2
  have o5 := HO5.at uq.2
  have o6 := HO6.at uq.2
  have hb := hB.at uq.2
  have hz := hZ.at uq.2
  have hx := HX.out.trans uq.2
  ((try simp only [Exit.inBlock, Exit.then]); refine bodyPost_ret (v := .agg #[.int .i64 c0, .int .i64 c1, .int .i64 c2, .int .i64 c3, .bool sn, .slice A1 ws.length cap1, .int .i64 top, .slice A2 tb.length cap2, .slice A5 fr.length cap5, .slice A6 sl.length cap6]) (by simp only [results, Try.results32]; go_simp) rfl ?_)
  refine ⟨⟨c0, c1, c2, c3, sn, A1, ws, cap1, top, A2, tb, cap2, A5, fr, cap5, A6, sl, cap6⟩, rfl, ⟨?_, ?_, ?_, ?_⟩, ?_, ?_⟩
  · rw [HVS.out]
    have n1 := (o1.ne_block hb (by decide)).symm
    have n2 := (o1.ne_block hz (by decide)).symm
    repeat (first | with_reducible exact o1 | with_reducible refine Own.setNe ?_ n1 | with_reducible refine Own.setNe ?_ n2)
  · rw [HVS.out]
    have n1 := (o2.ne_block hb (by decide)).symm
    have n2 := (o2.ne_block hz (by decide)).symm
    repeat (first | with_reducible exact o2 | with_reducible refine Own.setNe ?_ n1 | with_reducible refine Own.setNe ?_ n2)
  · rw [HVS.out]
    have n1 := (o5.ne_block hb (by decide)).symm
    have n2 := (o5.ne_block hz (by decide)).symm
    repeat (first | with_reducible exact o5 | with_reducible refine Own.setNe ?_ n1 | with_reducible refine Own.setNe ?_ n2)
  · rw [HVS.out]
    have n1 := (o6.ne_block hb (by decide)).symm
    have n2 := (o6.ne_block hz (by decide)).symm
    repeat (first | with_reducible exact o6 | with_reducible refine Own.setNe ?_ n1 | with_reducible refine Own.setNe ?_ n2)
  · simp [eqvS]
  · have n1 : V.heap.size ≤ S := by rw [HVS.out]; exact Nat.le_refl _
    have n2 : V.heap.size ≤ S + 1 := by omega
    repeat (first | with_reducible exact hx | with_reducible refine Ext.setCell ?_ n1 _ | with_reducible refine Ext.setCell ?_ n2 _)
end Go.Proofs.Ytkcpfimhbogdcaa

/- extent.Largest and Right, and their reference. -/
set_option linter.unusedSimpArgs false
set_option linter.unusedVariables false
namespace Go.Proofs.Ytkcpfimhbogdcaa
open Go.RowKit Go.Shelf

def lgT (n : Int) (x : Int × Int) : Int := if mayB x.1 x.2 then max n x.2 else n
/-- How many words stand together. -/
def largestL (xs : List (Int × Int)) : Int := xs.foldl lgT 0
theorem largest_snoc {xs : List (Int × Int)} {k : Nat} (hk : k < xs.length) : largestL (xs.take (k + 1)) = lgT (largestL (xs.take k)) (xs.getD k (0, 0)) := by
  unfold largestL
  rw [List.take_succ_eq_append_getElem hk, List.foldl_append]
  simp [List.getElem?_eq_getElem hk]

/-- Whether free words may be. -/
def rightB (a s : Int) (xs : List (Int × Int)) : Bool := xs.all (fun x => withinB x.1 x.2 a s) && decide (joinL xs = xs)
theorem right_no {a s : Int} {xs : List (Int × Int)} {k : Nat} (hk : k < xs.length) (h : withinB (xs.getD k (0, 0)).1 (xs.getD k (0, 0)).2 a s = false) : rightB a s xs = false := by
  have : xs.all (fun x => withinB x.1 x.2 a s) = false := by
    rw [List.all_eq_false]
    exact ⟨xs[k], List.getElem_mem hk, by simpa [List.getElem?_eq_getElem hk] using h⟩
  simp [rightB, this]
theorem all_within {a s : Int} {xs : List (Int × Int)} (h : ∀ i, i < xs.length → withinB (xs.getD i (0, 0)).1 (xs.getD i (0, 0)).2 a s = true) : xs.all (fun x => withinB x.1 x.2 a s) = true := by
  rw [List.all_eq_true]
  intro x hx
  obtain ⟨i, hi, rfl⟩ := List.getElem_of_mem hx
  simpa [List.getElem?_eq_getElem hi] using h i hi
theorem right_all {a s : Int} {xs : List (Int × Int)} (h : ∀ i, i < xs.length → withinB (xs.getD i (0, 0)).1 (xs.getD i (0, 0)).2 a s = true) : rightB a s xs = decide (joinL xs = xs) := by
  rw [rightB, all_within h, Bool.true_and]
theorem within_may {a s c d : Int} (h : withinB a s c d = true) : mayB a s = true := by
  cases hm : mayB a s
  · rw [within_no1 hm] at h; cases h
  · rfl

theorem refwithin_is (a s c d : Int) (b : Bool) (h : withinB a s c d = b) (w : World) : Calls Try.prog 112 #[.agg #[.int .i64 (a), .int .i64 (s)], .agg #[.int .i64 (c), .int .i64 (d)]] w fun e w' => e = .returned (.bool b) ∧ Ext w w' := by
  rw [← h]; exact refwithin_any a s c d w
theorem equal_is (A A2 : Option Addr) (cap cap2 : Nat) (xs ys : List (Int × Int)) (n m : Nat) (b : Bool) (W : World) (hn : xs.length = n) (hm : ys.length = m) (hb : decide (xs = ys) = b) (hlen : n ≤ 1000000) (hlen2 : m ≤ 1000000) (hl : SpansAt W A xs) (hl2 : SpansAt W A2 ys) :
    Calls Try.prog 89 #[.slice A n cap, .slice A2 m cap2] W fun e w' => e = .returned (.bool b) ∧ Ext W w' := by
  subst hn hm hb
  exact equal_any A A2 cap cap2 xs ys W (by omega) (by omega) hl hl2

end Go.Proofs.Ytkcpfimhbogdcaa

/- extent.Take. -/
set_option linter.unusedSimpArgs false
set_option linter.unusedVariables false
namespace Go.Proofs.Ytkcpfimhbogdcaa
open Go.RowKit Go.Shelf

theorem clone_c (A : Option Addr) (cap : Nat) (xs : List (Int × Int)) (n : Nat) (V : World) (hn : xs.length = n) (hlen : n ≤ 1000000) (hl : SpansAt V A xs) :
    Calls Try.prog 86 #[.slice A n cap] V
      fun e w' => ∃ A2 cap2, e = .returned (.slice A2 n cap2) ∧ OwnS w' V.heap.size (.slice A2 n cap2) xs ∧ Ext V w' ∧ (0 < xs.length → ∃ g, A2 = some ⟨g, 0, none⟩) := by
  subst hn
  cases A with
  | none =>
    obtain rfl := row_none hl
    refine (clone_none cap V).mono ?_
    rintro e w' ⟨rfl, hx⟩
    exact ⟨none, 0, rfl, Own.nil _ _ _ _ _, hx, fun h => absurd h (by simp)⟩
  | some ad =>
    refine (clone_some ad cap xs V (by omega) hl).mono ?_
    rintro e w' ⟨g, cap2, rfl, ho, hx⟩
    exact ⟨_, _, rfl, ho, hx, fun _ => ⟨g, rfl⟩⟩
theorem Own.spans {w : World} {B : Nat} {A : Option Addr} {n cap : Nat} {xs : List (Int × Int)} (h : OwnS w B (.slice A n cap) xs) : SpansAt w A xs := by
  obtain ⟨_, _, e3, hrow3, _⟩ := h.form spanCells (by decide)
  obtain ⟨rfl, _, rfl⟩ : _ ∧ _ ∧ _ := by simpa only [Value.slice.injEq] using e3
  exact hrow3

theorem delete_c (B g cap i N : Nat) (j : Int) (xs : List (Int × Int)) (w : World) (hN : xs.length = N) (hi : i < N) (hj : j = (i + 1 : Nat)) (hB : B ≤ w.heap.size) (hO : OwnS w B (.slice (some ⟨g, 0, none⟩) N cap) xs) :
    Calls Try.prog 141 #[.slice (some ⟨g, 0, none⟩) N cap, .int .i64 i, .int .i64 j] w
      fun e w' => e = .returned (.slice (some ⟨g, 0, none⟩) (N - 1) cap) ∧ OwnS w' B (.slice (some ⟨g, 0, none⟩) (N - 1) cap) (xs.eraseIdx i) ∧ Below B w w' ∧ Only g w w' := by
  obtain ⟨k, rfl⟩ : ∃ k, N = i + k + 1 := ⟨N - (i + 1), by omega⟩
  exact delete_any B g cap i k j xs w hN hj hB hO

/-! ### Take -/
def takeP (n : Int) (x : Int × Int) : Bool := mayB x.1 x.2 && decide (n ≤ x.2)
set_option maxHeartbeats 1000000 in
theorem take1_tells (n : Int) (B : Nat) (V : World) (hc : V.cell? ⟨B, 0, none⟩ = some (.int .i64 n)) : Tells 140 #[.pointer (some ⟨B, 0, none⟩)] (takeP n) V := by
  intro W x hx
  obtain ⟨a, s⟩ := x
  have c1 := hx.cell hc
  clear hc
  show Calls Try.prog 140 #[.agg #[.int .i64 (a), .int .i64 (s)], .pointer (some ⟨B, 0, none⟩)] W _
  unfold takeP
  cases hm : mayB a s
  · go_enter Try.func140, Try.ntmps140
    go_wp2_with fail
    refine (may_is a s _ hm _).mono ?_
    rintro e w1 ⟨rfl, hx1⟩
    have hx2 := ((Ext.refl W).alloc (.cells #[.int .i64 a, .int .i64 s] 23)).trans hx1
    go_wp2_with fail
    go_ret
    exact ⟨ret_bool (by simp [hm]), hx2⟩
  · have hs : decide (s ≥ n) = decide (n ≤ s) := rfl
    go_enter Try.func140, Try.ntmps140
    go_wp2_with fail
    refine (may_is a s _ hm _).mono ?_
    rintro e w1 ⟨rfl, hx1⟩
    have hx2 := ((Ext.refl W).alloc (.cells #[.int .i64 a, .int .i64 s] 23)).trans hx1
    have k1 := boxed W #[.int .i64 a, .int .i64 s] 23 1 (.int .i64 s) rfl w1 hx1
    have k2 := hx2.cell c1
    go_wp2_with fail
    all_goals (go_ret; exact ⟨ret_bool (by simp [hm, *]), hx2⟩)
/-- What Take comes to. -/
def takeL (n : Int) (xs : List (Int × Int)) (k : Nat) : List (Int × Int) := if (gt xs k).2 = n then xs.eraseIdx k else xs.set k ((gt xs k).1 + n, (gt xs k).2 - n)
/-- The three results. -/
def TakeRes (n : Int) (xs : List (Int × Int)) (ys : List (Int × Int)) (p er : Int) : Prop :=
  (n < 1 ∧ ys = xs ∧ p = 0 ∧ er = 7) ∨ (1 ≤ n ∧ (∀ x ∈ xs, takeP n x = false) ∧ ys = xs ∧ p = 0 ∧ er = 9) ∨
  (1 ≤ n ∧ ∃ k, k < xs.length ∧ idxZ (takeP n) xs = k ∧ takeP n (gt xs k) = true ∧ ys = takeL n xs k ∧ p = (gt xs k).1 ∧ er = 0)
def TakePost (n : Int) (xs : List (Int × Int)) (V : World) (e : Ending) (w' : World) : Prop :=
  ∃ (ys : List (Int × Int)) (p er : Int) (m : Nat) (A2 : Option Addr) (cap2 : Nat), TakeRes n xs ys p er ∧ m = ys.length ∧ e = .returned (.tuple #[.slice A2 m cap2, .int .i64 p, .int .i64 er]) ∧ SpansAt w' A2 ys ∧ Ext V w'

def TakeOwn (n : Int) (xs : List (Int × Int)) (V : World) (e : Ending) (w' : World) : Prop :=
  ∃ (ys : List (Int × Int)) (p er : Int) (m : Nat) (A2 : Option Addr) (cap2 : Nat), TakeRes n xs ys p er ∧ m = ys.length ∧ e = .returned (.tuple #[.slice A2 m cap2, .int .i64 p, .int .i64 er]) ∧ OwnS w' V.heap.size (.slice A2 m cap2) ys ∧ Ext V w'
set_option maxRecDepth 100000 in
set_option maxHeartbeats 4000000 in
theorem take_own (A : Option Addr) (cap : Nat) (xs : List (Int × Int)) (n : Int) (V : World) (hlen : xs.length ≤ 1000000) (hl : SpansAt V A xs) :
    Calls Try.prog 103 #[.slice A xs.length cap, .int .i64 n] V (TakeOwn n xs V) := by
  have HL := Lib.hid hl
  clear hl
  have hV : Ext V (V.alloc (.cells #[.int .i64 n] 3)) := (Ext.refl V).alloc _
  have k0 := boxed V #[.int .i64 n] 3 0 (.int .i64 n) rfl
  go_enter Try.func103, Try.ntmps103
  go_wp2_with fail
  refine (clone_c A cap xs _ _ rfl hlen (HL.out.ext hV)).mono ?_
  rintro e W ⟨A2, cap2, rfl, ho, hx, hg⟩
  have HO := Lib.hid (ho.mono hV.size)
  have HX := Lib.hid (hV.trans hx)
  replace k0 := fun w' (h : Ext W w') => k0 w' (hx.trans h)
  have c0 := k0 W (Ext.refl W)
  clear ho hx hV HL
  by_cases h1 : n < 1
  · go_wp2_with fail
    go_ret3
    exact ⟨xs, 0, 7, _, A2, cap2, .inl ⟨h1, rfl, rfl, rfl⟩, rfl, rfl, HO.out, HX.out⟩
  have eg : ∀ args w, (callFunc 140 args).run Try.prog w = .ok (.enter 140 args) w := enters_of Try.func140 (by kernel_rfl) rfl
  go_wp2_with fail
  refine (indexFunc_any (takeP n) _ _ eg A2 cap2 xs W (take1_tells n _ W c0) (by omega) HO.out.spans).mono ?_
  rintro e w1 ⟨rfl, hx1⟩
  rcases idx_cases (takeP n) xs with ⟨hi, hno⟩ | ⟨k, hk, hi, hyes, hno⟩
  · rw [hi]
    go_wp2_with fail
    go_ret3
    exact ⟨xs, 0, 9, _, A2, cap2, .inr (.inl ⟨by omega, hno, rfl, rfl, rfl⟩), rfl, rfl, HO.out.ext hx1, HX.out.trans hx1⟩
  · have HI := Lib.hid hi
    have HY := Lib.hid hyes
    rw [hi]
    obtain ⟨g, rfl⟩ := hg (by omega)
    have HO1 := Lib.hid (HO.out.ext hx1)
    have HX1 := Lib.hid (HX.out.trans hx1)
    replace k0 := fun w' (h : Ext w1 w') => k0 w' (hx1.trans h)
    clear hg hi hyes hno HO HX c0 hx1 eg
    obtain ⟨d1, d2, d3, d4⟩ := OwnS.at HO1.out rfl hk
    have hm : mayB (gt xs k).1 (gt xs k).2 = true ∧ n ≤ (gt xs k).2 := by have := HY.out; simpa [takeP] using this
    obtain ⟨hm, hns⟩ := hm
    obtain ⟨q1, q2, q3, q4⟩ := may_bd hm
    clear hm
    obtain ⟨⟨a, s⟩, hgt⟩ : ∃ x, gt xs k = x := ⟨_, rfl⟩
    have HG := Lib.hid hgt
    rw [hgt] at d1 d2 hns q1 q2 q3 q4
    simp only at d1 d2 hns q1 q2 q3 q4
    clear hgt d3 d4
    have ib1 : (k : Int) < (xs.length : Int) := by omega
    have ib3 : (0 : Int) ≤ (k : Int) := by omega
    have hs0 : Ext w1 w1 := Ext.refl w1
    have l0 := fun u : ExtOf w1 => k0 u.1 u.2
    have l1 := fun u : ExtOf w1 => u.2.cell d1
    have l2 := fun u : ExtOf w1 => u.2.cell d2
    go_wp2_with fail
    (refine wp_region_ord (W := w1) [(0, true), (1, true), (2, true), (3, true), (4, true), (5, true), (6, true), (7, true), (8, true), (9, true), (10, true), (11, true), (12, true), (13, true)] [] [14] (by kernel_rfl) (by kernel_rfl) (by intro c a d v w h; cases d <;> first | exact h | (cases h; done) | cases h.1.1 | cases h.1) (by with_reducible assumption) ?_; simp only [opsOf, List.map_cons, List.map_nil, List.getD_cons_zero, List.getD_cons_succ]; (repeat (go_big_quiet_step (fail))); refine wpQuiet_nil ?_; intro w1 hx; refine mid_nil ?_)
    clear d1 d2 l0 l1 l2
    have HO2 := Lib.hid (HO1.out.ext hx)
    have HX2 := Lib.hid (HX1.out.trans hx)
    obtain ⟨d1, d2, d3, d4⟩ := OwnS.at HO2.out rfl hk
    rw [HG.out] at d1 d2
    simp only at d1 d2
    obtain ⟨p1, p2, p3, p4⟩ := Own.cap HO2.out
    have HO3 := Lib.hid (OwnS.store HO2.out rfl k (a + n) (s - n))
    have HX3 : Hid (Ext V ((w1.setCell ⟨g, k * 2, none⟩ (.int .i64 (a + n))).setCell ⟨g, k * 2 + 1, none⟩ (.int .i64 (s - n)))) := Lib.hid ((HX2.out.setCell p3 _).setCell p3 _)
    clear HO1 HX1 HO2 HX2 hx hs0 k0
    by_cases hsn : s = n
    · have hd : (s - n == 0) = true := by simp; omega
      have hz : s - n = 0 := by omega
      rw [hz] at HO3 HX3
      clear hz
      have hT : takeL n xs k = (xs.set k (a + n, 0)).eraseIdx k := by unfold takeL; rw [HG.out]; simp only [hsn, if_true]; rw [List.eraseIdx_set_eq]
      have HT := Lib.hid hT
      have HSZ : Hid (V.heap.size ≤ ((w1.setCell ⟨g, k * 2, none⟩ (.int .i64 (a + n))).setCell ⟨g, k * 2 + 1, none⟩ (.int .i64 (0))).heap.size) := Lib.hid HX3.out.size
      clear hT
      go_wp2_with fail
      generalize (w1.setCell ⟨g, k * 2, none⟩ (.int .i64 (a + n))).setCell ⟨g, k * 2 + 1, none⟩ (.int .i64 (0)) = W5 at *
      refine (delete_c V.heap.size g cap2 k xs.length ((k : Int) + 1) (xs.set k (a + n, 0)) W5 (by rw [List.length_set]) hk (by simp) HSZ.out HO3.out).mono ?_
      rintro e W6 ⟨rfl, hd1, hd2, _⟩
      have HD1 := Lib.hid hd1
      have HD2 := Lib.hid hd2
      clear hd1 hd2
      go_wp2_with fail
      go_ret3
      exact ⟨takeL n xs k, a, 0, xs.length - 1, _, cap2, .inr (.inr ⟨by omega, k, hk, HI.out, HY.out, rfl, by rw [HG.out], rfl⟩), by rw [HT.out, List.length_eraseIdx, List.length_set, if_pos hk], rfl, by rw [HT.out]; exact HD1.out, Below.trans HX3.out HD2.out⟩
    · have hd : (s - n == 0) = false := by simp; omega
      have hT : takeL n xs k = xs.set k (a + n, s - n) := by unfold takeL; rw [HG.out]; simp only [hsn, if_false]
      have HT := Lib.hid hT
      clear hT
      go_wp2_with fail
      go_ret3
      exact ⟨takeL n xs k, a, 0, xs.length, _, cap2, .inr (.inr ⟨by omega, k, hk, HI.out, HY.out, rfl, by rw [HG.out], rfl⟩), by rw [HT.out, List.length_set], rfl, by rw [HT.out]; exact HO3.out, HX3.out⟩
theorem take_any (A : Option Addr) (cap : Nat) (xs : List (Int × Int)) (n : Int) (V : World) (hlen : xs.length ≤ 1000000) (hl : SpansAt V A xs) :
    Calls Try.prog 103 #[.slice A xs.length cap, .int .i64 n] V (TakePost n xs V) :=
  (take_own A cap xs n V hlen hl).mono fun e w' ⟨ys, p, er, m, A2, cap2, h1, h2, h3, h4, h5⟩ => ⟨ys, p, er, m, A2, cap2, h1, h2, h3, h4.spans, h5⟩
end Go.Proofs.Ytkcpfimhbogdcaa

/- extent.Give. -/
set_option linter.unusedSimpArgs false
set_option linter.unusedVariables false
namespace Go.Proofs.Ytkcpfimhbogdcaa
open Go.RowKit Go.Shelf

def giveP (a s : Int) (x : Int × Int) : Bool := meetsB x.1 x.2 a s
set_option maxHeartbeats 1000000 in
theorem give1_tells (a s : Int) (B : Nat) (V : World) (hc : V.cell? ⟨B, 0, none⟩ = some (.int .i64 a)) (hd : V.cell? ⟨B, 1, none⟩ = some (.int .i64 s)) : Tells 148 #[.pointer (some ⟨B, 0, none⟩)] (giveP a s) V := by
  intro W x hx
  obtain ⟨c, d⟩ := x
  have c1 := hx.cell hc
  have c2 := hx.cell hd
  clear hc hd
  have k1 := boxed W #[.int .i64 c, .int .i64 d] 23 0 (.int .i64 c) rfl
  have k2 := boxed W #[.int .i64 c, .int .i64 d] 23 1 (.int .i64 d) rfl
  have hW : Ext W (W.alloc (.cells #[.int .i64 c, .int .i64 d] 23)) := (Ext.refl W).alloc _
  have c3 := hW.cell c1
  have c4 := hW.cell c2
  show Calls Try.prog 148 #[.agg #[.int .i64 (c), .int .i64 (d)], .pointer (some ⟨B, 0, none⟩)] W _
  unfold giveP
  go_enter Try.func148, Try.ntmps148
  go_wp2_with fail
  refine (meets_any c d a s _).mono ?_
  rintro e w1 ⟨rfl, hx1⟩
  have hx2 := hW.trans hx1
  go_wp2_with fail
  go_ret
  exact ⟨rfl, hx2⟩

/-- The two results. -/
def GiveRes (a s : Int) (xs : List (Int × Int)) (ys : List (Int × Int)) (er : Int) : Prop :=
  (mayB a s = false ∧ ys = xs ∧ er = 1) ∨ (mayB a s = true ∧ xs.any (giveP a s) = true ∧ ys = xs ∧ er = 16) ∨ (mayB a s = true ∧ xs.any (giveP a s) = false ∧ ys = joinL (xs ++ [(a, s)]) ∧ er = 0)
def GivePost (a s : Int) (xs : List (Int × Int)) (V : World) (e : Ending) (w' : World) : Prop :=
  ∃ (ys : List (Int × Int)) (er : Int) (m : Nat) (A2 : Option Addr) (cap2 : Nat), GiveRes a s xs ys er ∧ m = ys.length ∧ e = .returned (.tuple #[.slice A2 m cap2, .int .i64 er]) ∧ SpansAt w' A2 ys ∧ Ext V w'

def GiveOwn (a s : Int) (xs : List (Int × Int)) (V : World) (e : Ending) (w' : World) : Prop :=
  ∃ (ys : List (Int × Int)) (er : Int) (m : Nat) (A2 : Option Addr) (cap2 : Nat), GiveRes a s xs ys er ∧ m = ys.length ∧ e = .returned (.tuple #[.slice A2 m cap2, .int .i64 er]) ∧ OwnS w' V.heap.size (.slice A2 m cap2) ys ∧ Ext V w'
theorem join_o (A : Option Addr) (cap : Nat) (xs zs : List (Int × Int)) (n m : Nat) (V : World) (hn : xs.length = n) (hz : joinL xs = zs) (hm : zs.length = m) (hlen : n ≤ 1000000) (hl : SpansAt V A xs) :
    Calls Try.prog 25 #[.slice A n cap] V fun e w' => ∃ A2 cap2, e = .returned (.slice A2 m cap2) ∧ OwnS w' V.heap.size (.slice A2 m cap2) zs ∧ Ext V w' := by
  subst hn hz hm
  refine (join_any A cap xs V hlen hl).mono fun e w' h => ?_
  obtain ⟨v, rfl, ho, hb⟩ := h
  obtain ⟨A2, cap2, rfl, _⟩ := ho.form spanCells (by decide)
  exact ⟨A2, cap2, rfl, ho, hb⟩
set_option maxRecDepth 100000 in
set_option maxHeartbeats 4000000 in
theorem give_own (A : Option Addr) (cap : Nat) (xs : List (Int × Int)) (a s : Int) (V : World) (hlen : xs.length ≤ 400000) (hl : SpansAt V A xs) :
    Calls Try.prog 110 #[.slice A xs.length cap, .agg #[.int .i64 (a), .int .i64 (s)]] V (GiveOwn a s xs V) := by
  have hV : Ext V (V.alloc (.cells #[.int .i64 a, .int .i64 s] 23)) := (Ext.refl V).alloc _
  have k0 := boxed V #[.int .i64 a, .int .i64 s] 23 0 (.int .i64 a) rfl
  have k1 := boxed V #[.int .i64 a, .int .i64 s] 23 1 (.int .i64 s) rfl
  have HL := Lib.hid (hl.ext hV)
  clear hl
  obtain ⟨b, hm⟩ : ∃ b, mayB a s = b := ⟨_, rfl⟩
  have HM := Lib.hid hm
  clear hm
  go_enter Try.func110, Try.ntmps110
  go_wp2_with fail
  generalize V.alloc (.cells #[.int .i64 a, .int .i64 s] 23) = V1 at *
  refine (may_is a s b HM.out _).mono ?_
  rintro e W ⟨rfl, hx⟩
  replace k0 := fun w' (h : Ext W w') => k0 w' (hx.trans h)
  replace k1 := fun w' (h : Ext W w') => k1 w' (hx.trans h)
  have HX := Lib.hid (hV.trans hx)
  have HL1 := Lib.hid (HL.out.ext hx)
  have c0 := k0 W (Ext.refl W)
  have c1 := k1 W (Ext.refl W)
  clear hx hV HL
  cases b
  · go_wp2_with fail
    refine (clone_c A cap xs _ _ rfl (by omega) HL1.out).mono ?_
    rintro e w1 ⟨A2, cap2, rfl, ho, hx, hg⟩
    have HO := Lib.hid ho
    have HX1 := Lib.hid (HX.out.trans hx)
    clear ho hx hg
    go_wp2_with fail
    go_ret2
    exact ⟨xs, 1, _, A2, cap2, .inl ⟨HM.out, rfl, rfl⟩, rfl, rfl, HO.out.mono HX.out.size, HX1.out⟩
  · have eg : ∀ args w, (callFunc 148 args).run Try.prog w = .ok (.enter 148 args) w := enters_of Try.func148 (by kernel_rfl) rfl
    go_wp2_with fail
    refine (containsFunc_any (giveP a s) _ _ eg A cap xs W (give1_tells a s _ W c0 c1) (by omega) HL1.out).mono ?_
    rintro e W1 ⟨rfl, hx1⟩
    obtain ⟨b, hb⟩ : ∃ b, xs.any (giveP a s) = b := ⟨_, rfl⟩
    have HB := Lib.hid hb
    rw [hb]
    replace k0 := fun w' (h : Ext W1 w') => k0 w' (hx1.trans h)
    replace k1 := fun w' (h : Ext W1 w') => k1 w' (hx1.trans h)
    have HX1 := Lib.hid (HX.out.trans hx1)
    have HL2 := Lib.hid (HL1.out.ext hx1)
    clear hb eg HX HL1 c0 c1 hx1
    cases b
    · go_wp2_with fail
      have hs0 : Ext W1 W1 := Ext.refl _
      have l0 := fun u : ExtOf W1 => k0 u.1 u.2
      have l1 := fun u : ExtOf W1 => k1 u.1 u.2
      (refine wp_region_fork (W := W1) [(0, true), (2, true)] 1 [(1, [3]), (3, [1])] [4, 5, 6, 7] (by kernel_rfl) (by kernel_rfl) (by intro c a d v w h; cases d <;> first | exact h | (cases h; done) | cases h.1.1 | cases h.1) (by with_reducible assumption) ?_; simp only [opsOf, List.map_cons, List.map_nil, List.getD_cons_zero, List.getD_cons_succ]; (repeat (go_big_quiet_step (fail))); refine wpQuiet_nil ?_; refine all_two ?_ ?_ <;> (simp only [opsOf, List.map_cons, List.map_nil, List.getD_cons_zero, List.getD_cons_succ]; intro w1 hx))
      · (refine mid_step (by rfl) ?_; intro K hK; go_simp)
        refine (clone_c A cap xs _ w1 rfl (by omega) (HL2.out.ext hx)).mono ?_
        rintro e W3 ⟨A3, cap3, rfl, ho, hx3, hg⟩
        have hx4 : Ext W3 (W3.alloc (.cells #[.int .i64 a, .int .i64 s] 23)) := (Ext.refl _).alloc _
        have HO2 := Lib.hid ((ho.mono (show V.heap.size ≤ _ from (HX1.out.trans hx).size)).ext hx4)
        have HR : Hid (SpansAt (W3.alloc (.cells #[.int .i64 a, .int .i64 s] 23)) (some ⟨W3.heap.size, 0, none⟩) [(a, s)]) := Lib.hid (row_lit W3 _ rfl spanCells (by decide))
        have HX4 := Lib.hid (HX1.out.trans ((hx.trans hx3).trans hx4))
        refine hK _ _ (hx.trans hx3) ?_
        clear hK K
        (refine mid_step (by rfl) ?_; intro K hK; go_simp)
        refine hK _ _ ((hx.trans hx3).trans hx4) ?_
        clear ho hx3 hx4 hx hg
        generalize W3.alloc (.cells #[.int .i64 a, .int .i64 s] 23) = W4 at *
        generalize W3.heap.size = H at *
        clear hK K HL2 HX1 k0 k1 l0 l1 hs0
        refine mid_nil ?_
        go_wp2_with (at_builtin; refine wpList_app rfl (.tmp 17) (.tmp 19) 45 rfl spanInfo spanCells rfl (by exact HO2.out) [(a, s)] ⟨H, 0, none⟩ 1 (xs.length + 1) 1 (by simp) rfl rfl (by exact HR.out) (by omega) (by simp [maxLen]; omega) (by exact HX4.out.size) ?_; intro A4 cap4 W5 hown4 hgr4 hat4; have HO4 := Lib.hid hown4; have HX5 : Hid (Ext V W5) := Lib.hid (HO2.out.below HX4.out hgr4 HX4.out.size); clear hown4 hgr4 hat4)
        have hjl := joinL_length (xs ++ [(a, s)])
        refine (join_o A4 cap4 (xs ++ [(a, s)]) _ (xs.length + 1) _ W5 (by simp) rfl rfl (by omega) HO4.out.spans).mono ?_
        rintro e W6 ⟨A5, cap5, rfl, hj5, hx5⟩
        have HJ := Lib.hid (hj5.mono HX5.out.size)
        have HX6 : Hid (Ext V W6) := Lib.hid (Ext.trans HX5.out hx5)
        clear hj5 hx5 hjl
        go_wp2_with fail
        go_ret2
        exact ⟨joinL (xs ++ [(a, s)]), 0, _, A5, cap5, .inr (.inr ⟨HM.out, HB.out, rfl, rfl⟩), rfl, rfl, HJ.out, HX6.out⟩
      · (refine mid_step (by rfl) ?_; intro K hK; go_simp)
        have hx4 : Ext w1 (w1.alloc (.cells #[.int .i64 a, .int .i64 s] 23)) := (Ext.refl _).alloc _
        have HR0 : Hid (SpansAt (w1.alloc (.cells #[.int .i64 a, .int .i64 s] 23)) (some ⟨w1.heap.size, 0, none⟩) [(a, s)]) := Lib.hid (row_lit w1 _ rfl spanCells (by decide))
        replace hx4 := hx.trans hx4
        refine hK _ _ hx4 ?_
        clear hK K
        (refine mid_step (by rfl) ?_; intro K hK; go_simp)
        refine (clone_c A cap xs _ _ rfl (by omega) (HL2.out.ext hx4)).mono ?_
        rintro e W4 ⟨A3, cap3, rfl, ho, hx3, hg⟩
        have HO2 := Lib.hid (ho.mono (show V.heap.size ≤ _ from (HX1.out.trans hx4).size))
        have HR := Lib.hid (HR0.out.ext hx3)
        have HX4 := Lib.hid (HX1.out.trans (hx4.trans hx3))
        refine hK _ _ (hx4.trans hx3) ?_
        clear ho hx3 hx4 hx hg HR0
        generalize w1.heap.size = H at *
        clear hK K HL2 HX1 k0 k1 l0 l1 hs0
        refine mid_nil ?_
        go_wp2_with (at_builtin; refine wpList_app rfl (.tmp 17) (.tmp 19) 45 rfl spanInfo spanCells rfl (by exact HO2.out) [(a, s)] ⟨H, 0, none⟩ 1 (xs.length + 1) 1 (by simp) rfl rfl (by exact HR.out) (by omega) (by simp [maxLen]; omega) (by exact HX4.out.size) ?_; intro A4 cap4 W5 hown4 hgr4 hat4; have HO4 := Lib.hid hown4; have HX5 : Hid (Ext V W5) := Lib.hid (HO2.out.below HX4.out hgr4 HX4.out.size); clear hown4 hgr4 hat4)
        have hjl := joinL_length (xs ++ [(a, s)])
        refine (join_o A4 cap4 (xs ++ [(a, s)]) _ (xs.length + 1) _ W5 (by simp) rfl rfl (by omega) HO4.out.spans).mono ?_
        rintro e W6 ⟨A5, cap5, rfl, hj5, hx5⟩
        have HJ := Lib.hid (hj5.mono HX5.out.size)
        have HX6 : Hid (Ext V W6) := Lib.hid (Ext.trans HX5.out hx5)
        clear hj5 hx5 hjl
        go_wp2_with fail
        go_ret2
        exact ⟨joinL (xs ++ [(a, s)]), 0, _, A5, cap5, .inr (.inr ⟨HM.out, HB.out, rfl, rfl⟩), rfl, rfl, HJ.out, HX6.out⟩
    · go_wp2_with fail
      refine (clone_c A cap xs _ _ rfl (by omega) HL2.out).mono ?_
      rintro e w2 ⟨A2, cap2, rfl, ho, hx, hg⟩
      have HO := Lib.hid ho
      have HX2 := Lib.hid (HX1.out.trans hx)
      clear ho hx hg
      go_wp2_with fail
      go_ret2
      exact ⟨xs, 16, _, A2, cap2, .inr (.inl ⟨HM.out, HB.out, rfl, rfl⟩), rfl, rfl, HO.out.mono HX1.out.size, HX2.out⟩
theorem give_any (A : Option Addr) (cap : Nat) (xs : List (Int × Int)) (a s : Int) (V : World) (hlen : xs.length ≤ 400000) (hl : SpansAt V A xs) :
    Calls Try.prog 110 #[.slice A xs.length cap, .agg #[.int .i64 (a), .int .i64 (s)]] V (GivePost a s xs V) :=
  (give_own A cap xs a s V hlen hl).mono fun e w' ⟨ys, er, m, A2, cap2, h1, h2, h3, h4, h5⟩ => ⟨ys, er, m, A2, cap2, h1, h2, h3, h4.spans, h5⟩
end Go.Proofs.Ytkcpfimhbogdcaa

/- ledger.Find, Of, Drop. -/
set_option linter.unusedSimpArgs false
set_option linter.unusedVariables false
namespace Go.Proofs.Ytkcpfimhbogdcaa
open Go.RowKit Go.Shelf

def findP (q : Int) (x : Int × Int) : Bool := x.1 == q
def ofP (q : Int) (x : Int × Int) : Bool := hasB x.1 x.2 q
def addP (q : Int) (x : Int × Int) : Bool := decide (q < x.1)
set_option maxHeartbeats 1000000 in
theorem find1_tells (q : Int) (B : Nat) (V : World) (hc : V.cell? ⟨B, 0, none⟩ = some (.int .i64 q)) : Tells 146 #[.pointer (some ⟨B, 0, none⟩)] (findP q) V := by
  intro W x hx
  obtain ⟨c, d⟩ := x
  have c1 := hx.cell hc
  clear hc
  have hW : Ext W (W.alloc (.cells #[.int .i64 c, .int .i64 d] 23)) := (Ext.refl W).alloc _
  have c3 := hW.cell c1
  show Calls Try.prog 146 #[.agg #[.int .i64 (c), .int .i64 (d)], .pointer (some ⟨B, 0, none⟩)] W _
  unfold findP
  go_enter Try.func146, Try.ntmps146
  go_wp2_with fail
  go_ret
  exact ⟨rfl, hW⟩
set_option maxHeartbeats 1000000 in
theorem add1_tells (a s : Int) (B : Nat) (V : World) (hc : V.cell? ⟨B, 0, none⟩ = some (.int .i64 a)) (hd : V.cell? ⟨B, 1, none⟩ = some (.int .i64 s)) : Tells 143 #[.pointer (some ⟨B, 0, none⟩)] (giveP a s) V := by
  intro W x hx
  obtain ⟨c, d⟩ := x
  have c1 := hx.cell hc
  have c2 := hx.cell hd
  clear hc hd
  have k1 := boxed W #[.int .i64 c, .int .i64 d] 23 0 (.int .i64 c) rfl
  have k2 := boxed W #[.int .i64 c, .int .i64 d] 23 1 (.int .i64 d) rfl
  have hW : Ext W (W.alloc (.cells #[.int .i64 c, .int .i64 d] 23)) := (Ext.refl W).alloc _
  have c3 := hW.cell c1
  have c4 := hW.cell c2
  show Calls Try.prog 143 #[.agg #[.int .i64 (c), .int .i64 (d)], .pointer (some ⟨B, 0, none⟩)] W _
  unfold giveP
  go_enter Try.func143, Try.ntmps143
  go_wp2_with fail
  refine (meets_any c d a s _).mono ?_
  rintro e w1 ⟨rfl, hx1⟩
  have hx2 := hW.trans hx1
  go_wp2_with fail
  go_ret
  exact ⟨rfl, hx2⟩
set_option maxHeartbeats 1000000 in
theorem add2_tells (q : Int) (B : Nat) (V : World) (hc : V.cell? ⟨B, 0, none⟩ = some (.int .i64 q)) : Tells 144 #[.pointer (some ⟨B, 0, none⟩)] (addP q) V := by
  intro W x hx
  obtain ⟨c, d⟩ := x
  have c1 := hx.cell hc
  clear hc
  have hW : Ext W (W.alloc (.cells #[.int .i64 c, .int .i64 d] 23)) := (Ext.refl W).alloc _
  have c3 := hW.cell c1
  show Calls Try.prog 144 #[.agg #[.int .i64 (c), .int .i64 (d)], .pointer (some ⟨B, 0, none⟩)] W _
  unfold addP
  go_enter Try.func144, Try.ntmps144
  go_wp2_with fail
  go_ret
  exact ⟨rfl, hW⟩
set_option maxRecDepth 100000 in
set_option maxHeartbeats 1000000 in
theorem find_c (A : Option Addr) (cap : Nat) (xs : List (Int × Int)) (q z : Int) (n : Nat) (V : World) (hn : xs.length = n) (hz : idxZ (findP q) xs = z) (hlen : n ≤ 1000000) (hl : SpansAt V A xs) :
    Calls Try.prog 105 #[.slice A n cap, .int .i64 q] V fun e w' => e = .returned (.int .i64 z) ∧ Ext V w' := by
  subst hn hz
  have hV : Ext V (V.alloc (.cells #[.int .i64 q] 3)) := (Ext.refl V).alloc _
  have k0 := boxed V #[.int .i64 q] 3 0 (.int .i64 q) rfl _ (Ext.refl _)
  have HL := Lib.hid (hl.ext hV)
  clear hl
  have eg : ∀ args w, (callFunc 146 args).run Try.prog w = .ok (.enter 146 args) w := enters_of Try.func146 (by kernel_rfl) rfl
  go_enter Try.func105, Try.ntmps105
  go_wp2_with fail
  refine (indexFunc_any (findP q) _ _ eg A cap xs _ (find1_tells q _ _ k0) (by omega) HL.out).mono ?_
  rintro e w1 ⟨rfl, hx⟩
  go_wp2_with fail
  go_ret
  exact ⟨rfl, hV.trans hx⟩
end Go.Proofs.Ytkcpfimhbogdcaa

/- The reference of extent.Right. -/
set_option linter.unusedSimpArgs false
set_option linter.unusedVariables false
namespace Go.Proofs.Ytkcpfimhbogdcaa
open Go.RowKit Go.Shelf

theorem right_no2 {a s : Int} {xs : List (Int × Int)} {j : Nat} (hj : j + 1 < xs.length) (h : (xs.getD (j + 1) (0, 0)).1 ≤ (xs.getD j (0, 0)).1 + (xs.getD j (0, 0)).2) : rightB a s xs = false := by
  have : decide (joinL xs = xs) = false := by
    rw [decide_eq_false_iff_not]
    intro e
    have hp := (join_canon xs).apart
    rw [e, List.pairwise_iff_getElem] at hp
    have := hp j (j + 1) (by omega) hj (by omega)
    simp [List.getElem?_eq_getElem hj, List.getElem?_eq_getElem (show j < xs.length by omega)] at h
    omega
  rw [rightB, this, Bool.and_false]
theorem right_yes {a s : Int} {xs : List (Int × Int)} (h : ∀ i, i < xs.length → withinB (xs.getD i (0, 0)).1 (xs.getD i (0, 0)).2 a s = true ∧ ∀ j, j + 1 = i → (xs.getD j (0, 0)).1 + (xs.getD j (0, 0)).2 < (xs.getD i (0, 0)).1) : rightB a s xs = true := by
  rw [right_all fun i hi => (h i hi).1, decide_eq_true_eq]
  have hm : ∀ i, i < xs.length → mayB (xs.getD i (0, 0)).1 (xs.getD i (0, 0)).2 = true := fun i hi => within_may (h i hi).1
  have key : ∀ d i, i + d + 1 < xs.length → (xs.getD i (0, 0)).1 + (xs.getD i (0, 0)).2 < (xs.getD (i + d + 1) (0, 0)).1 := by
    intro d
    induction d with
    | zero => intro i hi; exact (h (i + 0 + 1) hi).2 i rfl
    | succ d ih =>
      intro i hi
      have h1 := ih i (by omega)
      have h2 := (h (i + d + 1 + 1) (by omega)).2 (i + d + 1) rfl
      have h3 := may_bd (hm (i + d + 1) (by omega))
      rw [show i + (d + 1) + 1 = i + d + 1 + 1 from by omega]
      omega
  have hmem : ∀ x ∈ xs, mayB x.1 x.2 = true := by
    intro x hx
    obtain ⟨i, hi, rfl⟩ := List.getElem_of_mem hx
    simpa [List.getElem?_eq_getElem hi] using hm i hi
  refine Canon.unique (join_canon xs) ⟨fun x hx => (may_bd (hmem x hx)).2.2.1, ?_, fun p => ?_⟩
  · rw [List.pairwise_iff_getElem]
    intro i j hi hj hij
    have := key (j - i - 1) i (by omega)
    rw [show i + (j - i - 1) + 1 = j from by omega] at this
    simpa [List.getElem?_eq_getElem hi, List.getElem?_eq_getElem hj] using this
  · rw [covered_iff]
    exact ⟨fun ⟨x, hx, hp⟩ => ⟨x, hx, hmem x hx, hp⟩, fun ⟨x, hx, _, hp⟩ => ⟨x, hx, hp⟩⟩

def RightTo (a s : Int) (xs : List (Int × Int)) (k : Nat) : Prop := ∀ i, i < k → withinB (xs.getD i (0, 0)).1 (xs.getD i (0, 0)).2 a s = true ∧ ∀ j, j + 1 = i → (xs.getD j (0, 0)).1 + (xs.getD j (0, 0)).2 < (xs.getD i (0, 0)).1
theorem RightTo.step {a s : Int} {xs : List (Int × Int)} {k : Nat} (h : RightTo a s xs k) (h1 : withinB (xs.getD k (0, 0)).1 (xs.getD k (0, 0)).2 a s = true) (h2 : ∀ j, j + 1 = k → (xs.getD j (0, 0)).1 + (xs.getD j (0, 0)).2 < (xs.getD k (0, 0)).1) : RightTo a s xs (k + 1) := fun i hi => by
  rcases Nat.lt_or_ge i k with h' | h'
  · exact h i h'
  · obtain rfl : i = k := by omega
    exact ⟨h1, h2⟩

end Go.Proofs.Ytkcpfimhbogdcaa

