/- Merged by program (merge.py) out of: ExtC, ExtD, ExtE, LedA, Law03B, ExtF, StE, StDa. -/
import Derived.Test.YtkcpfimhbogdcaaGreatMz12
import Derived.Test.YtkcpfimhbogdcaaGreatMz4
/- extent.Largest and Right, and their reference. -/
set_option linter.unusedSimpArgs false
set_option linter.unusedVariables false
namespace Go.Proofs.YtkcpfimhbogdcaaGreat
open Go.RowKit Go.Shelf

def lgT (n : Int) (x : Int × Int) : Int := if mayB x.1 x.2 then max n x.2 else n
/-- How many words stand together. -/
def largestL (xs : List (Int × Int)) : Int := xs.foldl lgT 0
theorem largest_snoc {xs : List (Int × Int)} {k : Nat} (hk : k < xs.length) : largestL (xs.take (k + 1)) = lgT (largestL (xs.take k)) (xs.getD k (0, 0)) := by
  unfold largestL
  rw [List.take_succ_eq_append_getElem hk, List.foldl_append]
  simp [List.getElem?_eq_getElem hk]

/-- Whether free words may be. -/
def rightB (a s : Int) (xs : List (Int × Int)) : Bool := xs.all (fun x => withinB x.1 x.2 a s) && decide (joinL xs = xs)
theorem right_no {a s : Int} {xs : List (Int × Int)} {k : Nat} (hk : k < xs.length) (h : withinB (xs.getD k (0, 0)).1 (xs.getD k (0, 0)).2 a s = false) : rightB a s xs = false := by
  have : xs.all (fun x => withinB x.1 x.2 a s) = false := by
    rw [List.all_eq_false]
    exact ⟨xs[k], List.getElem_mem hk, by simpa [List.getElem?_eq_getElem hk] using h⟩
  simp [rightB, this]
theorem all_within {a s : Int} {xs : List (Int × Int)} (h : ∀ i, i < xs.length → withinB (xs.getD i (0, 0)).1 (xs.getD i (0, 0)).2 a s = true) : xs.all (fun x => withinB x.1 x.2 a s) = true := by
  rw [List.all_eq_true]
  intro x hx
  obtain ⟨i, hi, rfl⟩ := List.getElem_of_mem hx
  simpa [List.getElem?_eq_getElem hi] using h i hi
theorem right_all {a s : Int} {xs : List (Int × Int)} (h : ∀ i, i < xs.length → withinB (xs.getD i (0, 0)).1 (xs.getD i (0, 0)).2 a s = true) : rightB a s xs = decide (joinL xs = xs) := by
  rw [rightB, all_within h, Bool.true_and]
theorem within_may {a s c d : Int} (h : withinB a s c d = true) : mayB a s = true := by
  cases hm : mayB a s
  · rw [within_no1 hm] at h; cases h
  · rfl

theorem refwithin_is (a s c d : Int) (b : Bool) (h : withinB a s c d = b) (w : World) : Calls Tryz.prog 72 #[.agg #[.int .i64 (a), .int .i64 (s)], .agg #[.int .i64 (c), .int .i64 (d)]] w fun e w' => e = .returned (.bool b) ∧ Ext w w' := by
  rw [← h]; exact refwithin_any a s c d w
theorem equal_is (A A2 : Option Addr) (cap cap2 : Nat) (xs ys : List (Int × Int)) (n m : Nat) (b : Bool) (W : World) (hn : xs.length = n) (hm : ys.length = m) (hb : decide (xs = ys) = b) (hlen : n ≤ 1000000) (hlen2 : m ≤ 1000000) (hl : SpansAt W A xs) (hl2 : SpansAt W A2 ys) :
    Calls Tryz.prog 46 #[.slice A n cap, .slice A2 m cap2] W fun e w' => e = .returned (.bool b) ∧ Ext W w' := by
  subst hn hm hb
  exact equal_any A A2 cap cap2 xs ys W (by omega) (by omega) hl hl2

end Go.Proofs.YtkcpfimhbogdcaaGreat

/- extent.Take. -/
set_option linter.unusedSimpArgs false
set_option linter.unusedVariables false
namespace Go.Proofs.YtkcpfimhbogdcaaGreat
open Go.RowKit Go.Shelf

theorem clone_c (A : Option Addr) (cap : Nat) (xs : List (Int × Int)) (n : Nat) (V : World) (hn : xs.length = n) (hlen : n ≤ 1000000) (hl : SpansAt V A xs) :
    Calls Tryz.prog 43 #[.slice A n cap] V
      fun e w' => ∃ A2 cap2, e = .returned (.slice A2 n cap2) ∧ OwnS w' V.heap.size (.slice A2 n cap2) xs ∧ Ext V w' ∧ (0 < xs.length → ∃ g, A2 = some ⟨g, 0, none⟩) := by
  subst hn
  cases A with
  | none =>
    obtain rfl := row_none hl
    refine (clone_none cap V).mono ?_
    rintro e w' ⟨rfl, hx⟩
    exact ⟨none, 0, rfl, Own.nil _ _ _ _ _, hx, fun h => absurd h (by simp)⟩
  | some ad =>
    refine (clone_some ad cap xs V (by omega) hl).mono ?_
    rintro e w' ⟨g, cap2, rfl, ho, hx⟩
    exact ⟨_, _, rfl, ho, hx, fun _ => ⟨g, rfl⟩⟩
theorem Own.spans {w : World} {B : Nat} {A : Option Addr} {n cap : Nat} {xs : List (Int × Int)} (h : OwnS w B (.slice A n cap) xs) : SpansAt w A xs := by
  obtain ⟨_, _, e3, hrow3, _⟩ := h.form spanCells (by decide)
  obtain ⟨rfl, _, rfl⟩ : _ ∧ _ ∧ _ := by simpa only [Value.slice.injEq] using e3
  exact hrow3

def takeP (n : Int) (x : Int × Int) : Bool := mayB x.1 x.2 && decide (n ≤ x.2)
/-- What Take comes to. -/
def takeL (n : Int) (xs : List (Int × Int)) (k : Nat) : List (Int × Int) := if (gt xs k).2 = n then xs.eraseIdx k else xs.set k ((gt xs k).1 + n, (gt xs k).2 - n)
/-- The three results. -/
def TakeRes (n : Int) (xs : List (Int × Int)) (ys : List (Int × Int)) (p er : Int) : Prop :=
  (n < 1 ∧ ys = xs ∧ p = 0 ∧ er = 7) ∨ (1 ≤ n ∧ (∀ x ∈ xs, takeP n x = false) ∧ ys = xs ∧ p = 0 ∧ er = 9) ∨
  (1 ≤ n ∧ ∃ k, k < xs.length ∧ idxZ (takeP n) xs = k ∧ takeP n (gt xs k) = true ∧ ys = takeL n xs k ∧ p = (gt xs k).1 ∧ er = 0)
def TakePost (n : Int) (xs : List (Int × Int)) (V : World) (e : Ending) (w' : World) : Prop :=
  ∃ (ys : List (Int × Int)) (p er : Int) (m : Nat) (A2 : Option Addr) (cap2 : Nat), TakeRes n xs ys p er ∧ m = ys.length ∧ e = .returned (.tuple #[.slice A2 m cap2, .int .i64 p, .int .i64 er]) ∧ SpansAt w' A2 ys ∧ Ext V w'

end Go.Proofs.YtkcpfimhbogdcaaGreat

/- extent.Give. -/
set_option linter.unusedSimpArgs false
set_option linter.unusedVariables false
namespace Go.Proofs.YtkcpfimhbogdcaaGreat
open Go.RowKit Go.Shelf

def giveP (a s : Int) (x : Int × Int) : Bool := meetsB x.1 x.2 a s
/-- The two results. -/
def GiveRes (a s : Int) (xs : List (Int × Int)) (ys : List (Int × Int)) (er : Int) : Prop :=
  (mayB a s = false ∧ ys = xs ∧ er = 1) ∨ (mayB a s = true ∧ xs.any (giveP a s) = true ∧ ys = xs ∧ er = 16) ∨ (mayB a s = true ∧ xs.any (giveP a s) = false ∧ ys = joinL (xs ++ [(a, s)]) ∧ er = 0)
def GivePost (a s : Int) (xs : List (Int × Int)) (V : World) (e : Ending) (w' : World) : Prop :=
  ∃ (ys : List (Int × Int)) (er : Int) (m : Nat) (A2 : Option Addr) (cap2 : Nat), GiveRes a s xs ys er ∧ m = ys.length ∧ e = .returned (.tuple #[.slice A2 m cap2, .int .i64 er]) ∧ SpansAt w' A2 ys ∧ Ext V w'

end Go.Proofs.YtkcpfimhbogdcaaGreat

/- ledger.Find, Of, Drop. -/
set_option linter.unusedSimpArgs false
set_option linter.unusedVariables false
namespace Go.Proofs.YtkcpfimhbogdcaaGreat
open Go.RowKit Go.Shelf

def findP (q : Int) (x : Int × Int) : Bool := x.1 == q
def ofP (q : Int) (x : Int × Int) : Bool := hasB x.1 x.2 q
def addP (q : Int) (x : Int × Int) : Bool := decide (q < x.1)
end Go.Proofs.YtkcpfimhbogdcaaGreat

/- The walks of the laws SpanTells and SpanGaps. -/
set_option linter.unusedSimpArgs false
set_option linter.unusedVariables false
namespace Go.Proofs.YtkcpfimhbogdcaaGreat
open Go.RowKit

theorem refsame_is (A A2 : Option Addr) (cap cap2 : Nat) (xs ys : List (Int × Int)) (n m : Nat) (b : Bool) (W : World) (hn : xs.length = n) (hm : ys.length = m) (hb : decide (xs = ys) = b) (hlen : n ≤ 1000000) (hlen2 : m ≤ 1000000) (hl : SpansAt W A xs) (hl2 : SpansAt W A2 ys) :
    Calls Tryz.prog 74 #[.slice A n cap, .slice A2 m cap2] W fun e w' => e = .returned (.bool b) ∧ Ext W w' := by
  subst hn hm hb
  exact refsame_any A A2 cap cap2 xs ys W (by omega) (by omega) hl hl2
/-- What is left has not many pieces. -/
theorem gaps_len {a s : Int} {xs zs : List (Int × Int)} (h : GapsOf a s xs zs) : zs.length ≤ xs.length + 1 := by
  by_cases hm : mayB a s = true
  rotate_left
  · have : zs = [] := by
      cases zs with
      | nil => rfl
      | cons z zs =>
        have h1 := h.pos z (by simp)
        have := ((h.mem z.1).1 ⟨z, by simp, by omega, by omega⟩).1
        unfold hasB at this
        simp [hm] at this
    subst this; simp
  have hj := join_canon xs
  -- the joined spans that begin ahead of the end
  obtain ⟨pre, h1, h2, h3⟩ : ∃ pre, pre <+: joinL xs ∧ (∀ x ∈ pre, x.1 < a + s) ∧ (pre = joinL xs ∨ ∃ x, pre ++ [x] <+: joinL xs ∧ a + s ≤ x.1) := by
    suffices ∀ l : List (Int × Int), ∃ pre, pre <+: l ∧ (∀ x ∈ pre, x.1 < a + s) ∧ (pre = l ∨ ∃ x, pre ++ [x] <+: l ∧ a + s ≤ x.1) from this _
    intro l
    induction l with
    | nil => exact ⟨[], List.prefix_refl _, by simp, .inl rfl⟩
    | cons y l ih =>
      by_cases hy : y.1 < a + s
      · obtain ⟨pre, h1, h2, h3⟩ := ih
        refine ⟨y :: pre, by simpa using h1, fun x hx => ?_, ?_⟩
        · rw [List.mem_cons] at hx
          rcases hx with rfl | hx
          · exact hy
          · exact h2 x hx
        · rcases h3 with rfl | ⟨x, hx, hx2⟩
          · exact .inl rfl
          · exact .inr ⟨x, by simpa using hx, hx2⟩
      · exact ⟨[], List.nil_prefix, by simp, .inr ⟨y, by simp, by omega⟩⟩
  have hg := gaps_all hm hj h1 h2 h3
  have e := Canon.unique h hg
  rw [e]
  have h4 := foldG_len a pre
  have h5 := h1.length_le
  have h6 := joinL_length xs
  unfold restG
  split <;> simp <;> omega

end Go.Proofs.YtkcpfimhbogdcaaGreat

/- The reference of extent.Right. -/
set_option linter.unusedSimpArgs false
set_option linter.unusedVariables false
namespace Go.Proofs.YtkcpfimhbogdcaaGreat
open Go.RowKit Go.Shelf

theorem right_no2 {a s : Int} {xs : List (Int × Int)} {j : Nat} (hj : j + 1 < xs.length) (h : (xs.getD (j + 1) (0, 0)).1 ≤ (xs.getD j (0, 0)).1 + (xs.getD j (0, 0)).2) : rightB a s xs = false := by
  have : decide (joinL xs = xs) = false := by
    rw [decide_eq_false_iff_not]
    intro e
    have hp := (join_canon xs).apart
    rw [e, List.pairwise_iff_getElem] at hp
    have := hp j (j + 1) (by omega) hj (by omega)
    simp [List.getElem?_eq_getElem hj, List.getElem?_eq_getElem (show j < xs.length by omega)] at h
    omega
  rw [rightB, this, Bool.and_false]
theorem right_yes {a s : Int} {xs : List (Int × Int)} (h : ∀ i, i < xs.length → withinB (xs.getD i (0, 0)).1 (xs.getD i (0, 0)).2 a s = true ∧ ∀ j, j + 1 = i → (xs.getD j (0, 0)).1 + (xs.getD j (0, 0)).2 < (xs.getD i (0, 0)).1) : rightB a s xs = true := by
  rw [right_all fun i hi => (h i hi).1, decide_eq_true_eq]
  have hm : ∀ i, i < xs.length → mayB (xs.getD i (0, 0)).1 (xs.getD i (0, 0)).2 = true := fun i hi => within_may (h i hi).1
  have key : ∀ d i, i + d + 1 < xs.length → (xs.getD i (0, 0)).1 + (xs.getD i (0, 0)).2 < (xs.getD (i + d + 1) (0, 0)).1 := by
    intro d
    induction d with
    | zero => intro i hi; exact (h (i + 0 + 1) hi).2 i rfl
    | succ d ih =>
      intro i hi
      have h1 := ih i (by omega)
      have h2 := (h (i + d + 1 + 1) (by omega)).2 (i + d + 1) rfl
      have h3 := may_bd (hm (i + d + 1) (by omega))
      rw [show i + (d + 1) + 1 = i + d + 1 + 1 from by omega]
      omega
  have hmem : ∀ x ∈ xs, mayB x.1 x.2 = true := by
    intro x hx
    obtain ⟨i, hi, rfl⟩ := List.getElem_of_mem hx
    simpa [List.getElem?_eq_getElem hi] using hm i hi
  refine Canon.unique (join_canon xs) ⟨fun x hx => (may_bd (hmem x hx)).2.2.1, ?_, fun p => ?_⟩
  · rw [List.pairwise_iff_getElem]
    intro i j hi hj hij
    have := key (j - i - 1) i (by omega)
    rw [show i + (j - i - 1) + 1 = j from by omega] at this
    simpa [List.getElem?_eq_getElem hi, List.getElem?_eq_getElem hj] using this
  · rw [covered_iff]
    exact ⟨fun ⟨x, hx, hp⟩ => ⟨x, hx, hmem x hx, hp⟩, fun ⟨x, hx, _, hp⟩ => ⟨x, hx, hp⟩⟩

def RightTo (a s : Int) (xs : List (Int × Int)) (k : Nat) : Prop := ∀ i, i < k → withinB (xs.getD i (0, 0)).1 (xs.getD i (0, 0)).2 a s = true ∧ ∀ j, j + 1 = i → (xs.getD j (0, 0)).1 + (xs.getD j (0, 0)).2 < (xs.getD i (0, 0)).1
theorem RightTo.step {a s : Int} {xs : List (Int × Int)} {k : Nat} (h : RightTo a s xs k) (h1 : withinB (xs.getD k (0, 0)).1 (xs.getD k (0, 0)).2 a s = true) (h2 : ∀ j, j + 1 = k → (xs.getD j (0, 0)).1 + (xs.getD j (0, 0)).2 < (xs.getD k (0, 0)).1) : RightTo a s xs (k + 1) := fun i hi => by
  rcases Nat.lt_or_ge i k with h' | h'
  · exact h i h'
  · obtain rfl : i = k := by omega
    exact ⟨h1, h2⟩

end Go.Proofs.YtkcpfimhbogdcaaGreat

/- Two heaps held against one another: state.Same and its reference (written by mkste.py). -/
set_option linter.unusedSimpArgs false
set_option linter.unusedVariables false
namespace Go.Proofs.YtkcpfimhbogdcaaGreat
open Go.RowKit Go.Shelf

theorem equalWd_is (A A2 : Option Addr) (cap cap2 : Nat) (xs ys : List (Int)) (b : Bool) (h : decide (xs = ys) = b) (W : World) (hlen : xs.length ≤ 9223372036854775807) (hlen2 : ys.length ≤ 9223372036854775807) (hl : WordsAt W A xs) (hl2 : WordsAt W A2 ys) :
    Calls Tryz.prog 45 #[.slice A xs.length cap, .slice A2 ys.length cap2] W fun e w' => e = .returned (.bool b) ∧ Ext W w' := by
  rw [← h]; exact equalU_any A A2 cap cap2 xs ys W hlen hlen2 hl hl2
theorem equalSp_is (A A2 : Option Addr) (cap cap2 : Nat) (xs ys : List (Int × Int)) (b : Bool) (h : decide (xs = ys) = b) (W : World) (hlen : xs.length ≤ 9223372036854775807) (hlen2 : ys.length ≤ 9223372036854775807) (hl : SpansAt W A xs) (hl2 : SpansAt W A2 ys) :
    Calls Tryz.prog 46 #[.slice A xs.length cap, .slice A2 ys.length cap2] W fun e w' => e = .returned (.bool b) ∧ Ext W w' := by
  rw [← h]; exact equal_any A A2 cap cap2 xs ys W hlen hlen2 hl hl2
theorem equalSl_is (A A2 : Option Addr) (cap cap2 : Nat) (xs ys : List (Bool × Int × Int)) (b : Bool) (h : decide (xs = ys) = b) (W : World) (hlen : xs.length ≤ 9223372036854775807) (hlen2 : ys.length ≤ 9223372036854775807) (hl : SlotsAt W A xs) (hl2 : SlotsAt W A2 ys) :
    Calls Tryz.prog 47 #[.slice A xs.length cap, .slice A2 ys.length cap2] W fun e w' => e = .returned (.bool b) ∧ Ext W w' := by
  rw [← h]; exact equalSl_any A A2 cap cap2 xs ys W hlen hlen2 hl hl2
set_option maxRecDepth 100000
set_option maxHeartbeats 8000000
theorem ssame_any (a b : StD) (V : World) (ha : StAt V a) (hb : StAt V b) (la : StLe a) (lb : StLe b) : Calls Tryz.prog 17 #[.agg #[.int .i64 a.c0, .int .i64 a.c1, .int .i64 a.c2, .int .i64 a.c3, .bool a.snd, .slice a.wA a.ws.length a.wc, .int .i64 a.top, .slice a.tA a.tb.length a.tc, .slice a.fA a.fr.length a.fc, .slice a.sA a.sl.length a.sc], .agg #[.int .i64 b.c0, .int .i64 b.c1, .int .i64 b.c2, .int .i64 b.c3, .bool b.snd, .slice b.wA b.ws.length b.wc, .int .i64 b.top, .slice b.tA b.tb.length b.tc, .slice b.fA b.fr.length b.fc, .slice b.sA b.sl.length b.sc]] V fun e w' => e = .returned (.bool (eqvS a b)) ∧ Ext V w' := by
  obtain ⟨c0, c1, c2, c3, sn, wA, ws, wc, top, bA, bs, bc, fA, fs, fc, sA, ss, sc⟩ := a
  obtain ⟨d0, d1, d2, d3, sm, xA, xs, xc, tip, yA, ys, yc, gA, gs, gc, zA, zs, zc⟩ := b
  obtain ⟨hw, ht, hf, hs⟩ := ha
  obtain ⟨kw, kt, kf, ks⟩ := hb
  obtain ⟨l1, l2, l3, l4⟩ := la
  obtain ⟨m1, m2, m3, m4⟩ := lb
  simp only at hw ht hf hs l1 l2 l3 l4 kw kt kf ks m1 m2 m3 m4
  have HW := pers_row hw
  have HT := pers_row ht
  have HF := pers_row hf
  have HS := pers_row hs
  have KW := pers_row kw
  have KT := pers_row kt
  have KF := pers_row kf
  have KS := pers_row ks
  have hB := pers_new2 V #[.int .i64 c0, .int .i64 c1, .int .i64 c2, .int .i64 c3, .bool sn, .slice wA ws.length wc, .int .i64 top, .slice bA bs.length bc, .slice fA fs.length fc, .slice sA ss.length sc] 28 _ rfl (.cells #[.int .i64 d0, .int .i64 d1, .int .i64 d2, .int .i64 d3, .bool sm, .slice xA xs.length xc, .int .i64 tip, .slice yA ys.length yc, .slice gA gs.length gc, .slice zA zs.length zc] 28)
  have hC := pers_new (V.alloc (.cells #[.int .i64 c0, .int .i64 c1, .int .i64 c2, .int .i64 c3, .bool sn, .slice wA ws.length wc, .int .i64 top, .slice bA bs.length bc, .slice fA fs.length fc, .slice sA ss.length sc] 28)) #[.int .i64 d0, .int .i64 d1, .int .i64 d2, .int .i64 d3, .bool sm, .slice xA xs.length xc, .int .i64 tip, .slice yA ys.length yc, .slice gA gs.length gc, .slice zA zs.length zc] 28 (V.heap.size + 1) (by simp)
  have hX := ((Ext.refl V).alloc (.cells #[.int .i64 c0, .int .i64 c1, .int .i64 c2, .int .i64 c3, .bool sn, .slice wA ws.length wc, .int .i64 top, .slice bA bs.length bc, .slice fA fs.length fc, .slice sA ss.length sc] 28)).alloc (.cells #[.int .i64 d0, .int .i64 d1, .int .i64 d2, .int .i64 d3, .bool sm, .slice xA xs.length xc, .int .i64 tip, .slice yA ys.length yc, .slice gA gs.length gc, .slice zA zs.length zc] 28)
  have HX := Lib.hid hX
  (replace HW := HW.re hX; replace HT := HT.re hX; replace HF := HF.re hX; replace HS := HS.re hX; replace KW := KW.re hX; replace KT := KT.re hX; replace KF := KF.re hX; replace KS := KS.re hX)
  clear hw ht hf hs kw kt kf ks hX
  by_cases e0 : c0 = d0
  rotate_left
  · have HR : Hid (eqvS ⟨c0, c1, c2, c3, sn, wA, ws, wc, top, bA, bs, bc, fA, fs, fc, sA, ss, sc⟩ ⟨d0, d1, d2, d3, sm, xA, xs, xc, tip, yA, ys, yc, gA, gs, gc, zA, zs, zc⟩ = false) := Lib.hid (by rw [Bool.eq_false_iff]; intro h; have := eqvS_iff.1 h; simp only at this; exact e0 (by first | exact this.1.1 | exact this.1.2.1 | exact this.1.2.2.1 | exact this.1.2.2.2 | exact this.2.1 | exact this.2.2.1 | exact this.2.2.2.1 | exact this.2.2.2.2.1 | exact this.2.2.2.2.2.1 | exact this.2.2.2.2.2.2))
    have q1 : (c0 == d0) = false := by rw [beq_eq_false_iff_ne]; exact e0
    have q2 : (c0 != d0) = true := by rw [bne_iff_ne]; exact e0
    clear e0
    go_enter Tryz.func17, Tryz.ntmps17
    go_wp2_with fail
    generalize (V.alloc (.cells #[.int .i64 c0, .int .i64 c1, .int .i64 c2, .int .i64 c3, .bool sn, .slice wA ws.length wc, .int .i64 top, .slice bA bs.length bc, .slice fA fs.length fc, .slice sA ss.length sc] 28)).alloc (.cells #[.int .i64 d0, .int .i64 d1, .int .i64 d2, .int .i64 d3, .bool sm, .slice xA xs.length xc, .int .i64 tip, .slice yA ys.length yc, .slice gA gs.length gc, .slice zA zs.length zc] 28) = W at *
    generalize V.heap.size = S at *
    have g1 := hB.cells
    have g2 := hC.cells
    ((first | refine at_baseC (W := W) ?_ | refine at_base (W := W) ?_); intro uq; (try go_wp2_with fail))
    go_ret
    exact ⟨ret_bool HR.out.symm, HX.out.trans (ExtOf.ext _)⟩
  subst e0
  by_cases e1 : c1 = d1
  rotate_left
  · have HR : Hid (eqvS ⟨c0, c1, c2, c3, sn, wA, ws, wc, top, bA, bs, bc, fA, fs, fc, sA, ss, sc⟩ ⟨c0, d1, d2, d3, sm, xA, xs, xc, tip, yA, ys, yc, gA, gs, gc, zA, zs, zc⟩ = false) := Lib.hid (by rw [Bool.eq_false_iff]; intro h; have := eqvS_iff.1 h; simp only at this; exact e1 (by first | exact this.1.1 | exact this.1.2.1 | exact this.1.2.2.1 | exact this.1.2.2.2 | exact this.2.1 | exact this.2.2.1 | exact this.2.2.2.1 | exact this.2.2.2.2.1 | exact this.2.2.2.2.2.1 | exact this.2.2.2.2.2.2))
    have q1 : (c1 == d1) = false := by rw [beq_eq_false_iff_ne]; exact e1
    have q2 : (c1 != d1) = true := by rw [bne_iff_ne]; exact e1
    clear e1
    go_enter Tryz.func17, Tryz.ntmps17
    go_wp2_with fail
    generalize (V.alloc (.cells #[.int .i64 c0, .int .i64 c1, .int .i64 c2, .int .i64 c3, .bool sn, .slice wA ws.length wc, .int .i64 top, .slice bA bs.length bc, .slice fA fs.length fc, .slice sA ss.length sc] 28)).alloc (.cells #[.int .i64 c0, .int .i64 d1, .int .i64 d2, .int .i64 d3, .bool sm, .slice xA xs.length xc, .int .i64 tip, .slice yA ys.length yc, .slice gA gs.length gc, .slice zA zs.length zc] 28) = W at *
    generalize V.heap.size = S at *
    have g1 := hB.cells
    have g2 := hC.cells
    ((first | refine at_baseC (W := W) ?_ | refine at_base (W := W) ?_); intro uq; (try go_wp2_with fail))
    go_ret
    exact ⟨ret_bool HR.out.symm, HX.out.trans (ExtOf.ext _)⟩
  subst e1
  by_cases e2 : c2 = d2
  rotate_left
  · have HR : Hid (eqvS ⟨c0, c1, c2, c3, sn, wA, ws, wc, top, bA, bs, bc, fA, fs, fc, sA, ss, sc⟩ ⟨c0, c1, d2, d3, sm, xA, xs, xc, tip, yA, ys, yc, gA, gs, gc, zA, zs, zc⟩ = false) := Lib.hid (by rw [Bool.eq_false_iff]; intro h; have := eqvS_iff.1 h; simp only at this; exact e2 (by first | exact this.1.1 | exact this.1.2.1 | exact this.1.2.2.1 | exact this.1.2.2.2 | exact this.2.1 | exact this.2.2.1 | exact this.2.2.2.1 | exact this.2.2.2.2.1 | exact this.2.2.2.2.2.1 | exact this.2.2.2.2.2.2))
    have q1 : (c2 == d2) = false := by rw [beq_eq_false_iff_ne]; exact e2
    have q2 : (c2 != d2) = true := by rw [bne_iff_ne]; exact e2
    clear e2
    go_enter Tryz.func17, Tryz.ntmps17
    go_wp2_with fail
    generalize (V.alloc (.cells #[.int .i64 c0, .int .i64 c1, .int .i64 c2, .int .i64 c3, .bool sn, .slice wA ws.length wc, .int .i64 top, .slice bA bs.length bc, .slice fA fs.length fc, .slice sA ss.length sc] 28)).alloc (.cells #[.int .i64 c0, .int .i64 c1, .int .i64 d2, .int .i64 d3, .bool sm, .slice xA xs.length xc, .int .i64 tip, .slice yA ys.length yc, .slice gA gs.length gc, .slice zA zs.length zc] 28) = W at *
    generalize V.heap.size = S at *
    have g1 := hB.cells
    have g2 := hC.cells
    ((first | refine at_baseC (W := W) ?_ | refine at_base (W := W) ?_); intro uq; (try go_wp2_with fail))
    go_ret
    exact ⟨ret_bool HR.out.symm, HX.out.trans (ExtOf.ext _)⟩
  subst e2
  by_cases e3 : c3 = d3
  rotate_left
  · have HR : Hid (eqvS ⟨c0, c1, c2, c3, sn, wA, ws, wc, top, bA, bs, bc, fA, fs, fc, sA, ss, sc⟩ ⟨c0, c1, c2, d3, sm, xA, xs, xc, tip, yA, ys, yc, gA, gs, gc, zA, zs, zc⟩ = false) := Lib.hid (by rw [Bool.eq_false_iff]; intro h; have := eqvS_iff.1 h; simp only at this; exact e3 (by first | exact this.1.1 | exact this.1.2.1 | exact this.1.2.2.1 | exact this.1.2.2.2 | exact this.2.1 | exact this.2.2.1 | exact this.2.2.2.1 | exact this.2.2.2.2.1 | exact this.2.2.2.2.2.1 | exact this.2.2.2.2.2.2))
    have q1 : (c3 == d3) = false := by rw [beq_eq_false_iff_ne]; exact e3
    have q2 : (c3 != d3) = true := by rw [bne_iff_ne]; exact e3
    clear e3
    go_enter Tryz.func17, Tryz.ntmps17
    go_wp2_with fail
    generalize (V.alloc (.cells #[.int .i64 c0, .int .i64 c1, .int .i64 c2, .int .i64 c3, .bool sn, .slice wA ws.length wc, .int .i64 top, .slice bA bs.length bc, .slice fA fs.length fc, .slice sA ss.length sc] 28)).alloc (.cells #[.int .i64 c0, .int .i64 c1, .int .i64 c2, .int .i64 d3, .bool sm, .slice xA xs.length xc, .int .i64 tip, .slice yA ys.length yc, .slice gA gs.length gc, .slice zA zs.length zc] 28) = W at *
    generalize V.heap.size = S at *
    have g1 := hB.cells
    have g2 := hC.cells
    ((first | refine at_baseC (W := W) ?_ | refine at_base (W := W) ?_); intro uq; (try go_wp2_with fail))
    go_ret
    exact ⟨ret_bool HR.out.symm, HX.out.trans (ExtOf.ext _)⟩
  subst e3
  by_cases e4 : sn = sm
  rotate_left
  · have HR : Hid (eqvS ⟨c0, c1, c2, c3, sn, wA, ws, wc, top, bA, bs, bc, fA, fs, fc, sA, ss, sc⟩ ⟨c0, c1, c2, c3, sm, xA, xs, xc, tip, yA, ys, yc, gA, gs, gc, zA, zs, zc⟩ = false) := Lib.hid (by rw [Bool.eq_false_iff]; intro h; have := eqvS_iff.1 h; simp only at this; exact e4 (by first | exact this.1.1 | exact this.1.2.1 | exact this.1.2.2.1 | exact this.1.2.2.2 | exact this.2.1 | exact this.2.2.1 | exact this.2.2.2.1 | exact this.2.2.2.2.1 | exact this.2.2.2.2.2.1 | exact this.2.2.2.2.2.2))
    have q1 : (sn == sm) = false := by rw [beq_eq_false_iff_ne]; exact e4
    have q2 : (sn != sm) = true := by rw [bne_iff_ne]; exact e4
    clear e4
    go_enter Tryz.func17, Tryz.ntmps17
    go_wp2_with fail
    generalize (V.alloc (.cells #[.int .i64 c0, .int .i64 c1, .int .i64 c2, .int .i64 c3, .bool sn, .slice wA ws.length wc, .int .i64 top, .slice bA bs.length bc, .slice fA fs.length fc, .slice sA ss.length sc] 28)).alloc (.cells #[.int .i64 c0, .int .i64 c1, .int .i64 c2, .int .i64 c3, .bool sm, .slice xA xs.length xc, .int .i64 tip, .slice yA ys.length yc, .slice gA gs.length gc, .slice zA zs.length zc] 28) = W at *
    generalize V.heap.size = S at *
    have g1 := hB.cells
    have g2 := hC.cells
    ((first | refine at_baseC (W := W) ?_ | refine at_base (W := W) ?_); intro uq; (try go_wp2_with fail))
    go_ret
    exact ⟨ret_bool HR.out.symm, HX.out.trans (ExtOf.ext _)⟩
  subst e4
  by_cases e5 : top = tip
  rotate_left
  · have HR : Hid (eqvS ⟨c0, c1, c2, c3, sn, wA, ws, wc, top, bA, bs, bc, fA, fs, fc, sA, ss, sc⟩ ⟨c0, c1, c2, c3, sn, xA, xs, xc, tip, yA, ys, yc, gA, gs, gc, zA, zs, zc⟩ = false) := Lib.hid (by rw [Bool.eq_false_iff]; intro h; have := eqvS_iff.1 h; simp only at this; exact e5 (by first | exact this.1.1 | exact this.1.2.1 | exact this.1.2.2.1 | exact this.1.2.2.2 | exact this.2.1 | exact this.2.2.1 | exact this.2.2.2.1 | exact this.2.2.2.2.1 | exact this.2.2.2.2.2.1 | exact this.2.2.2.2.2.2))
    have q1 : (top == tip) = false := by rw [beq_eq_false_iff_ne]; exact e5
    have q2 : (top != tip) = true := by rw [bne_iff_ne]; exact e5
    clear e5
    go_enter Tryz.func17, Tryz.ntmps17
    go_wp2_with fail
    generalize (V.alloc (.cells #[.int .i64 c0, .int .i64 c1, .int .i64 c2, .int .i64 c3, .bool sn, .slice wA ws.length wc, .int .i64 top, .slice bA bs.length bc, .slice fA fs.length fc, .slice sA ss.length sc] 28)).alloc (.cells #[.int .i64 c0, .int .i64 c1, .int .i64 c2, .int .i64 c3, .bool sn, .slice xA xs.length xc, .int .i64 tip, .slice yA ys.length yc, .slice gA gs.length gc, .slice zA zs.length zc] 28) = W at *
    generalize V.heap.size = S at *
    have g1 := hB.cells
    have g2 := hC.cells
    ((first | refine at_baseC (W := W) ?_ | refine at_base (W := W) ?_); intro uq; (try go_wp2_with fail))
    go_ret
    exact ⟨ret_bool HR.out.symm, HX.out.trans (ExtOf.ext _)⟩
  subst e5
  by_cases e6 : ws = xs
  rotate_left
  · have HR : Hid (eqvS ⟨c0, c1, c2, c3, sn, wA, ws, wc, top, bA, bs, bc, fA, fs, fc, sA, ss, sc⟩ ⟨c0, c1, c2, c3, sn, xA, xs, xc, top, yA, ys, yc, gA, gs, gc, zA, zs, zc⟩ = false) := Lib.hid (by rw [Bool.eq_false_iff]; intro h; have := eqvS_iff.1 h; simp only at this; exact e6 (by first | exact this.1.1 | exact this.1.2.1 | exact this.1.2.2.1 | exact this.1.2.2.2 | exact this.2.1 | exact this.2.2.1 | exact this.2.2.2.1 | exact this.2.2.2.2.1 | exact this.2.2.2.2.2.1 | exact this.2.2.2.2.2.2))
    have HB1 : Hid (decide (ws = xs) = false) := Lib.hid (by simpa using e6)
    clear e6
    go_enter Tryz.func17, Tryz.ntmps17
    go_wp2_with fail
    generalize (V.alloc (.cells #[.int .i64 c0, .int .i64 c1, .int .i64 c2, .int .i64 c3, .bool sn, .slice wA ws.length wc, .int .i64 top, .slice bA bs.length bc, .slice fA fs.length fc, .slice sA ss.length sc] 28)).alloc (.cells #[.int .i64 c0, .int .i64 c1, .int .i64 c2, .int .i64 c3, .bool sn, .slice xA xs.length xc, .int .i64 top, .slice yA ys.length yc, .slice gA gs.length gc, .slice zA zs.length zc] 28) = W at *
    generalize V.heap.size = S at *
    have g1 := hB.cells
    have g2 := hC.cells
    ((first | refine at_baseC (W := W) ?_ | refine at_base (W := W) ?_); intro uq; (try go_wp2_with fail))
    (refine (equalWd_is wA xA wc xc ws xs false HB1.out _ (by omega) (by omega) (HW.at (by repeat (first | (with_reducible exact Ext.refl _) | (with_reducible exact ExtOf.ext _) | (with_reducible assumption) | (with_reducible refine Ext.drew ?_) | (with_reducible refine Ext.alloc ?_ _)))) (KW.at (by repeat (first | (with_reducible exact Ext.refl _) | (with_reducible exact ExtOf.ext _) | (with_reducible assumption) | (with_reducible refine Ext.drew ?_) | (with_reducible refine Ext.alloc ?_ _))))).mono ?_; rintro e wq ⟨rfl, hx⟩; replace hx := Ext.trans (a := W) (by repeat (first | (with_reducible exact Ext.refl _) | (with_reducible exact ExtOf.ext _) | (with_reducible assumption) | (with_reducible refine Ext.drew ?_) | (with_reducible refine Ext.alloc ?_ _))) hx; obtain ⟨uq, rfl⟩ : ∃ u : ExtOf W, wq = u.1 := ⟨⟨wq, hx⟩, rfl⟩; clear hx; go_wp2_with fail)
    go_ret
    exact ⟨ret_bool HR.out.symm, HX.out.trans (ExtOf.ext _)⟩
  subst e6
  by_cases e7 : bs = ys
  rotate_left
  · have HR : Hid (eqvS ⟨c0, c1, c2, c3, sn, wA, ws, wc, top, bA, bs, bc, fA, fs, fc, sA, ss, sc⟩ ⟨c0, c1, c2, c3, sn, xA, ws, xc, top, yA, ys, yc, gA, gs, gc, zA, zs, zc⟩ = false) := Lib.hid (by rw [Bool.eq_false_iff]; intro h; have := eqvS_iff.1 h; simp only at this; exact e7 (by first | exact this.1.1 | exact this.1.2.1 | exact this.1.2.2.1 | exact this.1.2.2.2 | exact this.2.1 | exact this.2.2.1 | exact this.2.2.2.1 | exact this.2.2.2.2.1 | exact this.2.2.2.2.2.1 | exact this.2.2.2.2.2.2))
    have HB2 : Hid (decide (bs = ys) = false) := Lib.hid (by simpa using e7)
    clear e7
    go_enter Tryz.func17, Tryz.ntmps17
    go_wp2_with fail
    generalize (V.alloc (.cells #[.int .i64 c0, .int .i64 c1, .int .i64 c2, .int .i64 c3, .bool sn, .slice wA ws.length wc, .int .i64 top, .slice bA bs.length bc, .slice fA fs.length fc, .slice sA ss.length sc] 28)).alloc (.cells #[.int .i64 c0, .int .i64 c1, .int .i64 c2, .int .i64 c3, .bool sn, .slice xA ws.length xc, .int .i64 top, .slice yA ys.length yc, .slice gA gs.length gc, .slice zA zs.length zc] 28) = W at *
    generalize V.heap.size = S at *
    have g1 := hB.cells
    have g2 := hC.cells
    ((first | refine at_baseC (W := W) ?_ | refine at_base (W := W) ?_); intro uq; (try go_wp2_with fail))
    (refine (equalWd_is wA xA wc xc ws ws true (by simp) _ (by omega) (by omega) (HW.at (by repeat (first | (with_reducible exact Ext.refl _) | (with_reducible exact ExtOf.ext _) | (with_reducible assumption) | (with_reducible refine Ext.drew ?_) | (with_reducible refine Ext.alloc ?_ _)))) (KW.at (by repeat (first | (with_reducible exact Ext.refl _) | (with_reducible exact ExtOf.ext _) | (with_reducible assumption) | (with_reducible refine Ext.drew ?_) | (with_reducible refine Ext.alloc ?_ _))))).mono ?_; rintro e wq ⟨rfl, hx⟩; replace hx := Ext.trans (a := W) (by repeat (first | (with_reducible exact Ext.refl _) | (with_reducible exact ExtOf.ext _) | (with_reducible assumption) | (with_reducible refine Ext.drew ?_) | (with_reducible refine Ext.alloc ?_ _))) hx; obtain ⟨uq, rfl⟩ : ∃ u : ExtOf W, wq = u.1 := ⟨⟨wq, hx⟩, rfl⟩; clear hx; go_wp2_with fail)
    (refine (equalSp_is bA yA bc yc bs ys false HB2.out _ (by omega) (by omega) (HT.at (by repeat (first | (with_reducible exact Ext.refl _) | (with_reducible exact ExtOf.ext _) | (with_reducible assumption) | (with_reducible refine Ext.drew ?_) | (with_reducible refine Ext.alloc ?_ _)))) (KT.at (by repeat (first | (with_reducible exact Ext.refl _) | (with_reducible exact ExtOf.ext _) | (with_reducible assumption) | (with_reducible refine Ext.drew ?_) | (with_reducible refine Ext.alloc ?_ _))))).mono ?_; rintro e wq ⟨rfl, hx⟩; replace hx := Ext.trans (a := W) (by repeat (first | (with_reducible exact Ext.refl _) | (with_reducible exact ExtOf.ext _) | (with_reducible assumption) | (with_reducible refine Ext.drew ?_) | (with_reducible refine Ext.alloc ?_ _))) hx; obtain ⟨uq, rfl⟩ : ∃ u : ExtOf W, wq = u.1 := ⟨⟨wq, hx⟩, rfl⟩; clear hx; go_wp2_with fail)
    go_ret
    exact ⟨ret_bool HR.out.symm, HX.out.trans (ExtOf.ext _)⟩
  subst e7
  by_cases e8 : fs = gs
  rotate_left
  · have HR : Hid (eqvS ⟨c0, c1, c2, c3, sn, wA, ws, wc, top, bA, bs, bc, fA, fs, fc, sA, ss, sc⟩ ⟨c0, c1, c2, c3, sn, xA, ws, xc, top, yA, bs, yc, gA, gs, gc, zA, zs, zc⟩ = false) := Lib.hid (by rw [Bool.eq_false_iff]; intro h; have := eqvS_iff.1 h; simp only at this; exact e8 (by first | exact this.1.1 | exact this.1.2.1 | exact this.1.2.2.1 | exact this.1.2.2.2 | exact this.2.1 | exact this.2.2.1 | exact this.2.2.2.1 | exact this.2.2.2.2.1 | exact this.2.2.2.2.2.1 | exact this.2.2.2.2.2.2))
    have HB3 : Hid (decide (fs = gs) = false) := Lib.hid (by simpa using e8)
    clear e8
    go_enter Tryz.func17, Tryz.ntmps17
    go_wp2_with fail
    generalize (V.alloc (.cells #[.int .i64 c0, .int .i64 c1, .int .i64 c2, .int .i64 c3, .bool sn, .slice wA ws.length wc, .int .i64 top, .slice bA bs.length bc, .slice fA fs.length fc, .slice sA ss.length sc] 28)).alloc (.cells #[.int .i64 c0, .int .i64 c1, .int .i64 c2, .int .i64 c3, .bool sn, .slice xA ws.length xc, .int .i64 top, .slice yA bs.length yc, .slice gA gs.length gc, .slice zA zs.length zc] 28) = W at *
    generalize V.heap.size = S at *
    have g1 := hB.cells
    have g2 := hC.cells
    ((first | refine at_baseC (W := W) ?_ | refine at_base (W := W) ?_); intro uq; (try go_wp2_with fail))
    (refine (equalWd_is wA xA wc xc ws ws true (by simp) _ (by omega) (by omega) (HW.at (by repeat (first | (with_reducible exact Ext.refl _) | (with_reducible exact ExtOf.ext _) | (with_reducible assumption) | (with_reducible refine Ext.drew ?_) | (with_reducible refine Ext.alloc ?_ _)))) (KW.at (by repeat (first | (with_reducible exact Ext.refl _) | (with_reducible exact ExtOf.ext _) | (with_reducible assumption) | (with_reducible refine Ext.drew ?_) | (with_reducible refine Ext.alloc ?_ _))))).mono ?_; rintro e wq ⟨rfl, hx⟩; replace hx := Ext.trans (a := W) (by repeat (first | (with_reducible exact Ext.refl _) | (with_reducible exact ExtOf.ext _) | (with_reducible assumption) | (with_reducible refine Ext.drew ?_) | (with_reducible refine Ext.alloc ?_ _))) hx; obtain ⟨uq, rfl⟩ : ∃ u : ExtOf W, wq = u.1 := ⟨⟨wq, hx⟩, rfl⟩; clear hx; go_wp2_with fail)
    (refine (equalSp_is bA yA bc yc bs bs true (by simp) _ (by omega) (by omega) (HT.at (by repeat (first | (with_reducible exact Ext.refl _) | (with_reducible exact ExtOf.ext _) | (with_reducible assumption) | (with_reducible refine Ext.drew ?_) | (with_reducible refine Ext.alloc ?_ _)))) (KT.at (by repeat (first | (with_reducible exact Ext.refl _) | (with_reducible exact ExtOf.ext _) | (with_reducible assumption) | (with_reducible refine Ext.drew ?_) | (with_reducible refine Ext.alloc ?_ _))))).mono ?_; rintro e wq ⟨rfl, hx⟩; replace hx := Ext.trans (a := W) (by repeat (first | (with_reducible exact Ext.refl _) | (with_reducible exact ExtOf.ext _) | (with_reducible assumption) | (with_reducible refine Ext.drew ?_) | (with_reducible refine Ext.alloc ?_ _))) hx; obtain ⟨uq, rfl⟩ : ∃ u : ExtOf W, wq = u.1 := ⟨⟨wq, hx⟩, rfl⟩; clear hx; go_wp2_with fail)
    (refine (equalSp_is fA gA fc gc fs gs false HB3.out _ (by omega) (by omega) (HF.at (by repeat (first | (with_reducible exact Ext.refl _) | (with_reducible exact ExtOf.ext _) | (with_reducible assumption) | (with_reducible refine Ext.drew ?_) | (with_reducible refine Ext.alloc ?_ _)))) (KF.at (by repeat (first | (with_reducible exact Ext.refl _) | (with_reducible exact ExtOf.ext _) | (with_reducible assumption) | (with_reducible refine Ext.drew ?_) | (with_reducible refine Ext.alloc ?_ _))))).mono ?_; rintro e wq ⟨rfl, hx⟩; replace hx := Ext.trans (a := W) (by repeat (first | (with_reducible exact Ext.refl _) | (with_reducible exact ExtOf.ext _) | (with_reducible assumption) | (with_reducible refine Ext.drew ?_) | (with_reducible refine Ext.alloc ?_ _))) hx; obtain ⟨uq, rfl⟩ : ∃ u : ExtOf W, wq = u.1 := ⟨⟨wq, hx⟩, rfl⟩; clear hx; go_wp2_with fail)
    go_ret
    exact ⟨ret_bool HR.out.symm, HX.out.trans (ExtOf.ext _)⟩
  subst e8
  by_cases e9 : ss = zs
  rotate_left
  · have HR : Hid (eqvS ⟨c0, c1, c2, c3, sn, wA, ws, wc, top, bA, bs, bc, fA, fs, fc, sA, ss, sc⟩ ⟨c0, c1, c2, c3, sn, xA, ws, xc, top, yA, bs, yc, gA, fs, gc, zA, zs, zc⟩ = false) := Lib.hid (by rw [Bool.eq_false_iff]; intro h; have := eqvS_iff.1 h; simp only at this; exact e9 (by first | exact this.1.1 | exact this.1.2.1 | exact this.1.2.2.1 | exact this.1.2.2.2 | exact this.2.1 | exact this.2.2.1 | exact this.2.2.2.1 | exact this.2.2.2.2.1 | exact this.2.2.2.2.2.1 | exact this.2.2.2.2.2.2))
    have HB4 : Hid (decide (ss = zs) = false) := Lib.hid (by simpa using e9)
    clear e9
    go_enter Tryz.func17, Tryz.ntmps17
    go_wp2_with fail
    generalize (V.alloc (.cells #[.int .i64 c0, .int .i64 c1, .int .i64 c2, .int .i64 c3, .bool sn, .slice wA ws.length wc, .int .i64 top, .slice bA bs.length bc, .slice fA fs.length fc, .slice sA ss.length sc] 28)).alloc (.cells #[.int .i64 c0, .int .i64 c1, .int .i64 c2, .int .i64 c3, .bool sn, .slice xA ws.length xc, .int .i64 top, .slice yA bs.length yc, .slice gA fs.length gc, .slice zA zs.length zc] 28) = W at *
    generalize V.heap.size = S at *
    have g1 := hB.cells
    have g2 := hC.cells
    ((first | refine at_baseC (W := W) ?_ | refine at_base (W := W) ?_); intro uq; (try go_wp2_with fail))
    (refine (equalWd_is wA xA wc xc ws ws true (by simp) _ (by omega) (by omega) (HW.at (by repeat (first | (with_reducible exact Ext.refl _) | (with_reducible exact ExtOf.ext _) | (with_reducible assumption) | (with_reducible refine Ext.drew ?_) | (with_reducible refine Ext.alloc ?_ _)))) (KW.at (by repeat (first | (with_reducible exact Ext.refl _) | (with_reducible exact ExtOf.ext _) | (with_reducible assumption) | (with_reducible refine Ext.drew ?_) | (with_reducible refine Ext.alloc ?_ _))))).mono ?_; rintro e wq ⟨rfl, hx⟩; replace hx := Ext.trans (a := W) (by repeat (first | (with_reducible exact Ext.refl _) | (with_reducible exact ExtOf.ext _) | (with_reducible assumption) | (with_reducible refine Ext.drew ?_) | (with_reducible refine Ext.alloc ?_ _))) hx; obtain ⟨uq, rfl⟩ : ∃ u : ExtOf W, wq = u.1 := ⟨⟨wq, hx⟩, rfl⟩; clear hx; go_wp2_with fail)
    (refine (equalSp_is bA yA bc yc bs bs true (by simp) _ (by omega) (by omega) (HT.at (by repeat (first | (with_reducible exact Ext.refl _) | (with_reducible exact ExtOf.ext _) | (with_reducible assumption) | (with_reducible refine Ext.drew ?_) | (with_reducible refine Ext.alloc ?_ _)))) (KT.at (by repeat (first | (with_reducible exact Ext.refl _) | (with_reducible exact ExtOf.ext _) | (with_reducible assumption) | (with_reducible refine Ext.drew ?_) | (with_reducible refine Ext.alloc ?_ _))))).mono ?_; rintro e wq ⟨rfl, hx⟩; replace hx := Ext.trans (a := W) (by repeat (first | (with_reducible exact Ext.refl _) | (with_reducible exact ExtOf.ext _) | (with_reducible assumption) | (with_reducible refine Ext.drew ?_) | (with_reducible refine Ext.alloc ?_ _))) hx; obtain ⟨uq, rfl⟩ : ∃ u : ExtOf W, wq = u.1 := ⟨⟨wq, hx⟩, rfl⟩; clear hx; go_wp2_with fail)
    (refine (equalSp_is fA gA fc gc fs fs true (by simp) _ (by omega) (by omega) (HF.at (by repeat (first | (with_reducible exact Ext.refl _) | (with_reducible exact ExtOf.ext _) | (with_reducible assumption) | (with_reducible refine Ext.drew ?_) | (with_reducible refine Ext.alloc ?_ _)))) (KF.at (by repeat (first | (with_reducible exact Ext.refl _) | (with_reducible exact ExtOf.ext _) | (with_reducible assumption) | (with_reducible refine Ext.drew ?_) | (with_reducible refine Ext.alloc ?_ _))))).mono ?_; rintro e wq ⟨rfl, hx⟩; replace hx := Ext.trans (a := W) (by repeat (first | (with_reducible exact Ext.refl _) | (with_reducible exact ExtOf.ext _) | (with_reducible assumption) | (with_reducible refine Ext.drew ?_) | (with_reducible refine Ext.alloc ?_ _))) hx; obtain ⟨uq, rfl⟩ : ∃ u : ExtOf W, wq = u.1 := ⟨⟨wq, hx⟩, rfl⟩; clear hx; go_wp2_with fail)
    (refine (equalSl_is sA zA sc zc ss zs false HB4.out _ (by omega) (by omega) (HS.at (by repeat (first | (with_reducible exact Ext.refl _) | (with_reducible exact ExtOf.ext _) | (with_reducible assumption) | (with_reducible refine Ext.drew ?_) | (with_reducible refine Ext.alloc ?_ _)))) (KS.at (by repeat (first | (with_reducible exact Ext.refl _) | (with_reducible exact ExtOf.ext _) | (with_reducible assumption) | (with_reducible refine Ext.drew ?_) | (with_reducible refine Ext.alloc ?_ _))))).mono ?_; rintro e wq ⟨rfl, hx⟩; replace hx := Ext.trans (a := W) (by repeat (first | (with_reducible exact Ext.refl _) | (with_reducible exact ExtOf.ext _) | (with_reducible assumption) | (with_reducible refine Ext.drew ?_) | (with_reducible refine Ext.alloc ?_ _))) hx; obtain ⟨uq, rfl⟩ : ∃ u : ExtOf W, wq = u.1 := ⟨⟨wq, hx⟩, rfl⟩; clear hx; go_wp2_with fail)
    go_ret
    exact ⟨ret_bool HR.out.symm, HX.out.trans (ExtOf.ext _)⟩
  subst e9
  have HR : Hid (eqvS ⟨c0, c1, c2, c3, sn, wA, ws, wc, top, bA, bs, bc, fA, fs, fc, sA, ss, sc⟩ ⟨c0, c1, c2, c3, sn, xA, ws, xc, top, yA, bs, yc, gA, fs, gc, zA, ss, zc⟩ = true) := Lib.hid (by simp [eqvS])
  go_enter Tryz.func17, Tryz.ntmps17
  go_wp2_with fail
  generalize (V.alloc (.cells #[.int .i64 c0, .int .i64 c1, .int .i64 c2, .int .i64 c3, .bool sn, .slice wA ws.length wc, .int .i64 top, .slice bA bs.length bc, .slice fA fs.length fc, .slice sA ss.length sc] 28)).alloc (.cells #[.int .i64 c0, .int .i64 c1, .int .i64 c2, .int .i64 c3, .bool sn, .slice xA ws.length xc, .int .i64 top, .slice yA bs.length yc, .slice gA fs.length gc, .slice zA ss.length zc] 28) = W at *
  generalize V.heap.size = S at *
  have g1 := hB.cells
  have g2 := hC.cells
  ((first | refine at_baseC (W := W) ?_ | refine at_base (W := W) ?_); intro uq; (try go_wp2_with fail))
  (refine (equalWd_is wA xA wc xc ws ws true (by simp) _ (by omega) (by omega) (HW.at (by repeat (first | (with_reducible exact Ext.refl _) | (with_reducible exact ExtOf.ext _) | (with_reducible assumption) | (with_reducible refine Ext.drew ?_) | (with_reducible refine Ext.alloc ?_ _)))) (KW.at (by repeat (first | (with_reducible exact Ext.refl _) | (with_reducible exact ExtOf.ext _) | (with_reducible assumption) | (with_reducible refine Ext.drew ?_) | (with_reducible refine Ext.alloc ?_ _))))).mono ?_; rintro e wq ⟨rfl, hx⟩; replace hx := Ext.trans (a := W) (by repeat (first | (with_reducible exact Ext.refl _) | (with_reducible exact ExtOf.ext _) | (with_reducible assumption) | (with_reducible refine Ext.drew ?_) | (with_reducible refine Ext.alloc ?_ _))) hx; obtain ⟨uq, rfl⟩ : ∃ u : ExtOf W, wq = u.1 := ⟨⟨wq, hx⟩, rfl⟩; clear hx; go_wp2_with fail)
  (refine (equalSp_is bA yA bc yc bs bs true (by simp) _ (by omega) (by omega) (HT.at (by repeat (first | (with_reducible exact Ext.refl _) | (with_reducible exact ExtOf.ext _) | (with_reducible assumption) | (with_reducible refine Ext.drew ?_) | (with_reducible refine Ext.alloc ?_ _)))) (KT.at (by repeat (first | (with_reducible exact Ext.refl _) | (with_reducible exact ExtOf.ext _) | (with_reducible assumption) | (with_reducible refine Ext.drew ?_) | (with_reducible refine Ext.alloc ?_ _))))).mono ?_; rintro e wq ⟨rfl, hx⟩; replace hx := Ext.trans (a := W) (by repeat (first | (with_reducible exact Ext.refl _) | (with_reducible exact ExtOf.ext _) | (with_reducible assumption) | (with_reducible refine Ext.drew ?_) | (with_reducible refine Ext.alloc ?_ _))) hx; obtain ⟨uq, rfl⟩ : ∃ u : ExtOf W, wq = u.1 := ⟨⟨wq, hx⟩, rfl⟩; clear hx; go_wp2_with fail)
  (refine (equalSp_is fA gA fc gc fs fs true (by simp) _ (by omega) (by omega) (HF.at (by repeat (first | (with_reducible exact Ext.refl _) | (with_reducible exact ExtOf.ext _) | (with_reducible assumption) | (with_reducible refine Ext.drew ?_) | (with_reducible refine Ext.alloc ?_ _)))) (KF.at (by repeat (first | (with_reducible exact Ext.refl _) | (with_reducible exact ExtOf.ext _) | (with_reducible assumption) | (with_reducible refine Ext.drew ?_) | (with_reducible refine Ext.alloc ?_ _))))).mono ?_; rintro e wq ⟨rfl, hx⟩; replace hx := Ext.trans (a := W) (by repeat (first | (with_reducible exact Ext.refl _) | (with_reducible exact ExtOf.ext _) | (with_reducible assumption) | (with_reducible refine Ext.drew ?_) | (with_reducible refine Ext.alloc ?_ _))) hx; obtain ⟨uq, rfl⟩ : ∃ u : ExtOf W, wq = u.1 := ⟨⟨wq, hx⟩, rfl⟩; clear hx; go_wp2_with fail)
  (refine (equalSl_is sA zA sc zc ss ss true (by simp) _ (by omega) (by omega) (HS.at (by repeat (first | (with_reducible exact Ext.refl _) | (with_reducible exact ExtOf.ext _) | (with_reducible assumption) | (with_reducible refine Ext.drew ?_) | (with_reducible refine Ext.alloc ?_ _)))) (KS.at (by repeat (first | (with_reducible exact Ext.refl _) | (with_reducible exact ExtOf.ext _) | (with_reducible assumption) | (with_reducible refine Ext.drew ?_) | (with_reducible refine Ext.alloc ?_ _))))).mono ?_; rintro e wq ⟨rfl, hx⟩; replace hx := Ext.trans (a := W) (by repeat (first | (with_reducible exact Ext.refl _) | (with_reducible exact ExtOf.ext _) | (with_reducible assumption) | (with_reducible refine Ext.drew ?_) | (with_reducible refine Ext.alloc ?_ _))) hx; obtain ⟨uq, rfl⟩ : ∃ u : ExtOf W, wq = u.1 := ⟨⟨wq, hx⟩, rfl⟩; clear hx; go_wp2_with fail)
  go_ret
  exact ⟨ret_bool HR.out.symm, HX.out.trans (ExtOf.ext _)⟩
end Go.Proofs.YtkcpfimhbogdcaaGreat

/- A heap's copy: its table and what is free lie apart. -/
set_option linter.unusedSimpArgs false
set_option linter.unusedVariables false
namespace Go.Proofs.YtkcpfimhbogdcaaGreat
open Go.RowKit Go.Shelf

theorem own_lt {α : Type} {e : TypeId} {n : Nat} {f : α → List Value} {w : World} {B : Nat} {v : Value} {xs : List α} (h : Own e n f w B v xs) {g : Nat} (hg : v.ownBlock = some g) : B ≤ g ∧ g < w.heap.size := by
  rcases h.2 with ⟨rfl, _⟩ | ⟨b, cap, cur, rfl, hb, hgt, _⟩
  · cases hg
  · obtain rfl : b = g := by simpa [Value.ownBlock] using hg
    exact ⟨hb, lt_of_heap hgt⟩
/-- A copy comes back. -/
def RetS3 (V : World) (s : StD) (e : Ending) (w' : World) : Prop := ∃ t : StD, e = .returned (.agg #[.int .i64 t.c0, .int .i64 t.c1, .int .i64 t.c2, .int .i64 t.c3, .bool t.snd, .slice t.wA t.ws.length t.wc, .int .i64 t.top, .slice t.tA t.tb.length t.tc, .slice t.fA t.fr.length t.fc, .slice t.sA t.sl.length t.sc]) ∧ StOwn V.heap.size w' t ∧ eqvS t s = true ∧ Ext V w' ∧ ((Value.slice t.tA t.tb.length t.tc).ownBlock = none ∨ (Value.slice t.tA t.tb.length t.tc).ownBlock ≠ (Value.slice t.fA t.fr.length t.fc).ownBlock)
set_option maxRecDepth 100000
set_option maxHeartbeats 4000000
theorem scopy2_any (s : StD) (V : World) (h : StAt V s) (hle : StLe s) : Calls Tryz.prog 16 #[.agg #[.int .i64 s.c0, .int .i64 s.c1, .int .i64 s.c2, .int .i64 s.c3, .bool s.snd, .slice s.wA s.ws.length s.wc, .int .i64 s.top, .slice s.tA s.tb.length s.tc, .slice s.fA s.fr.length s.fc, .slice s.sA s.sl.length s.sc]] V (RetS3 V s) := by
  obtain ⟨c0, c1, c2, c3, sn, wA, ws, wc, top, tA, tb, tc, fA, fr, fc, sA, sl, sc⟩ := s
  obtain ⟨hw, ht, hf, hs⟩ := h
  obtain ⟨l1, l2, l3, l4⟩ := hle
  simp only at hw ht hf hs l1 l2 l3 l4
  have HW := pers_row hw
  have HT := pers_row ht
  have HF := pers_row hf
  have HS := pers_row hs
  have hl : V.heap.size < V.heap.size + 1 := by omega
  clear hw ht hf hs
  have hB := pers_new2 V #[.int .i64 c0, .int .i64 c1, .int .i64 c2, .int .i64 c3, .bool sn, .slice wA ws.length wc, .int .i64 top, .slice tA tb.length tc, .slice fA fr.length fc, .slice sA sl.length sc] 28 _ rfl (.cells #[.int .i64 0, .int .i64 0, .int .i64 0, .int .i64 0, .bool false, .slice none 0 0, .int .i64 0, .slice none 0 0, .slice none 0 0, .slice none 0 0] 28)
  have hZ := pers_new (V.alloc (.cells #[.int .i64 c0, .int .i64 c1, .int .i64 c2, .int .i64 c3, .bool sn, .slice wA ws.length wc, .int .i64 top, .slice tA tb.length tc, .slice fA fr.length fc, .slice sA sl.length sc] 28)) #[.int .i64 0, .int .i64 0, .int .i64 0, .int .i64 0, .bool false, .slice none 0 0, .int .i64 0, .slice none 0 0, .slice none 0 0, .slice none 0 0] 28 (V.heap.size + 1) (by simp)
  have hX := ((Ext.refl V).alloc (.cells #[.int .i64 c0, .int .i64 c1, .int .i64 c2, .int .i64 c3, .bool sn, .slice wA ws.length wc, .int .i64 top, .slice tA tb.length tc, .slice fA fr.length fc, .slice sA sl.length sc] 28)).alloc (.cells #[.int .i64 0, .int .i64 0, .int .i64 0, .int .i64 0, .bool false, .slice none 0 0, .int .i64 0, .slice none 0 0, .slice none 0 0, .slice none 0 0] 28)
  go_enter Tryz.func16, Tryz.ntmps16
  go_wp2_with fail
  generalize (V.alloc (.cells #[.int .i64 c0, .int .i64 c1, .int .i64 c2, .int .i64 c3, .bool sn, .slice wA ws.length wc, .int .i64 top, .slice tA tb.length tc, .slice fA fr.length fc, .slice sA sl.length sc] 28)).alloc (.cells #[.int .i64 0, .int .i64 0, .int .i64 0, .int .i64 0, .bool false, .slice none 0 0, .int .i64 0, .slice none 0 0, .slice none 0 0, .slice none 0 0] 28) = W at *
  generalize hS : V.heap.size = S at *
  have HVS := Lib.hid hS
  clear hS
  have g1 := hB.cells
  have g2 := hB.frees
  have hxw := Ext.refl W
  have HX := Lib.hid hX
  have hWS : S ≤ W.heap.size := by have := hX.size; rw [HVS.out] at this; exact this
  (refine wp_region_seg (W := W) [([(0, true), (1, true), (3, true), (4, true)], 2), ([(6, true)], 5)] [] [7, 8, 9] (by kernel_rfl) (by kernel_rfl) (by intro c a d v w h; cases d <;> first | exact h | cases h.1) (by with_reducible assumption) ?_; simp only [opsOf, List.map_cons, List.map_nil, List.getD_cons_zero, List.getD_cons_succ])
  ((first | refine seg_cons ?_ | refine seg_last ?_); (repeat (go_big_quiet_step (fail))); refine wpQuiet_nil ?_; intro w1 hx)
  ((refine seg_step ?_ ?_; (focus rfl); intro K hK; go_simp); refine (cloneU_any wA wc ws _ (by omega) (HW.at (hX.trans hx))).mono ?_; rintro e W1 ⟨A1, cap1, rfl, ho1, hx2⟩; refine hK W1 _ _ (hx.trans hx2) (Ext.refl _) ?_; have hz2 := hx.size; replace hx2 := hx.trans hx2; replace hB := hB.re hx2; replace hZ := hZ.re hx2; clear hK K hx)
  have HO1 := pers_own (ho1.mono (B' := S) (by omega))
  replace HX := Lib.hid (hX.trans hx2)
  have hW1 := hx2.size
  clear ho1 hx2 g1 g2 hxw hX
  have g1 := hB.cells
  have g2 := hB.frees
  ((first | refine seg_cons ?_ | refine seg_last ?_); (repeat (go_big_quiet_step (fail))); refine wpQuiet_nil ?_; intro w1 hx)
  ((refine seg_step ?_ ?_; (focus rfl); intro K hK; go_simp); refine (cloneSp_any tA tc tb _ (by omega) (HT.at (HX.out.trans hx))).mono ?_; rintro e W2 ⟨A2, cap2, rfl, ho2, hx2⟩; refine hK W2 _ _ (hx.trans hx2) (Ext.refl _) ?_; have hz2 := hx.size; replace hx2 := hx.trans hx2; replace hB := hB.re hx2; replace hZ := hZ.re hx2; replace HO1 := HO1.re hx2; clear hK K hx)
  have HB2 : Hid (∀ g, (Value.slice A2 tb.length cap2).ownBlock = some g → g < W2.heap.size) := Lib.hid (fun g hg => (own_lt ho2 hg).2)
  have HO2 := pers_own (ho2.mono (B' := S) (by omega))
  replace HX := Lib.hid (HX.out.trans hx2)
  have hW2 := hx2.size
  clear ho2 hx2 g1 g2
  have g1 := hB.cells
  have g2 := hB.frees
  ((first | refine seg_cons ?_ | refine seg_last ?_); (repeat (go_big_quiet_step (fail))); refine wpQuiet_nil ?_; intro w1 hx)
  (obtain ⟨uq, rfl⟩ : ∃ u : ExtOf W2, w1 = u.1 := ⟨⟨w1, hx⟩, rfl⟩; clear hx; go_wp2_with fail)
  have hb4 : ((uq.1.setCell ⟨S, 5, none⟩ (.slice A1 ws.length cap1)).setCell ⟨S, 7, none⟩ (.slice A2 tb.length cap2)).heap[S]? = some (.cells #[.int .i64 c0, .int .i64 c1, .int .i64 c2, .int .i64 c3, .bool sn, .slice A1 ws.length cap1, .int .i64 top, .slice A2 tb.length cap2, .slice fA fr.length fc, .slice sA sl.length sc] 28 (0, 0)) := blk_set (blk_set (hB.at uq.2) _) _
  have hz4 := blk_set_other (c := S) (i := 7) (blk_set_other (c := S) (i := 5) (hZ.at uq.2) (.slice A1 ws.length cap1) (by omega)) (.slice A2 tb.length cap2) (by omega)
  have hx4 : Ext V ((uq.1.setCell ⟨S, 5, none⟩ (.slice A1 ws.length cap1)).setCell ⟨S, 7, none⟩ (.slice A2 tb.length cap2)) := ((HX.out.trans uq.2).setCell (by rw [HVS.out]; exact Nat.le_refl S) _).setCell (by rw [HVS.out]; exact Nat.le_refl S) _
  have ho1 := ((HO1.at uq.2).setOther (i := 5) (u := .slice A1 ws.length cap1) (hB.at uq.2) (by decide)).setOther (i := 7) (u := .slice A2 tb.length cap2) (blk_set (hB.at uq.2) _) (by decide)
  have ho2 := ((HO2.at uq.2).setOther (i := 5) (u := .slice A1 ws.length cap1) (hB.at uq.2) (by decide)).setOther (i := 7) (u := .slice A2 tb.length cap2) (blk_set (hB.at uq.2) _) (by decide)
  have hW4 : W2.heap.size ≤ ((uq.1.setCell ⟨S, 5, none⟩ (.slice A1 ws.length cap1)).setCell ⟨S, 7, none⟩ (.slice A2 tb.length cap2)).heap.size := by have := uq.2.size; simpa using this
  generalize (uq.1.setCell ⟨S, 5, none⟩ (.slice A1 ws.length cap1)).setCell ⟨S, 7, none⟩ (.slice A2 tb.length cap2) = W4 at *
  clear g1 g2 hB hZ HO1 HO2 HX
  have hB := pers_blk hb4
  have hZ := pers_blk hz4
  have HO1 := pers_own ho1
  have HO2 := pers_own ho2
  have HX := Lib.hid hx4
  have hxw := Ext.refl W4
  clear hb4 hz4 ho1 ho2 hx4
  have g1 := hB.cells
  have g2 := hB.frees
  (refine wp_region_seg (W := W4) [([(0, true), (1, true), (3, true), (4, true)], 2), ([(6, true)], 5)] [] [7, 8, 9] (by kernel_rfl) (by kernel_rfl) (by intro c a d v w h; cases d <;> first | exact h | cases h.1) (by with_reducible assumption) ?_; simp only [opsOf, List.map_cons, List.map_nil, List.getD_cons_zero, List.getD_cons_succ])
  ((first | refine seg_cons ?_ | refine seg_last ?_); (repeat (go_big_quiet_step (fail))); refine wpQuiet_nil ?_; intro w1 hx)
  ((refine seg_step ?_ ?_; (focus rfl); intro K hK; go_simp); refine (cloneSp_any fA fc fr _ (by omega) (HF.at (HX.out.trans hx))).mono ?_; rintro e W5 ⟨A5, cap5, rfl, ho5, hx2⟩; refine hK W5 _ _ (hx.trans hx2) (Ext.refl _) ?_; have hz2 := hx.size; replace hx2 := hx.trans hx2; replace hB := hB.re hx2; replace hZ := hZ.re hx2; replace HO1 := HO1.re hx2; replace HO2 := HO2.re hx2; clear hK K hx)
  have HB5 : Hid (∀ g, (Value.slice A5 fr.length cap5).ownBlock = some g → W2.heap.size ≤ g) := Lib.hid (fun g hg => by have := (own_lt ho5 hg).1; omega)
  have HO5 := pers_own (ho5.mono (B' := S) (by omega))
  replace HX := Lib.hid (HX.out.trans hx2)
  have hW5 := hx2.size
  clear ho5 hx2 g1 g2 hxw
  have g1 := hB.cells
  have g2 := hB.frees
  ((first | refine seg_cons ?_ | refine seg_last ?_); (repeat (go_big_quiet_step (fail))); refine wpQuiet_nil ?_; intro w1 hx)
  ((refine seg_step ?_ ?_; (focus rfl); intro K hK; go_simp); refine (cloneSl_any sA sc sl _ (by omega) (HS.at (HX.out.trans hx))).mono ?_; rintro e W6 ⟨A6, cap6, rfl, ho6, hx2⟩; refine hK W6 _ _ (hx.trans hx2) (Ext.refl _) ?_; have hz2 := hx.size; replace hx2 := hx.trans hx2; replace hB := hB.re hx2; replace hZ := hZ.re hx2; replace HO1 := HO1.re hx2; replace HO2 := HO2.re hx2; replace HO5 := HO5.re hx2; clear hK K hx)
  have HO6 := pers_own (ho6.mono (B' := S) (by omega))
  replace HX := Lib.hid (HX.out.trans hx2)
  clear ho6 hx2 g1 g2
  have g1 := hB.cells
  have g2 := hB.frees
  have g3 := hZ.cells
  have g4 := hZ.frees
  ((first | refine seg_cons ?_ | refine seg_last ?_); (repeat (go_big_quiet_step (fail))); refine wpQuiet_nil ?_; intro w1 hx)
  (obtain ⟨uq, rfl⟩ : ∃ u : ExtOf W6, w1 = u.1 := ⟨⟨w1, hx⟩, rfl⟩; clear hx; go_wp2_with fail)
  have o1 := HO1.at uq.2
  have o2 := HO2.at uq.2
  have o5 := HO5.at uq.2
  have o6 := HO6.at uq.2
  have hb := hB.at uq.2
  have hz := hZ.at uq.2
  have hx := HX.out.trans uq.2
  ((try simp only [Exit.inBlock, Exit.then]); refine bodyPost_ret (v := .agg #[.int .i64 c0, .int .i64 c1, .int .i64 c2, .int .i64 c3, .bool sn, .slice A1 ws.length cap1, .int .i64 top, .slice A2 tb.length cap2, .slice A5 fr.length cap5, .slice A6 sl.length cap6]) (by simp only [results, Tryz.results16]; go_simp) rfl ?_)
  refine ⟨⟨c0, c1, c2, c3, sn, A1, ws, cap1, top, A2, tb, cap2, A5, fr, cap5, A6, sl, cap6⟩, rfl, ⟨?_, ?_, ?_, ?_⟩, ?_, ?_, ?_⟩
  · rw [HVS.out]
    have n1 := (o1.ne_block hb (by decide)).symm
    have n2 := (o1.ne_block hz (by decide)).symm
    repeat (first | with_reducible exact o1 | with_reducible refine Own.setNe ?_ n1 | with_reducible refine Own.setNe ?_ n2)
  · rw [HVS.out]
    have n1 := (o2.ne_block hb (by decide)).symm
    have n2 := (o2.ne_block hz (by decide)).symm
    repeat (first | with_reducible exact o2 | with_reducible refine Own.setNe ?_ n1 | with_reducible refine Own.setNe ?_ n2)
  · rw [HVS.out]
    have n1 := (o5.ne_block hb (by decide)).symm
    have n2 := (o5.ne_block hz (by decide)).symm
    repeat (first | with_reducible exact o5 | with_reducible refine Own.setNe ?_ n1 | with_reducible refine Own.setNe ?_ n2)
  · rw [HVS.out]
    have n1 := (o6.ne_block hb (by decide)).symm
    have n2 := (o6.ne_block hz (by decide)).symm
    repeat (first | with_reducible exact o6 | with_reducible refine Own.setNe ?_ n1 | with_reducible refine Own.setNe ?_ n2)
  · simp [eqvS]
  · have n1 : V.heap.size ≤ S := by rw [HVS.out]; exact Nat.le_refl _
    have n2 : V.heap.size ≤ S + 1 := by omega
    repeat (first | with_reducible exact hx | with_reducible refine Ext.setCell ?_ n1 _ | with_reducible refine Ext.setCell ?_ n2 _)
  · show (Value.slice A2 tb.length cap2).ownBlock = none ∨ (Value.slice A2 tb.length cap2).ownBlock ≠ (Value.slice A5 fr.length cap5).ownBlock
    rcases hg : (Value.slice A2 tb.length cap2).ownBlock with _ | g
    · exact .inl rfl
    · refine .inr fun heq => ?_
      have := HB5.out g heq.symm
      have := HB2.out g hg
      omega
end Go.Proofs.YtkcpfimhbogdcaaGreat

