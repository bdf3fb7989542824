/- Merged by program (merge.py) out of: LoE, LoF, LoG, LoH, LoI, LoJ, LoK. -/
import Derived.Handy
import Derived.Test.YtkcpfimhbogdcaaMo24
import Derived.Test.YtkcpfimhbogdcaaMo26
import Derived.Test.YtkcpfimhbogdcaaMo23
import Derived.Test.YtkcpfimhbogdcaaMo22
import Derived.Test.YtkcpfimhbogdcaaMo4
/- A living part: where it lies; a frame of two blocks; los.New of an empty table. -/
set_option linter.unusedSimpArgs false
set_option linter.unusedVariables false
namespace Go.Proofs.Ytkcpfimhbogdcaa
open Go.RowKit Go.Shelf

/-- w' is w with new blocks; of the old ones b and og alone may have turned. -/
structure Two (b : Nat) (og : Option Nat) (w w' : World) : Prop where
  os : w'.os = w.os
  tape : w'.tape = w.tape
  output : w'.output = w.output
  size : w.heap.size ≤ w'.heap.size
  block : ∀ k, k < w.heap.size → k ≠ b → some k ≠ og → w'.heap[k]? = w.heap[k]?
section
variable {b : Nat} {og : Option Nat} {u v w w' : World}
theorem Two.of_ext (h : Ext w w') : Two b og w w' := ⟨h.os, h.tape, h.output, h.size, fun k hk _ _ => h.block hk⟩
theorem Two.refl : Two b og w w := Two.of_ext (Ext.refl w)
theorem Two.trans (h : Two b og u v) (k : Two b og v w) : Two b og u w :=
  ⟨k.os.trans h.os, k.tape.trans h.tape, k.output.trans h.output, Nat.le_trans h.size k.size, fun i hi h1 h2 => (k.block i (Nat.lt_of_lt_of_le hi h.size) h1 h2).trans (h.block i hi h1 h2)⟩
theorem Two.of_grown (h : w.grownBy w' og) : Two b og w w' := ⟨h.os, h.tape, h.output, h.size, fun k hk _ h2 => h.block k hk h2⟩
theorem Two.set (h : Two b og u w) (i : Nat) (x : Value) : Two b og u (w.setCell ⟨b, i, none⟩ x) :=
  ⟨h.os, h.tape, h.output, by simpa using h.size, fun k hk h1 h2 => (Below.heap_setCell w ⟨b, i, none⟩ x k h1).trans (h.block k hk h1 h2)⟩
theorem Two.ext (h : Two b og w w') (hu : Ext u w) (hb : u.heap.size ≤ b) (hg : ∀ g, og = some g → u.heap.size ≤ g) : Ext u w' :=
  ⟨h.os.trans hu.os, h.tape.trans hu.tape, h.output.trans hu.output, Nat.le_trans hu.size h.size, fun k hk => (h.block k (Nat.lt_of_lt_of_le hk hu.size) (by omega) (fun e => by have := hg k e.symm; omega)).trans (hu.block hk)⟩
/-- What lies elsewhere stays. -/
theorem Own.two {α : Type} {e n : Nat} {f : α → List Value} {B : Nat} {x : Value} {xs : List α} (h : Own e n f w B x xs) (ht : Two b og w w') (h1 : x.ownBlock ≠ some b) (h2 : ∀ g, og = some g → x.ownBlock ≠ some g) : Own e n f w' B x xs :=
  h.same fun g cs ty r hg hc => (ht.block g (lt_of_heap hc) (fun e => h1 (by rw [hg, e])) (fun e => h2 g e.symm hg)).trans hc
/-- By the kind of what lies there. -/
theorem Own.twoT {α : Type} {e n : Nat} {f : α → List Value} {B : Nat} {x : Value} {xs : List α} (h : Own e n f w B x xs) (ht : Two b og w w') {cs : Array Value} {t : TypeId} {r : Nat × Nat} (hb : w.heap[b]? = some (.cells cs t r)) (hne : t ≠ e)
    {B2 m : Nat} {e2 : TypeId} {β : Type} {f2 : β → List Value} {A : Option Addr} {len cap : Nat} {ys : List β} (ho : Own e2 m f2 w B2 (.slice A len cap) ys) (hog : og = (Value.slice A len cap).ownBlock) (hne2 : e2 ≠ e) : Own e n f w' B x xs := by
  have key : ∀ g, x.ownBlock = some g → ∃ cur, w.heap[g]? = some (.cells cur e (0, 0)) := by
    intro g hg
    rcases h.2 with ⟨rfl, h0⟩ | ⟨g', cap', cur, rfl, hb', hg', _⟩
    · simp [Value.ownBlock] at hg
    · simp only [Value.ownBlock, Option.some.injEq] at hg
      subst hg
      exact ⟨cur, hg'⟩
  refine h.two ht (fun hh => ?_) (fun g hg hh => ?_)
  · obtain ⟨cur, hc⟩ := key b hh
    rw [hb] at hc
    injection hc with hc
    injection hc with _ hc _
    exact hne hc
  · obtain ⟨cur, hc⟩ := key g hh
    rcases ho.2 with ⟨h1, h0⟩ | ⟨g', cap', cur', h1, hb', hg', _⟩
    · rw [hog, h1] at hg; simp [Value.ownBlock] at hg
    · rw [hog, h1] at hg
      simp only [Value.ownBlock, Option.some.injEq] at hg
      subst hg
      rw [hg'] at hc
      injection hc with hc
      injection hc with _ hc _
      exact hne2 hc
end
/-- What a part holds. -/
structure LoD where
  ws : List Int
  tb : List (Int × Int)
  fr : List (Int × Int)
  top : Int
/-- A part of the call's own, in the arena p. -/
structure LoB (Bo : Nat) (w : World) (b p : Nat) (A : Option Addr) (cap : Nat) (tA : Option Addr) (tc : Nat) (fA : Option Addr) (fc : Nat) (s : LoD) : Prop where
  blk : w.heap[b]? = some (.cells #[.bool true, .pointer (some ⟨p, 0, none⟩), .slice tA s.tb.length tc, .slice fA s.fr.length fc, .int .i64 s.top] 102 (0, 0))
  ar : ArO Bo w p A cap s.ws
  tab : Own 23 2 spanC w Bo (.slice tA s.tb.length tc) s.tb
  fre : Own 23 2 spanC w Bo (.slice fA s.fr.length fc) s.fr
  base : Bo ≤ b
def LoO (Bo : Nat) (w : World) (b p : Nat) (A : Option Addr) (cap : Nat) (s : LoD) : Prop := ∃ tA tc fA fc, LoB Bo w b p A cap tA tc fA fc s
theorem LoB.ext {Bo : Nat} {w w' : World} {b p : Nat} {A : Option Addr} {cap : Nat} {tA : Option Addr} {tc : Nat} {fA : Option Addr} {fc : Nat} {s : LoD} (h : LoB Bo w b p A cap tA tc fA fc s) (hx : Ext w w') : LoB Bo w' b p A cap tA tc fA fc s :=
  ⟨(hx.block (lt_of_heap h.blk)).trans h.blk, h.ar.ext hx, h.tab.ext hx, h.fre.ext hx, h.base⟩
theorem LoO.ext {Bo : Nat} {w w' : World} {b p : Nat} {A : Option Addr} {cap : Nat} {s : LoD} (h : LoO Bo w b p A cap s) (hx : Ext w w') : LoO Bo w' b p A cap s := by
  obtain ⟨tA, tc, fA, fc, h⟩ := h
  exact ⟨tA, tc, fA, fc, h.ext hx⟩
/-- What a call leaves of a part. -/
def LoTo (Bo : Nat) (V : World) (b p : Nat) (A : Option Addr) (cap n : Nat) (s : LoD) (w' : World) : Prop := LoO Bo w' b p A cap s ∧ Two b (Value.slice A n cap).ownBlock V w'
set_option maxRecDepth 100000
set_option maxHeartbeats 1000000
/-- A part with nothing in its table. -/
theorem losnew_empty (Bo p : Nat) (A : Option Addr) (cap : Nat) (ws : List Int) (a s : Int) (fA : Option Addr) (fc : Nat) (fs : List (Int × Int)) (V : World) (hA : ArO Bo V p A cap ws) (hf : SpansAt V fA fs) (hfl : fs.length ≤ 100000)
    (hin : mayB a s = true → a ≤ (ws.length : Int) ∧ s ≤ (ws.length : Int) - a) (hr : ledR a s [] fs = true) (ha : 0 ≤ a ∧ a ≤ 9223372036854775807) :
    Calls Try.prog 37 #[.pointer (some ⟨p, 0, none⟩), .agg #[.int .i64 (a), .int .i64 (s)], .slice none 0 0, .slice fA fs.length fc] V fun e w' => ∃ b, e = .returned (.tuple #[.pointer (some ⟨b, 0, none⟩), .int .i64 0]) ∧ LoO Bo w' b p A cap ⟨ws, [], fs, 0⟩ ∧ Ext V w' := by
  have hl := hA.len
  have hx0 := (Ext.refl V).alloc (.cells #[.int .i64 a, .int .i64 s] 23)
  have hS := pers_new V #[.int .i64 a, .int .i64 s] 23 _ rfl
  have HX := Lib.hid hx0
  have HAR : Pers (V.alloc (.cells #[.int .i64 a, .int .i64 s] 23)) (fun w => ArO Bo w p A cap ws) := fun w k => hA.ext (hx0.trans k)
  have HF := pers_row (hf.ext hx0)
  have HFL := Lib.hid hfl
  have HR := Lib.hid hr
  obtain ⟨z, hz⟩ : ∃ z, rdA (some ws) (-1) = z := ⟨_, rfl⟩
  have HZ := Lib.hid hz
  have HE : Hid (atA (some ws) (-1) = 2) := Lib.hid (by simp [atA])
  have HL : Hid (lenA (some ws) = (ws.length : Int)) := Lib.hid rfl
  have HB : Hid (∀ w, Ext V w → Bo ≤ w.heap.size) := Lib.hid (fun w hx => by have := lt_of_heap hA.blk; have := hA.base; have := hx.size; omega)
  generalize hn : (ws.length : Int) = n at *
  obtain ⟨q, hq⟩ : ∃ q, mayB a s = q := ⟨_, rfl⟩
  have HQ := Lib.hid hq
  rw [hq] at hin
  clear hx0 hA hf hfl hr hz hq
  go_enter Try.func37, Try.ntmps37
  go_wp2_with fail
  generalize V.alloc (.cells #[.int .i64 a, .int .i64 s] 23) = W at *
  generalize V.heap.size = S at *
  refine (aread_is (some ⟨p, 0, none⟩) (some ws) (-1) z 2 HZ.out HE.out W HAR.here.p).mono ?_
  rintro e wa ⟨rfl, hx⟩
  (replace hS := hS.re hx; replace HAR := HAR.re hx; replace HF := HF.re hx; replace HX := Lib.hid (HX.out.trans hx))
  clear hx
  have gS := hS.cells
  ((first | refine at_baseC (W := wa) ?_ | refine at_base (W := wa) ?_); intro uq; (try go_wp2_with fail))
  have hx3 := uq.2
  have d1 : q = true → decide (n < a) = false ∧ decide (n - a < s) = false := fun h => by have := hin h; simp; omega
  have d2 : wrap64 (n - a) = n - a := IntWalk.wrap64_in _ ⟨by omega, by omega⟩
  have HM := Lib.hid (fun u : ExtOf wa => may_is a s q HQ.out u.1)
  have HAL := Lib.hid (fun u : ExtOf wa => alen_is (some ⟨p, 0, none⟩) (some ws) n HL.out u.1 (HAR.at u.2).p)
  have HRT := Lib.hid (fun u : ExtOf wa => ledright_any a s none fA 0 fc [] fs u.1 (by simp) (by have := HFL.out; omega) ⟨0, 0, by simp, by simp⟩ (HF.at u.2))
  rw [HR.out] at HRT
  have HC0 := Lib.hid (fun u : ExtOf wa => clone_c none 0 [] 0 u.1 rfl (by omega) ⟨0, 0, by simp, by simp⟩)
  have HC1 := Lib.hid (fun u : ExtOf wa => clone_c fA fc fs fs.length u.1 rfl (by have := HFL.out; omega) (HF.at u.2))
  clear hin HR
  cases q
  all_goals
    (try have d3 := d1 rfl)
    clear d1
    (refine wp_region_ext (W := wa) (by kernel_rfl) (by kernel_rfl) (by with_reducible assumption) ?_; (repeat (go_big_quiet_step (first | (go_at_call 15; with_reducible exact Calls.ext_of (HM.out _)) | (go_at_call 74; with_reducible exact Calls.ext_of (HAL.out _))))); refine wpQuiet_nil ?_; intro w1 hx)
    (obtain ⟨uq, rfl⟩ : ∃ u : ExtOf wa, w1 = u.1 := ⟨⟨w1, hx⟩, rfl⟩; clear hx; go_wp2_with fail)
    refine (HRT.out _).mono ?_
    rintro e wb ⟨rfl, hx⟩
    replace hx := uq.2.trans hx
    (obtain ⟨uq, rfl⟩ : ∃ u : ExtOf wa, wb = u.1 := ⟨⟨wb, hx⟩, rfl⟩; clear hx; go_wp2_with fail)
    (refine wp_loop_rounds 1 ?_; rw [rounds_succ]; go_wp2_with fail)
    (try go_wp2_with fail)
    refine (HC0.out _).mono ?_
    rintro e wc ⟨A1, c1, rfl, ho1, hx, -⟩
    have HO1 := Lib.hid (ho1.mono (B' := Bo) (HB.out _ (HX.out.trans uq.2)))
    have hxc := Lib.hid (uq.2.trans hx)
    clear ho1 hx
    go_wp2_with fail
    have Z := HC1.out ⟨wc, hxc.out⟩
    refine Z.mono ?_
    clear Z
    rintro e wd ⟨A2, c2, rfl, ho2, hx, -⟩
    have HO2 := Lib.hid (ho2.mono (B' := Bo) (HB.out _ (HX.out.trans hxc.out)))
    replace HO1 := Lib.hid (HO1.out.ext hx)
    replace hxc := Lib.hid (hxc.out.trans hx)
    clear ho2 hx
    go_wp2_with fail
    ((try simp only [Exit.inBlock, Exit.then]); refine bodyPost_ret (v := .tuple #[.pointer (some ⟨wd.heap.size, 0, none⟩), .int .i64 0]) (by simp only [results, Try.results37]; go_simp) rfl ?_)
    refine ⟨wd.heap.size, rfl, ⟨A1, c1, A2, c2, ⟨World.alloc_heap_new _ _, (HAR.at hxc.out).ext ((Ext.refl _).alloc _), HO1.out.ext ((Ext.refl _).alloc _), HO2.out.ext ((Ext.refl _).alloc _), HB.out _ (HX.out.trans hxc.out)⟩⟩, (HX.out.trans hxc.out).alloc _⟩
end Go.Proofs.Ytkcpfimhbogdcaa

/- A living part: what a store or a write into its arena leaves; los.Pop. -/
set_option linter.unusedSimpArgs false
set_option linter.unusedVariables false
namespace Go.Proofs.Ytkcpfimhbogdcaa
open Go.RowKit Go.Shelf

section
variable {Bo : Nat} {w w' : World} {b p : Nat} {A : Option Addr} {cap : Nat} {tA : Option Addr} {tc : Nat} {fA : Option Addr} {fc : Nat} {s : LoD}
theorem ArO.setOther {ws : List Int} (h : ArO Bo w p A cap ws) {k : Nat} {cs : Array Value} {t : TypeId} {r : Nat × Nat} (hb : w.heap[k]? = some (.cells cs t r)) (h1 : t ≠ 123) (h2 : t ≠ 64) (i : Nat) (v : Value) : ArO Bo (w.setCell ⟨k, i, none⟩ v) p A cap ws := by
  refine ⟨blk_set_other h.blk v (fun e => ?_), h.own.setOther hb h2, h.base, h.len, h.bd⟩
  have := h.blk
  rw [e, hb] at this
  injection this with this
  injection this with _ this _
  exact h1 this
/-- The arena's words were written. -/
theorem LoB.turn (h : LoB Bo w b p A cap tA tc fA fc s) {ws : List Int} (ha : ArO Bo w' p A cap ws) (hg : w.grownBy w' (Value.slice A s.ws.length cap).ownBlock) : LoB Bo w' b p A cap tA tc fA fc ⟨ws, s.tb, s.fr, s.top⟩ :=
  ⟨(hg.block b (lt_of_heap h.blk) (Own.ne_block h.ar.own h.blk (by decide))).trans h.blk, ha, h.tab.keep2 h.ar.own (by decide) hg, h.fre.keep2 h.ar.own (by decide) hg, h.base⟩
theorem LoB.setTop (h : LoB Bo w b p A cap tA tc fA fc s) (t : Int) : LoB Bo (w.setCell ⟨b, 4, none⟩ (.int .i64 t)) b p A cap tA tc fA fc ⟨s.ws, s.tb, s.fr, t⟩ :=
  ⟨by rw [blk_set h.blk]; rfl, h.ar.setOther h.blk (by decide) (by decide) _ _, h.tab.setOther h.blk (by decide), h.fre.setOther h.blk (by decide), h.base⟩
theorem LoB.setTab (h : LoB Bo w b p A cap tA tc fA fc s) {tA2 : Option Addr} {n tc2 : Nat} {tb : List (Int × Int)} (hn : tb.length = n) (ho : Own 23 2 spanC w Bo (.slice tA2 n tc2) tb) : LoB Bo (w.setCell ⟨b, 2, none⟩ (.slice tA2 n tc2)) b p A cap tA2 tc2 fA fc ⟨s.ws, tb, s.fr, s.top⟩ := by
  subst hn
  exact ⟨by rw [blk_set h.blk]; rfl, h.ar.setOther h.blk (by decide) (by decide) _ _, ho.setOther h.blk (by decide), h.fre.setOther h.blk (by decide), h.base⟩
theorem LoB.setFre (h : LoB Bo w b p A cap tA tc fA fc s) {fA2 : Option Addr} {n fc2 : Nat} {fr : List (Int × Int)} (hn : fr.length = n) (ho : Own 23 2 spanC w Bo (.slice fA2 n fc2) fr) : LoB Bo (w.setCell ⟨b, 3, none⟩ (.slice fA2 n fc2)) b p A cap tA tc fA2 fc2 ⟨s.ws, s.tb, fr, s.top⟩ := by
  subst hn
  exact ⟨by rw [blk_set h.blk]; rfl, h.ar.setOther h.blk (by decide) (by decide) _ _, h.tab.setOther h.blk (by decide), ho.setOther h.blk (by decide), h.base⟩
theorem LoB.pers (h : LoB Bo w b p A cap tA tc fA fc s) : Pers w (fun w => LoB Bo w b p A cap tA tc fA fc s) := fun _ k => h.ext k
/-- The part's box, from base on. -/
theorem LoB.box (h : Pers w (fun w => LoB Bo w b p A cap tA tc fA fc s)) : Pers w (fun w => w.heap[b]? = some (.cells #[.bool true, .pointer (some ⟨p, 0, none⟩), .slice tA s.tb.length tc, .slice fA s.fr.length fc, .int .i64 s.top] 102 (0, 0))) := fun w k => (h w k).blk
end
/-- A block stands as it was. -/
def BoxS (b : Nat) (cs : Array Value) (t : TypeId) (w : World) : Prop := w.heap[b]? = some (.cells cs t (0, 0))
section
variable {b : Nat} {cs : Array Value} {t : TypeId} {W : World}
theorem BoxS.cells (h : BoxS b cs t W) (u : KeptOf W (BoxS b cs t)) (i : Nat) : u.1.cell? ⟨b, i, none⟩ = cs[i]? := (cells_of (u.of h)).1 i
end
theorem row_ne {α : Type} {xs : List α} {k : Nat} (hk : k < xs.length) : 0 < xs.length := by omega
set_option maxRecDepth 100000
set_option maxHeartbeats 1000000
section
variable {Bo : Nat} {b p : Nat} {A : Option Addr} {cap : Nat} {tA : Option Addr} {tc : Nat} {fA : Option Addr} {fc : Nat}
theorem lopop_zero (s : LoD) (V : World) (h : LoB Bo V b p A cap tA tc fA fc s) (h0 : s.top < 1) :
    Calls Try.prog 49 #[.pointer (some ⟨b, 0, none⟩)] V fun e w' => e = .returned (.tuple #[.int .i64 0, .bool false]) ∧ Ext V w' := by
  obtain ⟨ws, tb, fr, top⟩ := s
  have hB := LoB.box h.pers
  have HD := Lib.hid (lodead_no (p := some ⟨p, 0, none⟩) (tA := tA) (tb := tb) (tc := tc) (fA := fA) (fr := fr) (fc := fc) (top := top) b V h.blk)
  have HT := Lib.hid h0
  clear h h0
  go_enter Try.func49, Try.ntmps49
  go_wp2_with fail
  refine HD.out.mono ?_
  rintro e wa ⟨rfl, hx⟩
  have HX := Lib.hid hx
  (replace hB := hB.re hx)
  have gB := hB.cells
  have HP := Lib.hid (fun u : ExtOf wa => tpop_out (.pointer (some ⟨p, 0, none⟩)) tA tb tc top HT.out u.1)
  clear hx
  ((first | refine at_baseC (W := wa) ?_ | refine at_base (W := wa) ?_); intro uq; (try go_wp2_with fail))
  have hx3 := uq.2
  (refine wp_region_ext (W := wa) (by kernel_rfl) (by kernel_rfl) (by with_reducible assumption) ?_; (repeat (go_big_quiet_step (first | (go_at_call 108; with_reducible exact Calls.ext_of (HP.out _))))); refine wpQuiet_nil ?_; intro w1 hx)
  (obtain ⟨uq, rfl⟩ : ∃ u : ExtOf wa, w1 = u.1 := ⟨⟨w1, hx⟩, rfl⟩; clear hx; go_wp2_with fail)
  ((try simp only [Exit.inBlock, Exit.then]); refine bodyPost_ret (v := .tuple #[.int .i64 0, .bool false]) (by simp only [results, Try.results49]; go_simp) rfl ?_)
  exact ⟨rfl, HX.out.trans uq.2⟩
end
end Go.Proofs.Ytkcpfimhbogdcaa

/- A living part: los.Pop of a list that is not empty. -/
set_option linter.unusedSimpArgs false
set_option linter.unusedVariables false
namespace Go.Proofs.Ytkcpfimhbogdcaa
open Go.RowKit Go.Shelf

set_option maxRecDepth 100000
set_option maxHeartbeats 1000000
section
variable {Bo : Nat} {b p : Nat} {A : Option Addr} {cap : Nat} {tA : Option Addr} {tc : Nat} {fA : Option Addr} {fc : Nat}
theorem lopop_one (ws : List Int) (tb fr : List (Int × Int)) (k : Nat) (hk : k < tb.length) (hd : Hd) (V : World) (h : LoB Bo V b p A cap tA tc fA fc ⟨ws, tb, fr, (k : Int) + 1⟩) (h1 : headH (some ws) (tb.getD k (0, 0)).1 = hd) (h2 : headE (some ws) (tb.getD k (0, 0)).1 = 0)
    (hi : -9223372036854775808 ≤ (tb.getD k (0, 0)).1 ∧ (tb.getD k (0, 0)).1 ≤ 9223372036854775807) (hlen : tb.length ≤ 400000) (hs : osetE ws (tb.getD k (0, 0)).1 ⟨hd.k, hd.f, hd.r, hd.m, 0⟩ = 0) :
    Calls Try.prog 49 #[.pointer (some ⟨b, 0, none⟩)] V fun e w' => e = .returned (.tuple #[.int .i64 (tb.getD k (0, 0)).1, .bool true]) ∧
      LoTo Bo V b p A cap ws.length ⟨osetL ws (tb.getD k (0, 0)).1 ⟨hd.k, hd.f, hd.r, hd.m, 0⟩, tb, fr, hd.c⟩ w' := by
  have HW := h.pers
  have hB := LoB.box HW
  have HD := Lib.hid (lodead_no (p := some ⟨p, 0, none⟩) (tA := tA) (tb := tb) (tc := tc) (fA := fA) (fr := fr) (fc := fc) (top := (k : Int) + 1) b V h.blk)
  have HK := Lib.hid hk
  obtain ⟨z, hz⟩ : ∃ z, (tb.getD k (0, 0)).1 = z := ⟨_, rfl⟩
  rw [hz] at h1 h2 hi hs ⊢
  have HZ := Lib.hid hz
  have HI := Lib.hid hi
  have HH := Lib.hid h1
  have HE := Lib.hid h2
  have HS := Lib.hid hs
  have HL := Lib.hid hlen
  clear h h1 h2 hi hs hlen hz
  go_enter Try.func49, Try.ntmps49
  go_wp2_with fail
  refine HD.out.mono ?_
  rintro e wa ⟨rfl, hx⟩
  have HX := Lib.hid hx
  (replace HW := HW.re hx; replace hB := hB.re hx)
  clear hx
  go_wp2_with fail
  have hyd := (Ext.refl wa).drew
  have hGP : BoxS b #[.bool true, .pointer (some ⟨p, 0, none⟩), .slice tA tb.length tc, .slice fA fr.length fc, .int .i64 (k + 1)] 102 wa.drew := hB.at hyd
  have gB := hGP.cells
  (refine wp_region_gp (w := wa) (fun w' => ∃ u : KeptOf (wa).drew (BoxS b #[.bool true, .pointer (some ⟨p, 0, none⟩), .slice tA tb.length tc, .slice fA fr.length fc, .int .i64 (k + 1)] 102), w' = u.1) (.rd [0, 1, 2, 3, 4, 5, 6, 7, 8, 9, 10, 11] (.one 12 (.rd [13, 14, 15, 16, 17, 18, 19] .tl))) [] (by kernel_rfl) (by kernel_rfl) (by intro c a d v w h; first | exact h | (cases d <;> first | exact h | (cases h; done) | cases h.1.1 | cases h.1)) (kept_mk hGP) ?_)
  (refine gp_rd ?_; (try simp only [opsOf, List.map_cons, List.map_nil, List.getD_cons_zero, List.getD_cons_succ]); (repeat (go_big_quiet_step (fail))); refine wpQuiet_nil ?_)
  clear gB hGP
  (replace HW := HW.re hyd)
  replace HX := Lib.hid (HX.out.trans hyd)
  clear hyd
  generalize wa.drew = W2 at *
  (refine gp_one (by (try simp only [List.getD_cons_succ, List.getD_cons_zero]); rfl) (by rfl) ?_; intro K hK; go_simp)
  have Z := tpop_in p A cap ws tA tb tc k HK.out hd Bo W2 (by rw [HZ.out]; exact HH.out) (by rw [HZ.out]; exact HE.out) HW.here.ar HW.here.tab.spans (by rw [HZ.out]; exact HI.out) (by have := HL.out; omega)
  rw [HZ.out, HS.out] at Z
  refine Z.mono ?_
  clear Z
  rintro e w3 ⟨rfl, ha, hg⟩
  have hT : LoB Bo w3 b p A cap tA tc fA fc ⟨osetL ws z ⟨hd.k, hd.f, hd.r, hd.m, 0⟩, tb, fr, (k : Int) + 1⟩ := HW.here.turn ha hg
  have HG := Lib.hid ((Two.of_ext HX.out).trans (Two.of_grown (b := b) hg))
  refine hK _ _ _ (fun _ h => h) (kept_mk hT.blk) ?_
  clear hK K ha hg HX
  have HT := Lib.hid hT
  have gB := (cells_of hT.blk).1
  have fB := (cells_of hT.blk).2
  clear hT hB HW
  (refine gp_rd ?_; (try simp only [opsOf, List.map_cons, List.map_nil, List.getD_cons_zero, List.getD_cons_succ]); (repeat (go_big_quiet_step (fail))); refine wpQuiet_nil ?_)
  (refine gp_tl ?_; (try simp only [opsOf, List.map_cons, List.map_nil, List.getD_cons_zero, List.getD_cons_succ]))
  obtain ⟨lb, rfl, -, -⟩ := own_some HT.out.tab (by intro e; have := HK.out; simp only at e; rw [e] at this; simp at this)
  obtain ⟨lb', off, e0, hc⟩ := HT.out.tab.spans.get (row_ne HK.out)
  simp only [Option.some.injEq, Addr.mk.injEq, and_true] at e0
  obtain ⟨rfl, rfl⟩ := e0
  obtain ⟨j1, -⟩ := spans_cell hc HK.out
  have ib0 : (0 : Int) ≤ (k : Int) := by omega
  have ib1 : (k : Int) < (tb.length : Int) := by have := HK.out; omega
  have hne0 := Own.ne_block HT.out.tab HT.out.blk (by decide)
  have hne : lb ≠ b := fun e => hne0 (by rw [e]; rfl)
  clear hc hne0
  simp only [HZ.out, Nat.zero_add] at j1
  go_wp2_with fail
  ((try simp only [Exit.inBlock, Exit.then]); refine bodyPost_ret (v := .tuple #[.int .i64 z, .bool true]) (by simp only [results, Try.results49]; go_simp) rfl ?_)
  exact ⟨rfl, ⟨_, _, _, _, HT.out.setTop hd.c⟩, HG.out.set 4 _⟩
end
end Go.Proofs.Ytkcpfimhbogdcaa

/- A living part: los.Mark. -/
set_option linter.unusedSimpArgs false
set_option linter.unusedVariables false
namespace Go.Proofs.Ytkcpfimhbogdcaa
open Go.RowKit Go.Shelf

/-- Two blocks stand as they were. -/
def Box2S (b : Nat) (cs : Array Value) (t : TypeId) (b2 : Nat) (cs2 : Array Value) (t2 : TypeId) (w : World) : Prop := w.heap[b]? = some (.cells cs t (0, 0)) ∧ w.heap[b2]? = some (.cells cs2 t2 (0, 0))
section
variable {b : Nat} {cs : Array Value} {t : TypeId} {b2 : Nat} {cs2 : Array Value} {t2 : TypeId} {W : World}
theorem Box2S.one (h : Box2S b cs t b2 cs2 t2 W) (u : KeptOf W (Box2S b cs t b2 cs2 t2)) (i : Nat) : u.1.cell? ⟨b, i, none⟩ = cs[i]? := (cells_of (u.of h).1).1 i
theorem Box2S.two (h : Box2S b cs t b2 cs2 t2 W) (u : KeptOf W (Box2S b cs t b2 cs2 t2)) (i : Nat) : u.1.cell? ⟨b2, i, none⟩ = cs2[i]? := (cells_of (u.of h).2).1 i
end
set_option maxRecDepth 100000
set_option maxHeartbeats 1000000
section
variable {Bo : Nat} {b p : Nat} {A : Option Addr} {cap : Nat} {tA : Option Addr} {tc : Nat} {fA : Option Addr} {fc : Nat}
theorem lomark_none (s : LoD) (z : Int) (V : World) (h : LoB Bo V b p A cap tA tc fA fc s) (hlen : s.tb.length ≤ 400000) (h0 : idxZ (findP z) s.tb = -1) :
    Calls Try.prog 48 #[.pointer (some ⟨b, 0, none⟩), .int .i64 z] V fun e w' => e = .returned (.tuple #[.bool false, .int .i64 2]) ∧ Ext V w' := by
  obtain ⟨ws, tb, fr, top⟩ := s
  have HW := h.pers
  have HD := Lib.hid (lodead_no (p := some ⟨p, 0, none⟩) (tA := tA) (tb := tb) (tc := tc) (fA := fA) (fr := fr) (fc := fc) (top := top) b V h.blk)
  have HI := Lib.hid h0
  have HL := Lib.hid hlen
  clear h h0 hlen
  go_enter Try.func48, Try.ntmps48
  go_wp2_with fail
  refine HD.out.mono ?_
  rintro e wa ⟨rfl, hx⟩
  have HX := Lib.hid hx
  (replace HW := HW.re hx)
  clear hx
  have gB := (LoB.box HW).cells
  ((first | refine at_baseC (W := wa) ?_ | refine at_base (W := wa) ?_); intro uq; (try go_wp2_with fail))
  refine (find_c tA tc tb z (-1) _ uq.1 rfl HI.out (by have := HL.out; omega) (HW.at uq.2).tab.spans).mono ?_
  rintro e wb ⟨rfl, hx⟩
  replace HX := Lib.hid (HX.out.trans (uq.2.trans hx))
  clear hx
  go_wp2_with fail
  ((try simp only [Exit.inBlock, Exit.then]); refine bodyPost_ret (v := .tuple #[.bool false, .int .i64 2]) (by simp only [results, Try.results48]; go_simp) rfl ?_)
  exact ⟨rfl, HX.out⟩
/-- The object is marked already. -/
theorem lomark_again (s : LoD) (z : Int) (k : Nat) (hd : Hd) (V : World) (h : LoB Bo V b p A cap tA tc fA fc s) (hlen : s.tb.length ≤ 400000) (h0 : idxZ (findP z) s.tb = (k : Int)) (h1 : headH (some s.ws) z = hd) (h2 : headE (some s.ws) z = 0) (hm : hd.m = true)
    (hi : -9223372036854775808 ≤ z ∧ z ≤ 9223372036854775807) :
    Calls Try.prog 48 #[.pointer (some ⟨b, 0, none⟩), .int .i64 z] V fun e w' => e = .returned (.tuple #[.bool false, .int .i64 0]) ∧ Ext V w' := by
  obtain ⟨ws, tb, fr, top⟩ := s
  have HW := h.pers
  have HD := Lib.hid (lodead_no (p := some ⟨p, 0, none⟩) (tA := tA) (tb := tb) (tc := tc) (fA := fA) (fr := fr) (fc := fc) (top := top) b V h.blk)
  have HI := Lib.hid h0
  have HL := Lib.hid hlen
  have H1 := Lib.hid h1
  have H2 := Lib.hid h2
  have HZ := Lib.hid hi
  obtain ⟨hk, hf, hr, hm', hc⟩ := hd
  simp only at hm
  subst hm
  clear h h0 hlen h1 h2 hi
  go_enter Try.func48, Try.ntmps48
  go_wp2_with fail
  refine HD.out.mono ?_
  rintro e wa ⟨rfl, hx⟩
  have HX := Lib.hid hx
  (replace HW := HW.re hx)
  clear hx
  have gB := (LoB.box HW).cells
  ((first | refine at_baseC (W := wa) ?_ | refine at_base (W := wa) ?_); intro uq; (try go_wp2_with fail))
  refine (find_c tA tc tb z (k : Int) _ uq.1 rfl HI.out (by have := HL.out; omega) (HW.at uq.2).tab.spans).mono ?_
  rintro e wb ⟨rfl, hx⟩
  replace HX := Lib.hid (HX.out.trans (uq.2.trans hx))
  replace hx := uq.2.trans hx
  (replace HW := HW.re hx)
  clear hx gB
  have gB := (LoB.box HW).cells
  ((first | refine at_baseC (W := wb) ?_ | refine at_base (W := wb) ?_); intro uq; (try go_wp2_with fail))
  refine (ohead_is (some ⟨p, 0, none⟩) (some ws) z ⟨hk, hf, hr, true, hc⟩ 0 H1.out H2.out _ (HW.at uq.2).ar.p HZ.out).mono ?_
  rintro e wc ⟨rfl, hx⟩
  replace HX := Lib.hid (HX.out.trans (uq.2.trans hx))
  clear hx gB
  go_wp2_with fail
  ((try simp only [Exit.inBlock, Exit.then]); refine bodyPost_ret (v := .tuple #[.bool false, .int .i64 0]) (by simp only [results, Try.results48]; go_simp) rfl ?_)
  exact ⟨rfl, HX.out.alloc _⟩
end
end Go.Proofs.Ytkcpfimhbogdcaa

/- A living part: los.Mark of an object that is not marked. -/
set_option linter.unusedSimpArgs false
set_option linter.unusedVariables false
namespace Go.Proofs.Ytkcpfimhbogdcaa
open Go.RowKit Go.Shelf
set_option maxRecDepth 100000
set_option maxHeartbeats 1000000
section
variable {Bo : Nat} {b p : Nat} {A : Option Addr} {cap : Nat} {tA : Option Addr} {tc : Nat} {fA : Option Addr} {fc : Nat}
theorem lomark_first (ws : List Int) (tb fr : List (Int × Int)) (top z : Int) (k : Nat) (hk hf hr hc : Int) (V : World) (h : LoB Bo V b p A cap tA tc fA fc ⟨ws, tb, fr, top⟩) (hlen : tb.length ≤ 400000) (hkl : k < tb.length) (hz : (tb.getD k (0, 0)).1 = z) (h0 : idxZ (findP z) tb = (k : Int))
    (h1 : headH (some ws) z = ⟨hk, hf, hr, false, hc⟩) (h2 : headE (some ws) z = 0) (hi : -9223372036854775808 ≤ z ∧ z ≤ 9223372036854775807) (hs : osetE ws z ⟨hk, hf, hr, true, hc⟩ = 0)
    (wt : List Int) (hwt : osetL ws z ⟨hk, hf, hr, true, hc⟩ = wt) (h3 : headH (some wt) z = ⟨hk, hf, hr, true, hc⟩) (h4 : headE (some wt) z = 0) (htop : 0 ≤ top ∧ top ≤ 1048576) (hs2 : osetE wt z ⟨hk, hf, hr, true, top⟩ = 0) :
    Calls Try.prog 48 #[.pointer (some ⟨b, 0, none⟩), .int .i64 z] V fun e w' => e = .returned (.tuple #[.bool true, .int .i64 0]) ∧
      LoTo Bo V b p A cap ws.length ⟨osetL wt z ⟨hk, hf, hr, true, top⟩, tb, fr, (k : Int) + 1⟩ w' := by
  have HW := h.pers
  have HD := Lib.hid (lodead_no (p := some ⟨p, 0, none⟩) (tA := tA) (tb := tb) (tc := tc) (fA := fA) (fr := fr) (fc := fc) (top := top) b V h.blk)
  have HWL : Hid (wt.length = ws.length) := Lib.hid (by rw [← hwt, osetL, if_pos hs, List.length_set])
  have HI := Lib.hid h0
  have HL := Lib.hid hlen
  have HKL := Lib.hid hkl
  have H1 := Lib.hid h1
  have H2 := Lib.hid h2
  have H3 := Lib.hid h3
  have H4 := Lib.hid h4
  have HS := Lib.hid hs
  have HS2 := Lib.hid hs2
  have HWT := Lib.hid hwt
  have HZZ := Lib.hid hz
  have HZ := Lib.hid hi
  have HTP := Lib.hid htop
  clear h h0 hlen h1 h2 hi hs hwt h3 h4 htop hs2 hz hkl
  go_enter Try.func48, Try.ntmps48
  go_wp2_with fail
  refine HD.out.mono ?_
  rintro e wa ⟨rfl, hx⟩
  have HX := Lib.hid hx
  (replace HW := HW.re hx)
  clear hx
  have gB := (LoB.box HW).cells
  ((first | refine at_baseC (W := wa) ?_ | refine at_base (W := wa) ?_); intro uq; (try go_wp2_with fail))
  refine (find_c tA tc tb z (k : Int) _ uq.1 rfl HI.out (by have := HL.out; omega) (HW.at uq.2).tab.spans).mono ?_
  rintro e wb ⟨rfl, hx⟩
  replace HX := Lib.hid (HX.out.trans (uq.2.trans hx))
  replace hx := uq.2.trans hx
  (replace HW := HW.re hx)
  clear hx gB uq
  have gB := (LoB.box HW).cells
  ((first | refine at_baseC (W := wb) ?_ | refine at_base (W := wb) ?_); intro uq; (try go_wp2_with fail))
  refine (ohead_is (some ⟨p, 0, none⟩) (some ws) z ⟨hk, hf, hr, false, hc⟩ 0 H1.out H2.out _ (HW.at uq.2).ar.p HZ.out).mono ?_
  rintro e wc ⟨rfl, hx⟩
  replace HX := Lib.hid (HX.out.trans (uq.2.trans hx))
  replace hx := uq.2.trans hx
  (replace HW := HW.re hx)
  clear hx gB uq
  have dk : decide ((k : Int) < 0) = false := by simp
  go_wp2_with fail
  have hy := (Ext.refl wc).alloc (.cells #[.int .i64 hk, .int .i64 hf, .int .i64 hr, .bool true, .int .i64 hc] 47)
  have hH := pers_new wc #[.int .i64 hk, .int .i64 hf, .int .i64 hr, .bool true, .int .i64 hc] 47 _ rfl
  (replace HW := HW.re hy; replace HX := Lib.hid (HX.out.trans hy))
  clear hy
  generalize wc.alloc (.cells #[.int .i64 hk, .int .i64 hf, .int .i64 hr, .bool true, .int .i64 hc] 47) = W at *
  generalize wc.heap.size = H at *
  have hyd := (Ext.refl W).drew
  have hGP : Box2S b #[.bool true, .pointer (some ⟨p, 0, none⟩), .slice tA tb.length tc, .slice fA fr.length fc, .int .i64 top] 102 H #[.int .i64 hk, .int .i64 hf, .int .i64 hr, .bool true, .int .i64 hc] 47 W.drew := ⟨(HW.at hyd).blk, hH.at hyd⟩
  have gB := hGP.one
  have gH := hGP.two
  (refine wp_region_gp (w := W) (fun w' => ∃ u : KeptOf (W).drew (Box2S b #[.bool true, .pointer (some ⟨p, 0, none⟩), .slice tA tb.length tc, .slice fA fr.length fc, .int .i64 top] 102 H #[.int .i64 hk, .int .i64 hf, .int .i64 hr, .bool true, .int .i64 hc] 47), w' = u.1) (.rd [0, 1, 2, 3, 4, 5] (.bar [] (.one 6 (.rd [7] .tl)))) [6, 7] (by kernel_rfl) (by kernel_rfl) (by intro c a d v w h; first | exact h | (cases d <;> first | exact h | (cases h; done) | cases h.1.1 | cases h.1)) (kept_mk hGP) ?_)
  (refine gp_rd ?_; (try simp only [opsOf, List.map_cons, List.map_nil, List.getD_cons_zero, List.getD_cons_succ]); (repeat (go_big_quiet_step (fail))); refine wpQuiet_nil ?_)
  clear gB gH hGP
  (replace HW := HW.re hyd; replace HX := Lib.hid (HX.out.trans hyd); replace hH := hH.re hyd)
  clear hyd
  generalize W.drew = W2 at *
  (refine gp_bar (fun _ => True) trivial ?_)
  (refine gp_one (by (try simp only [List.getD_cons_succ, List.getD_cons_zero]); rfl) (by rfl) ?_; intro K hK; go_simp)
  have Z := osethead_any p A cap ws z ⟨hk, hf, hr, true, hc⟩ Bo W2 HW.here.ar HZ.out
  rw [HS.out, HWT.out] at Z
  refine Z.mono ?_
  clear Z
  rintro e w3 ⟨rfl, ha, hg⟩
  have hT : LoB Bo w3 b p A cap tA tc fA fc ⟨wt, tb, fr, top⟩ := HW.here.turn ha hg
  have HG := Lib.hid ((Two.of_ext HX.out).trans (Two.of_grown (b := b) hg))
  refine hK _ _ _ (fun _ h => h) trivial ?_
  clear hK K ha hg HX HW hH
  have HW := hT.pers
  clear hT
  (refine gp_rd ?_; (try simp only [opsOf, List.map_cons, List.map_nil, List.getD_cons_zero, List.getD_cons_succ]); (repeat (go_big_quiet_step (fail))); refine wpQuiet_nil ?_)
  (refine gp_tl ?_; (try simp only [opsOf, List.map_cons, List.map_nil, List.getD_cons_zero, List.getD_cons_succ]))
  go_wp2_with fail
  have hyd := (Ext.refl w3).drew
  have hGP : BoxS b #[.bool true, .pointer (some ⟨p, 0, none⟩), .slice tA tb.length tc, .slice fA fr.length fc, .int .i64 top] 102 w3.drew := (HW.at hyd).blk
  have gB := hGP.cells
  (refine wp_region_gp (w := w3) (fun _ => True) (.rd [0] (.wk [14, 15, 16, 17, 18, 19, 20, 21] (.rd [1, 2, 3, 4, 5, 6, 7, 8, 9, 10, 11, 12, 13] (.bar [] (.one 14 (.rd [15, 16, 17, 18, 19] (.one 20 (.rd [21] .tl)))))))) [] (by kernel_rfl) (by kernel_rfl) (by intro c a d v w h; first | exact h | (cases d <;> first | exact h | (cases h; done) | cases h.1.1 | cases h.1)) trivial ?_; (refine gp_rd ?_; (try simp only [opsOf, List.map_cons, List.map_nil, List.getD_cons_zero, List.getD_cons_succ]); (repeat (go_big_quiet_step (fail))); refine wpQuiet_nil ?_); refine gp_wk (fun _ => trivial) (fun w' => ∃ u : KeptOf (w3).drew (BoxS b #[.bool true, .pointer (some ⟨p, 0, none⟩), .slice tA tb.length tc, .slice fA fr.length fc, .int .i64 top] 102), w' = u.1) (kept_mk hGP) ?_)
  (refine gp_rd ?_; (try simp only [opsOf, List.map_cons, List.map_nil, List.getD_cons_zero, List.getD_cons_succ]); (repeat (go_big_quiet_step (fail))); refine wpQuiet_nil ?_)
  clear gB hGP
  (replace HW := HW.re hyd)
  replace HG := Lib.hid (HG.out.trans (Two.of_ext hyd))
  clear hyd
  generalize w3.drew = W4 at *
  (refine gp_bar (fun _ => True) trivial ?_)
  (refine gp_one (by (try simp only [List.getD_cons_succ, List.getD_cons_zero]); rfl) (by rfl) ?_; intro K hK; go_simp)
  have Z := tpush_in p A cap wt tA tb tc k HKL.out ⟨hk, hf, hr, true, hc⟩ Bo W4 (by rw [HZZ.out]; exact H3.out) (by rw [HZZ.out]; exact H4.out) HW.here.ar HW.here.tab.spans (by rw [HZZ.out]; exact HZ.out) (by have := HL.out; omega) top HTP.out
  rw [HZZ.out, HS2.out] at Z
  refine Z.mono ?_
  clear Z
  rintro e w5 ⟨rfl, ha, hg⟩
  have hT : LoB Bo w5 b p A cap tA tc fA fc ⟨osetL wt z ⟨hk, hf, hr, true, top⟩, tb, fr, top⟩ := HW.here.turn ha hg
  rw [HWL.out] at hg
  replace HG := Lib.hid (HG.out.trans (Two.of_grown (b := b) hg))
  refine hK _ _ _ (fun _ h => h) trivial ?_
  clear hK K ha hg HW
  have gB := (cells_of hT.blk).1
  have fB := (cells_of hT.blk).2
  have HT := Lib.hid hT
  clear hT
  (refine gp_rd ?_; (try simp only [opsOf, List.map_cons, List.map_nil, List.getD_cons_zero, List.getD_cons_succ]); (repeat (go_big_quiet_step (fail))); refine wpQuiet_nil ?_)
  (refine gp_one (by (try simp only [List.getD_cons_succ, List.getD_cons_zero]); rfl) (by rfl) ?_; intro K hK; go_simp)
  refine hK _ _ _ (fun _ h => h) trivial ?_
  clear hK K
  (refine gp_rd ?_; (try simp only [opsOf, List.map_cons, List.map_nil, List.getD_cons_zero, List.getD_cons_succ]); (repeat (go_big_quiet_step (fail))); refine wpQuiet_nil ?_)
  (refine gp_tl ?_; (try simp only [opsOf, List.map_cons, List.map_nil, List.getD_cons_zero, List.getD_cons_succ]))
  go_wp2_with fail
  ((try simp only [Exit.inBlock, Exit.then]); refine bodyPost_ret (v := .tuple #[.bool true, .int .i64 0]) (by simp only [results, Try.results48]; go_simp) rfl ?_)
  exact ⟨rfl, ⟨_, _, _, _, HT.out.setTop _⟩, HG.out.set 4 _⟩
end
end Go.Proofs.Ytkcpfimhbogdcaa

/- A living part: los.Put. -/
set_option linter.unusedSimpArgs false
set_option linter.unusedVariables false
namespace Go.Proofs.Ytkcpfimhbogdcaa
open Go.RowKit Go.Shelf

/-- What Put comes to. -/
inductive PutPost (Bo : Nat) (V : World) (b p : Nat) (A : Option Addr) (cap : Nat) (ws : List Int) (tb fr : List (Int × Int)) (top : Int) (h : Hd) (e : Ending) (w' : World) : Prop where
  | none (h0 : hsize h = 0) (he : e = .returned (.tuple #[.int .i64 0, .int .i64 1])) (hx : Ext V w')
  | full (ys : List (Int × Int)) (q er : Int) (h0 : hsize h ≠ 0) (ht : TakeRes (hsize h) fr ys q er) (h1 : er ≠ 0) (he : e = .returned (.tuple #[.int .i64 0, .int .i64 er])) (hx : Ext V w')
  | put (ys : List (Int × Int)) (q : Int) (h0 : hsize h ≠ 0) (ht : TakeRes (hsize h) fr ys q 0) (he : e = .returned (.tuple #[.int .i64 q, .int .i64 (putE ws q h)])) (hl : LoTo Bo V b p A cap ws.length ⟨putL ws q h, addL q (hsize h) tb, ys, top⟩ w')
set_option maxRecDepth 100000
set_option maxHeartbeats 1000000
section
variable {Bo : Nat} {b p : Nat} {A : Option Addr} {cap : Nat} {tA : Option Addr} {tc : Nat} {fA : Option Addr} {fc : Nat}
theorem loput_any (ws : List Int) (tb fr : List (Int × Int)) (top : Int) (h : Hd) (V : World) (hb : LoB Bo V b p A cap tA tc fA fc ⟨ws, tb, fr, top⟩) (hlen : tb.length ≤ 300000) (hlen2 : fr.length ≤ 300000)
    (hadd : ∀ ys q, TakeRes (hsize h) fr ys q 0 → mayB q (hsize h) = true ∧ tb.any (giveP q (hsize h)) = false) :
    Calls Try.prog 46 #[.pointer (some ⟨b, 0, none⟩), .agg #[.int .i64 h.k, .int .i64 h.f, .int .i64 h.r, .bool h.m, .int .i64 h.c]] V (PutPost Bo V b p A cap ws tb fr top h) := by
  have HBo : Hid (∀ w, Ext V w → Bo ≤ w.heap.size) := Lib.hid (fun w hx => by have := lt_of_heap hb.blk; have := hb.base; have := hx.size; omega)
  have hx0 := (Ext.refl V).alloc (.cells #[.int .i64 h.k, .int .i64 h.f, .int .i64 h.r, .bool h.m, .int .i64 h.c] 47)
  have hH := pers_new V #[.int .i64 h.k, .int .i64 h.f, .int .i64 h.r, .bool h.m, .int .i64 h.c] 47 _ rfl
  have HW := hb.pers.re hx0
  have HX := Lib.hid hx0
  have HL := Lib.hid hlen
  have HL2 := Lib.hid hlen2
  have HA := Lib.hid hadd
  have HD := Lib.hid (lodead_no (p := some ⟨p, 0, none⟩) (tA := tA) (tb := tb) (tc := tc) (fA := fA) (fr := fr) (fc := fc) (top := top) b _ HW.here.blk)
  obtain ⟨n, hn⟩ : ∃ n, hsize h = n := ⟨_, rfl⟩
  have HN := Lib.hid hn
  have HZ := Lib.hid (fun w => hsize_is h n hn w)
  clear hb hlen hlen2 hadd hx0 hn
  go_enter Try.func46, Try.ntmps46
  go_wp2_with fail
  generalize V.alloc (.cells #[.int .i64 h.k, .int .i64 h.f, .int .i64 h.r, .bool h.m, .int .i64 h.c] 47) = W at *
  generalize V.heap.size = H at *
  refine HD.out.mono ?_
  rintro e wa ⟨rfl, hx⟩
  (replace HW := HW.re hx; replace hH := hH.re hx; replace HX := Lib.hid (HX.out.trans hx))
  clear hx
  have gB := (LoB.box HW).cells
  have gH := hH.cells
  ((first | refine at_baseC (W := wa) ?_ | refine at_base (W := wa) ?_); intro uq; (try go_wp2_with fail))
  refine (HZ.out _).mono ?_
  rintro e wb ⟨rfl, hx⟩
  replace hx := uq.2.trans hx
  (replace HW := HW.re hx; replace hH := hH.re hx; replace HX := Lib.hid (HX.out.trans hx))
  clear hx gB gH uq
  by_cases h0 : n = 0
  · subst h0
    go_wp2_with fail
    ((try simp only [Exit.inBlock, Exit.then]); refine bodyPost_ret (v := .tuple #[.int .i64 0, .int .i64 1]) (by simp only [results, Try.results46]; go_simp) rfl ?_)
    exact .none HN.out rfl HX.out
  have d0 : (n == 0) = false := by simpa using h0
  have HN0 := Lib.hid h0
  clear h0
  have gB := (LoB.box HW).cells
  ((first | refine at_baseC (W := wb) ?_ | refine at_base (W := wb) ?_); intro uq; (try go_wp2_with fail))
  refine (take_own fA fc fr n uq.1 (by have := HL2.out; omega) (HW.at uq.2).fre.spans).mono ?_
  rintro e wc ⟨ys, q, er, m, fA2, fc2, hres, rfl, rfl, ho, hx⟩
  replace ho := ho.mono (HBo.out _ (HX.out.trans uq.2))
  replace hx := uq.2.trans hx
  (replace HW := HW.re hx; replace hH := hH.re hx; replace HX := Lib.hid (HX.out.trans hx))
  clear hx gB uq
  have HR := Lib.hid hres
  have HF := pers_own ho
  clear hres ho
  by_cases h1 : er = 0
  rotate_left
  · have d1 : (er != 0) = true := by simpa using h1
    go_wp2_with fail
    ((try simp only [Exit.inBlock, Exit.then]); refine bodyPost_ret (v := .tuple #[.int .i64 0, .int .i64 er]) (by simp only [results, Try.results46]; go_simp) rfl ?_)
    exact .full ys q er (by rw [HN.out]; exact HN0.out) (by rw [HN.out]; exact HR.out) h1 rfl HX.out
  subst h1
  have gB := (LoB.box HW).cells
  ((first | refine at_baseC (W := wc) ?_ | refine at_base (W := wc) ?_); intro uq; (try go_wp2_with fail))
  refine (add_own tA tc tb q n uq.1 (by have := HL.out; omega) (HW.at uq.2).tab.spans).mono ?_
  rintro e wd ⟨zs, er2, m, tA2, tc2, hres, rfl, rfl, ho, hx⟩
  obtain ⟨hm1, hm2⟩ := HA.out ys q (by rw [HN.out]; exact HR.out)
  rw [HN.out] at hm1 hm2
  have HQ : Hid (-9223372036854775808 ≤ q ∧ q ≤ 9223372036854775807) := Lib.hid (by obtain ⟨q1, q2, q3, q4⟩ := may_bd hm1; constructor <;> omega)
  obtain ⟨rfl, rfl⟩ : zs = addL q n tb ∧ er2 = 0 := by
    rcases hres with ⟨h, _⟩ | ⟨_, h, _⟩ | ⟨_, _, h, h'⟩
    · rw [hm1] at h; cases h
    · rw [hm2] at h; cases h
    · exact ⟨h, h'⟩
  replace ho := ho.mono (HBo.out _ (HX.out.trans uq.2))
  replace hx := uq.2.trans hx
  (replace HW := HW.re hx; replace hH := hH.re hx; replace HX := Lib.hid (HX.out.trans hx); replace HF := HF.re hx)
  have HT := pers_own ho
  clear hx gB uq hres ho hm1 hm2
  have gB := (cells_of HW.here.blk).1
  have fB := (cells_of HW.here.blk).2
  go_wp2_with fail
  have hT : LoB Bo ((wd.setCell ⟨b, 3, none⟩ (.slice fA2 ys.length fc2)).setCell ⟨b, 2, none⟩ (.slice tA2 (addL q n tb).length tc2)) b p A cap tA2 tc2 fA2 fc2 ⟨ws, addL q n tb, ys, top⟩ := (HW.here.setFre rfl HF.here).setTab rfl (HT.here.setOther HW.here.blk (by decide))
  have hne : H ≠ b := fun e => by
    have h1 := hH.here
    have h2 := HW.here.blk
    rw [e, h2] at h1
    injection h1 with h1
    injection h1 with _ h1 _
    revert h1
    decide
  have hH2 : ((wd.setCell ⟨b, 3, none⟩ (.slice fA2 ys.length fc2)).setCell ⟨b, 2, none⟩ (.slice tA2 (addL q n tb).length tc2)).heap[H]? = some (.cells #[.int .i64 h.k, .int .i64 h.f, .int .i64 h.r, .bool h.m, .int .i64 h.c] 47 (0, 0)) := blk_set_other (blk_set_other hH.here _ hne) _ hne
  have HG : Hid (Two b (Value.slice A ws.length cap).ownBlock V ((wd.setCell ⟨b, 3, none⟩ (.slice fA2 ys.length fc2)).setCell ⟨b, 2, none⟩ (.slice tA2 (addL q n tb).length tc2))) := Lib.hid (((Two.of_ext HX.out).set 3 _).set 2 _)
  clear gB fB HW hH HX HF HT hne
  generalize (wd.setCell ⟨b, 3, none⟩ (.slice fA2 ys.length fc2)).setCell ⟨b, 2, none⟩ (.slice tA2 (addL q n tb).length tc2) = W1 at *
  have HW := hT.pers
  have hH := pers_blk hH2
  clear hT hH2
  have hyd := (Ext.refl W1).drew
  have hGP : Box2S b #[.bool true, .pointer (some ⟨p, 0, none⟩), .slice tA2 (addL q n tb).length tc2, .slice fA2 ys.length fc2, .int .i64 top] 102 H #[.int .i64 h.k, .int .i64 h.f, .int .i64 h.r, .bool h.m, .int .i64 h.c] 47 W1.drew := ⟨(HW.at hyd).blk, hH.at hyd⟩
  have gB := hGP.one
  have gH := hGP.two
  (refine wp_region_gp (w := W1) (fun _ => True) (.rd [0] (.wk [7, 8, 9] (.rd [1, 2, 3, 4, 5, 6] (.bar [] (.one 7 (.rd [8, 9] .tl)))))) [] (by kernel_rfl) (by kernel_rfl) (by intro c a d v w h; first | exact h | (cases d <;> first | exact h | (cases h; done) | cases h.1.1 | cases h.1)) trivial ?_; (refine gp_rd ?_; (try simp only [opsOf, List.map_cons, List.map_nil, List.getD_cons_zero, List.getD_cons_succ]); (repeat (go_big_quiet_step (fail))); refine wpQuiet_nil ?_); refine gp_wk (fun _ => trivial) (fun w' => ∃ u : KeptOf (W1).drew (Box2S b #[.bool true, .pointer (some ⟨p, 0, none⟩), .slice tA2 (addL q n tb).length tc2, .slice fA2 ys.length fc2, .int .i64 top] 102 H #[.int .i64 h.k, .int .i64 h.f, .int .i64 h.r, .bool h.m, .int .i64 h.c] 47), w' = u.1) (kept_mk hGP) ?_)
  (refine gp_rd ?_; (try simp only [opsOf, List.map_cons, List.map_nil, List.getD_cons_zero, List.getD_cons_succ]); (repeat (go_big_quiet_step (fail))); refine wpQuiet_nil ?_)
  clear gB gH hGP hH
  (replace HW := HW.re hyd)
  replace HG := Lib.hid (HG.out.trans (Two.of_ext hyd))
  clear hyd
  generalize W1.drew = W2 at *
  (refine gp_bar (fun _ => True) trivial ?_)
  (refine gp_one (by (try simp only [List.getD_cons_succ, List.getD_cons_zero]); rfl) (by rfl) ?_; intro K hK; go_simp)
  refine (put_any p A cap ws q h Bo W2 HW.here.ar HQ.out).mono ?_
  rintro e w3 ⟨rfl, ha, hg⟩
  have HT := Lib.hid (HW.here.turn ha hg)
  replace HG := Lib.hid (HG.out.trans (Two.of_grown (b := b) hg))
  refine hK _ _ _ (fun _ h => h) trivial ?_
  clear hK K ha hg HW
  (refine gp_rd ?_; (try simp only [opsOf, List.map_cons, List.map_nil, List.getD_cons_zero, List.getD_cons_succ]); (repeat (go_big_quiet_step (fail))); refine wpQuiet_nil ?_)
  (refine gp_tl ?_; (try simp only [opsOf, List.map_cons, List.map_nil, List.getD_cons_zero, List.getD_cons_succ]))
  go_wp2_with fail
  ((try simp only [Exit.inBlock, Exit.then]); refine bodyPost_ret (v := .tuple #[.int .i64 q, .int .i64 (putE ws q h)]) (by simp only [results, Try.results46]; go_simp) rfl ?_)
  exact .put ys q (by rw [HN.out]; exact HN0.out) (by rw [HN.out]; exact HR.out) rfl ⟨⟨_, _, _, _, by rw [HN.out]; exact HT.out⟩, HG.out⟩
end
end Go.Proofs.Ytkcpfimhbogdcaa

/- A living part: los.Sweep: what it comes to; its first loop. -/
set_option linter.unusedSimpArgs false
set_option linter.unusedVariables false
namespace Go.Proofs.Ytkcpfimhbogdcaa
open Go.RowKit Go.Shelf

/-- All orders come to one act (but for an address) and a world of which C holds. -/
inductive JoinAt (A : Nat → Act) (C : Nat → World → Prop) : Exit → Act → World → Prop where
  | mk (Y : Nat) (w : World) (h : C Y w) : JoinAt A C .normal (A Y) w
theorem wp_join {P : Program} {c : Code} {Q : Exit → Act → World → Prop} {a : Act} {w : World} {A : Nat → Act} (C : Nat → World → Prop) (h : c.wp P (JoinAt A C) a w) (k : ∀ Y w, C Y w → Q .normal (A Y) w) : c.wp P Q a w :=
  Code.wp_mono (by rintro e a w ⟨Y, w, h⟩; exact k Y w h) h
theorem join_at {A : Nat → Act} {C : Nat → World → Prop} {w : World} (Y : Nat) (h : C Y w) : JoinAt A C .normal (A Y) w := ⟨Y, w, h⟩

def dropL (xs : List (Int × Int)) (q : Int) : List (Int × Int) := if idxZ (findP q) xs = -1 then xs else xs.eraseIdx (idxZ (findP q) xs).toNat
def giveL (xs : List (Int × Int)) (x : Int × Int) : List (Int × Int) := if mayB x.1 x.2 && !(xs.any (giveP x.1 x.2)) then joinL (xs ++ [x]) else xs
theorem drop_res {q : Int} {xs ys : List (Int × Int)} {x : Int × Int} {er : Int} (h : DropRes q xs ys x er) : ys = dropL xs q := by
  rcases h with ⟨h1, h2, _⟩ | ⟨k, hk, h1, h2, _⟩
  · rw [dropL, if_pos h1]; exact h2
  · rw [dropL, if_neg (by rw [h1]; omega), h1]; exact h2
theorem give_res {a s : Int} {xs ys : List (Int × Int)} {er : Int} (h : GiveRes a s xs ys er) : ys = giveL xs (a, s) := by
  rcases h with ⟨h1, h2, _⟩ | ⟨h1, h2, h3, _⟩ | ⟨h1, h2, h3, _⟩
  · simp [giveL, h1, h2]
  · simp [giveL, h2, h3]
  · rw [giveL]; simp only [h1, h2, h3]; rfl
theorem dropL_len (xs : List (Int × Int)) (q : Int) : (dropL xs q).length ≤ xs.length := by
  unfold dropL
  split
  · exact Nat.le_refl _
  · exact (List.eraseIdx_sublist _ _).length_le
theorem giveL_len (xs : List (Int × Int)) (x : Int × Int) : (giveL xs x).length ≤ xs.length + 1 := by
  unfold giveL
  split
  · have := joinL_length (xs ++ [x]); simpa using this
  · omega
def dropsL (xs l : List (Int × Int)) : List (Int × Int) := l.foldl (fun a x => dropL a x.1) xs
def givesL (xs l : List (Int × Int)) : List (Int × Int) := l.foldl giveL xs
theorem dropsL_snoc (xs l : List (Int × Int)) (x : Int × Int) : dropsL xs (l ++ [x]) = dropL (dropsL xs l) x.1 := by simp [dropsL]
theorem givesL_snoc (xs l : List (Int × Int)) (x : Int × Int) : givesL xs (l ++ [x]) = giveL (givesL xs l) x := by simp [givesL]
theorem dropsL_len (l : List (Int × Int)) : ∀ xs, (dropsL xs l).length ≤ xs.length := by
  induction l with
  | nil => exact fun xs => Nat.le_refl _
  | cons x l ih => exact fun xs => Nat.le_trans (ih _) (dropL_len _ _)
theorem givesL_len (l : List (Int × Int)) : ∀ xs, (givesL xs l).length ≤ xs.length + l.length := by
  induction l with
  | nil => exact fun xs => Nat.le_refl _
  | cons x l ih => exact fun xs => by have h1 := ih (giveL xs x); have h2 := giveL_len xs x; simp only [givesL, List.foldl_cons, List.length_cons] at h1 ⊢; omega
theorem dropL_mem {xs : List (Int × Int)} {q : Int} {x : Int × Int} (h : x ∈ dropL xs q) : x ∈ xs := by
  unfold dropL at h
  split at h
  · exact h
  · exact (List.eraseIdx_sublist _ _).subset h
theorem dropsL_mem {l : List (Int × Int)} : ∀ {xs : List (Int × Int)} {x : Int × Int}, x ∈ dropsL xs l → x ∈ xs := by
  induction l with
  | nil => exact fun h => h
  | cons y l ih => exact fun h => dropL_mem (ih h)
/-- The header at rest. -/
def clearL (ws : List Int) (x : Int × Int) : List Int := osetL ws x.1 ⟨(headH (some ws) x.1).k, (headH (some ws) x.1).f, (headH (some ws) x.1).r, false, 0⟩
def clearsL (ws : List Int) (l : List (Int × Int)) : List Int := l.foldl clearL ws
theorem clearsL_snoc (ws : List Int) (l : List (Int × Int)) (x : Int × Int) : clearsL ws (l ++ [x]) = clearL (clearsL ws l) x := by simp [clearsL]
theorem osetL_len (ws : List Int) (i : Int) (h : Hd) : (osetL ws i h).length = ws.length := by
  unfold osetL
  split
  · exact List.length_set
  · rfl
theorem clearsL_len (l : List (Int × Int)) : ∀ ws, (clearsL ws l).length = ws.length := by
  induction l with
  | nil => exact fun ws => rfl
  | cons x l ih => exact fun ws => (ih _).trans (osetL_len _ _ _)
/-- What is not marked. -/
def unmB (ws : List Int) (x : Int × Int) : Bool := !(headH (some ws) x.1).m
def goneL (ws : List Int) (tb : List (Int × Int)) : List (Int × Int) := tb.filter (unmB ws)
theorem filter_snoc {α : Type} {d : α} {p : α → Bool} {l : List α} {k : Nat} (hk : k < l.length) : (l.take (k + 1)).filter p = (l.take k).filter p ++ (if p (l.getD k d) then [l.getD k d] else []) := by
  rw [List.take_add_one, List.getElem?_eq_getElem hk, List.getD_eq_getElem?_getD, List.getElem?_eq_getElem hk]
  simp only [Option.toList_some, List.filter_append, Option.getD_some]
  congr 1
  by_cases h : p l[k] <;> simp [h]
theorem take_snoc {α : Type} {d : α} {l : List α} {k : Nat} (hk : k < l.length) : l.take (k + 1) = l.take k ++ [l.getD k d] := by
  rw [List.take_add_one, List.getElem?_eq_getElem hk, List.getD_eq_getElem?_getD, List.getElem?_eq_getElem hk]
  rfl
/-- Three blocks stand as they were. -/
def Box3S (b : Nat) (cs : Array Value) (t : TypeId) (b2 : Nat) (cs2 : Array Value) (t2 : TypeId) (b3 : Nat) (cs3 : Array Value) (t3 : TypeId) (w : World) : Prop := w.heap[b]? = some (.cells cs t (0, 0)) ∧ w.heap[b2]? = some (.cells cs2 t2 (0, 0)) ∧ w.heap[b3]? = some (.cells cs3 t3 (0, 0))
section
variable {b : Nat} {cs : Array Value} {t : TypeId} {b2 : Nat} {cs2 : Array Value} {t2 : TypeId} {b3 : Nat} {cs3 : Array Value} {t3 : TypeId} {W : World}
theorem Box3S.one (h : Box3S b cs t b2 cs2 t2 b3 cs3 t3 W) (u : KeptOf W (Box3S b cs t b2 cs2 t2 b3 cs3 t3)) (i : Nat) : u.1.cell? ⟨b, i, none⟩ = cs[i]? := (cells_of (u.of h).1).1 i
theorem Box3S.two (h : Box3S b cs t b2 cs2 t2 b3 cs3 t3 W) (u : KeptOf W (Box3S b cs t b2 cs2 t2 b3 cs3 t3)) (i : Nat) : u.1.cell? ⟨b2, i, none⟩ = cs2[i]? := (cells_of (u.of h).2.1).1 i
theorem Box3S.three (h : Box3S b cs t b2 cs2 t2 b3 cs3 t3 W) (u : KeptOf W (Box3S b cs t b2 cs2 t2 b3 cs3 t3)) (i : Nat) : u.1.cell? ⟨b3, i, none⟩ = cs3[i]? := (cells_of (u.of h).2.2).1 i
end
/-- A struct of five cells is stored into a box of one's own. -/
theorem store5 {w : World} {Y : Nat} {cs : Array Value} {t : TypeId} (h : w.heap[Y]? = some (.cells cs t (0, 0))) (hs : cs.size = 5) (u0 u1 u2 u3 u4 : Value) :
    (((((w.setCell ⟨Y, 0, none⟩ u0).setCell ⟨Y, 1, none⟩ u1).setCell ⟨Y, 2, none⟩ u2).setCell ⟨Y, 3, none⟩ u3).setCell ⟨Y, 4, none⟩ u4).heap[Y]? = some (.cells #[u0, u1, u2, u3, u4] t (0, 0)) := by
  obtain ⟨v0, v1, v2, v3, v4, rfl⟩ := arr5 hs
  have hb5 := blk_set (i := 4) (blk_set (i := 3) (blk_set (i := 2) (blk_set (i := 1) (blk_set (i := 0) h u0) u1) u2) u3) u4
  simpa only [List.setIfInBounds_toArray, List.set_cons_succ, List.set_cons_zero] using hb5
theorem store5_ext {W1 w : World} {Y : Nat} (hx : Ext W1 w) (hY : W1.heap.size ≤ Y) (u0 u1 u2 u3 u4 : Value) :
    Ext W1 (((((w.setCell ⟨Y, 0, none⟩ u0).setCell ⟨Y, 1, none⟩ u1).setCell ⟨Y, 2, none⟩ u2).setCell ⟨Y, 3, none⟩ u3).setCell ⟨Y, 4, none⟩ u4) :=
  ((((hx.setCell (p := ⟨Y, 0, none⟩) hY u0).setCell (p := ⟨Y, 1, none⟩) hY u1).setCell (p := ⟨Y, 2, none⟩) hY u2).setCell (p := ⟨Y, 3, none⟩) hY u3).setCell (p := ⟨Y, 4, none⟩) hY u4
end Go.Proofs.Ytkcpfimhbogdcaa

