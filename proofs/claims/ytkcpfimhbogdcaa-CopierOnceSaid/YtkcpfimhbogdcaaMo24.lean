/- Merged by program (merge.py) out of: LoA, LoB, LoC, LoD. -/
import Derived.Test.YtkcpfimhbogdcaaMo22
import Derived.Test.YtkcpfimhbogdcaaMo23
/- A part whose objects do not move: dead, Table, Free. -/
set_option linter.unusedSimpArgs false
set_option linter.unusedVariables false
namespace Go.Proofs.Ytkcpfimhbogdcaa
open Go.RowKit Go.Shelf

set_option maxRecDepth 100000
set_option maxHeartbeats 1000000
/-- There is none, or it was never made. -/
def LoN (w : World) (v : Value) : Prop := v = .pointer none ∨ ∃ b cs, v = .pointer (some ⟨b, 0, none⟩) ∧ w.heap[b]? = some (.cells cs 102 (0, 0)) ∧ cs[0]? = some (.bool false)
theorem LoN.ext {w w' : World} {v : Value} (h : LoN w v) (hx : Ext w w') : LoN w' v := by
  rcases h with rfl | ⟨b, cs, rfl, h1, h2⟩
  · exact .inl rfl
  · exact .inr ⟨b, cs, rfl, (hx.block (lt_of_heap h1)).trans h1, h2⟩
theorem lodead_yes (v : Value) (V : World) (h : LoN V v) : Calls Try.prog 102 #[v] V fun e w' => e = .returned (.bool true) ∧ Ext V w' := by
  rcases h with rfl | ⟨b, cs, rfl, h1, h2⟩
  · go_enter Try.func102, Try.ntmps102
    go_wp2_with fail
    go_ret
    exact ⟨rfl, Ext.refl _⟩
  · have k1 : V.cell? ⟨b, 0, none⟩ = some (.bool false) := ((cells_of h1).1 0).trans h2
    clear h1 h2
    go_enter Try.func102, Try.ntmps102
    go_wp2_with fail
    go_ret
    exact ⟨rfl, Ext.refl _⟩
theorem lotable_no (v : Value) (V : World) (h : LoN V v) : Calls Try.prog 47 #[v] V fun e w' => e = .returned (.slice none 0 0) ∧ Ext V w' := by
  go_enter Try.func47, Try.ntmps47
  go_wp2_with fail
  refine (lodead_yes v V h).mono ?_
  rintro e w1 ⟨rfl, hx⟩
  have HX := Lib.hid hx
  clear hx
  go_wp2_with fail
  go_ret
  exact ⟨rfl, HX.out⟩
theorem lofree_no (v : Value) (V : World) (h : LoN V v) : Calls Try.prog 53 #[v] V fun e w' => e = .returned (.slice none 0 0) ∧ Ext V w' := by
  go_enter Try.func53, Try.ntmps53
  go_wp2_with fail
  refine (lodead_yes v V h).mono ?_
  rintro e w1 ⟨rfl, hx⟩
  have HX := Lib.hid hx
  clear hx
  go_wp2_with fail
  go_ret
  exact ⟨rfl, HX.out⟩
section
variable {p : Option Addr} {tA : Option Addr} {tb : List (Int × Int)} {tc : Nat} {fA : Option Addr} {fr : List (Int × Int)} {fc : Nat} {top : Int}
theorem lodead_no (b : Nat) (V : World) (hb : V.heap[b]? = some (.cells #[.bool true, .pointer p, .slice tA tb.length tc, .slice fA fr.length fc, .int .i64 top] 102 (0, 0))) : Calls Try.prog 102 #[.pointer (some ⟨b, 0, none⟩)] V fun e w' => e = .returned (.bool false) ∧ Ext V w' := by
  have k1 : V.cell? ⟨b, 0, none⟩ = some (.bool true) := (cells_of hb).1 0
  clear hb
  go_enter Try.func102, Try.ntmps102
  go_wp2_with fail
  go_ret
  exact ⟨rfl, Ext.refl _⟩
end
end Go.Proofs.Ytkcpfimhbogdcaa

/- Nobody's part does nothing. -/
set_option linter.unusedSimpArgs false
set_option linter.unusedVariables false
namespace Go.Proofs.Ytkcpfimhbogdcaa
open Go.RowKit Go.Shelf
set_option maxRecDepth 100000
set_option maxHeartbeats 1000000
theorem lomark_no (v : Value) (i : Int) (V : World) (h : LoN V v) : Calls Try.prog 48 #[v, .int .i64 i] V fun e w' => e = .returned (.tuple #[.bool false, .int .i64 10]) ∧ Ext V w' := by
  have HN := Lib.hid h
  have HX0 := Lib.hid (Ext.refl V)
  clear h
  go_enter Try.func48, Try.ntmps48
  go_wp2_with fail
  refine (lodead_yes v _ HN.out).mono ?_
  rintro e w1 ⟨rfl, hx⟩
  have HX := Lib.hid (HX0.out.trans hx)
  clear hx
  go_wp2_with fail
  ((try simp only [Exit.inBlock, Exit.then]); refine bodyPost_ret (v := .tuple #[.bool false, .int .i64 10]) (by simp only [results, Try.results48]; go_simp) rfl ?_)
  exact ⟨rfl, HX.out⟩
theorem lopop_no (v : Value) (V : World) (h : LoN V v) : Calls Try.prog 49 #[v] V fun e w' => e = .returned (.tuple #[.int .i64 0, .bool false]) ∧ Ext V w' := by
  have HN := Lib.hid h
  have HX0 := Lib.hid (Ext.refl V)
  clear h
  go_enter Try.func49, Try.ntmps49
  go_wp2_with fail
  refine (lodead_yes v _ HN.out).mono ?_
  rintro e w1 ⟨rfl, hx⟩
  have HX := Lib.hid (HX0.out.trans hx)
  clear hx
  go_wp2_with fail
  ((try simp only [Exit.inBlock, Exit.then]); refine bodyPost_ret (v := .tuple #[.int .i64 0, .bool false]) (by simp only [results, Try.results49]; go_simp) rfl ?_)
  exact ⟨rfl, HX.out⟩
theorem losweep_no (v : Value) (V : World) (h : LoN V v) : Calls Try.prog 50 #[v] V fun e w' => e = .returned (.tuple #[.slice none 0 0, .int .i64 10]) ∧ Ext V w' := by
  have HN := Lib.hid h
  have HX0 := Lib.hid (Ext.refl V)
  clear h
  go_enter Try.func50, Try.ntmps50
  go_wp2_with fail
  refine (lodead_yes v _ HN.out).mono ?_
  rintro e w1 ⟨rfl, hx⟩
  have HX := Lib.hid (HX0.out.trans hx)
  clear hx
  go_wp2_with fail
  ((try simp only [Exit.inBlock, Exit.then]); refine bodyPost_ret (v := .tuple #[.slice none 0 0, .int .i64 10]) (by simp only [results, Try.results50]; go_simp) rfl ?_)
  exact ⟨rfl, HX.out⟩
theorem loput_no (v : Value) (hd : Hd) (V : World) (h : LoN V v) : Calls Try.prog 46 #[v, .agg #[.int .i64 hd.k, .int .i64 hd.f, .int .i64 hd.r, .bool hd.m, .int .i64 hd.c]] V fun e w' => e = .returned (.tuple #[.int .i64 0, .int .i64 10]) ∧ Ext V w' := by
  have HN := Lib.hid (h.ext ((Ext.refl V).alloc (.cells #[.int .i64 hd.k, .int .i64 hd.f, .int .i64 hd.r, .bool hd.m, .int .i64 hd.c] 47)))
  have HX0 := Lib.hid ((Ext.refl V).alloc (.cells #[.int .i64 hd.k, .int .i64 hd.f, .int .i64 hd.r, .bool hd.m, .int .i64 hd.c] 47))
  clear h
  go_enter Try.func46, Try.ntmps46
  go_wp2_with fail
  refine (lodead_yes v _ HN.out).mono ?_
  rintro e w1 ⟨rfl, hx⟩
  have HX := Lib.hid (HX0.out.trans hx)
  clear hx
  go_wp2_with fail
  ((try simp only [Exit.inBlock, Exit.then]); refine bodyPost_ret (v := .tuple #[.int .i64 0, .int .i64 10]) (by simp only [results, Try.results46]; go_simp) rfl ?_)
  exact ⟨rfl, HX.out⟩
end Go.Proofs.Ytkcpfimhbogdcaa

/- In nobody's arena there is no part: los.New. -/
set_option linter.unusedSimpArgs false
set_option linter.unusedVariables false
namespace Go.Proofs.Ytkcpfimhbogdcaa
open Go.RowKit Go.Shelf
set_option maxRecDepth 100000
set_option maxHeartbeats 1000000
theorem losnew_no (a s : Int) (x y : Value) (V : World) : Calls Try.prog 37 #[.pointer none, .agg #[.int .i64 (a), .int .i64 (s)], x, y] V fun e w' => e = .returned (.tuple #[.pointer none, .int .i64 10]) ∧ Ext V w' := by
  have HX0 := Lib.hid ((Ext.refl V).alloc (.cells #[.int .i64 a, .int .i64 s] 23))
  have Z := aread_any none none (-1) (V.alloc (.cells #[.int .i64 a, .int .i64 s] 23)) (.inl ⟨rfl, rfl⟩)
  have e1 : rdA none (-1) = 0 := by simp [rdA, atA]
  have e2 : atA none (-1) = 10 := rfl
  rw [e1, e2] at Z
  have HZ := Lib.hid Z
  clear Z e1 e2
  go_enter Try.func37, Try.ntmps37
  go_wp2_with fail
  refine HZ.out.mono ?_
  rintro e w1 ⟨rfl, hx⟩
  have HX := Lib.hid (HX0.out.trans hx)
  clear hx
  go_wp2_with fail
  ((try simp only [Exit.inBlock, Exit.then]); refine bodyPost_ret (v := .tuple #[.pointer none, .int .i64 10]) (by simp only [results, Try.results37]; go_simp) rfl ?_)
  exact ⟨rfl, HX.out⟩
end Go.Proofs.Ytkcpfimhbogdcaa

/- A living part's Table and Free. -/
set_option linter.unusedSimpArgs false
set_option linter.unusedVariables false
namespace Go.Proofs.Ytkcpfimhbogdcaa
open Go.RowKit Go.Shelf
set_option maxRecDepth 100000
set_option maxHeartbeats 1000000
section
variable {p : Option Addr} {tA : Option Addr} {tb : List (Int × Int)} {tc : Nat} {fA : Option Addr} {fr : List (Int × Int)} {fc : Nat} {top : Int}
theorem lotable_yes (b : Nat) (V : World) (hb : V.heap[b]? = some (.cells #[.bool true, .pointer p, .slice tA tb.length tc, .slice fA fr.length fc, .int .i64 top] 102 (0, 0))) (hs : SpansAt V tA tb) (hl : tb.length ≤ 98304) :
    Calls Try.prog 47 #[.pointer (some ⟨b, 0, none⟩)] V fun e w' => ∃ A2 cap2, e = .returned (.slice A2 tb.length cap2) ∧ Own 23 2 spanC w' V.heap.size (.slice A2 tb.length cap2) tb ∧ Ext V w' := by
  have hB := pers_blk hb
  have HS := pers_row hs
  have HD := Lib.hid (lodead_no b V hb)
  have HL := Lib.hid hl
  clear hb hs hl
  go_enter Try.func47, Try.ntmps47
  go_wp2_with fail
  refine HD.out.mono ?_
  rintro e w1 ⟨rfl, hx⟩
  have HX := Lib.hid hx
  (replace hB := hB.re hx; replace HS := HS.re hx)
  have k1 := (cells_of hB.here).1
  clear hx
  go_wp2_with fail
  refine (cloneSp_any tA tc tb w1 (by have := HL.out; omega) HS.here).mono ?_
  rintro e w2 ⟨A2, cap2, rfl, ho, hx⟩
  have HO := Lib.hid (ho.mono (B' := V.heap.size) HX.out.size)
  have HX2 := Lib.hid (HX.out.trans hx)
  clear ho hx
  go_wp2_with fail
  go_ret
  exact ⟨A2, cap2, rfl, HO.out, HX2.out⟩
theorem lofree_yes (b : Nat) (V : World) (hb : V.heap[b]? = some (.cells #[.bool true, .pointer p, .slice tA tb.length tc, .slice fA fr.length fc, .int .i64 top] 102 (0, 0))) (hs : SpansAt V fA fr) (hl : fr.length ≤ 98304) :
    Calls Try.prog 53 #[.pointer (some ⟨b, 0, none⟩)] V fun e w' => ∃ A2 cap2, e = .returned (.slice A2 fr.length cap2) ∧ Own 23 2 spanC w' V.heap.size (.slice A2 fr.length cap2) fr ∧ Ext V w' := by
  have hB := pers_blk hb
  have HS := pers_row hs
  have HD := Lib.hid (lodead_no b V hb)
  have HL := Lib.hid hl
  clear hb hs hl
  go_enter Try.func53, Try.ntmps53
  go_wp2_with fail
  refine HD.out.mono ?_
  rintro e w1 ⟨rfl, hx⟩
  have HX := Lib.hid hx
  (replace hB := hB.re hx; replace HS := HS.re hx)
  have k1 := (cells_of hB.here).1
  clear hx
  go_wp2_with fail
  refine (cloneSp_any fA fc fr w1 (by have := HL.out; omega) HS.here).mono ?_
  rintro e w2 ⟨A2, cap2, rfl, ho, hx⟩
  have HO := Lib.hid (ho.mono (B' := V.heap.size) HX.out.size)
  have HX2 := Lib.hid (HX.out.trans hx)
  clear ho hx
  go_wp2_with fail
  go_ret
  exact ⟨A2, cap2, rfl, HO.out, HX2.out⟩
end
end Go.Proofs.Ytkcpfimhbogdcaa

