/- awake of the laws of graphs, walked. -/
import Derived.Test.YtidfibheehcdgaaGraU
set_option linter.unusedSimpArgs false
set_option linter.unusedVariables false
namespace Go.Proofs.Ytidfibheehcdgaa
open Go.RowKit Go.Shelf

theorem cell_lt {w : World} {b o : Nat} {v : Value} (h : w.cell? ⟨b, o, none⟩ = some v) : b < w.heap.size := by
  unfold World.cell? at h
  rcases Nat.lt_or_ge b w.heap.size with h2 | h2
  · exact h2
  · rw [Array.getElem?_eq_none h2] at h; cases h
theorem row_litb {α : Type} {e : TypeId} {n : Nat} {f : α → List Value} {ys : List α} (w : World) (b : Nat) (hb : w.heap.size = b) (cs : Array Value) (hcs : cs = (ys.flatMap f).toArray) (hf : Cells n f) (hn : 0 < n) : RowAt n f (w.alloc (.cells cs e)) (some ⟨b, 0, none⟩) ys := by subst hb; exact row_lit w cs hcs hf hn
theorem row_block {α : Type} {e : TypeId} {n : Nat} {f : α → List Value} {w : World} {b : Nat} {cs : Array Value} {xs : List α} (h : w.heap[b]? = some (.cells cs e (0, 0))) (hcs : cs = (xs.flatMap f).toArray) (hf : Cells n f) (hn : 0 < n) : RowAt n f w (some ⟨b, 0, none⟩) xs := by
  refine ⟨b, 0, fun _ => rfl, fun i x hx j u hu => ?_⟩
  have := flat_get hf hn hx hu
  subst hcs
  simpa [World.cell?, h] using this
theorem blk_new (w : World) (cs : Array Value) (t : TypeId) (b : Nat) (hb : w.heap.size = b) : (w.alloc (.cells cs t)).heap[b]? = some (.cells cs t (0, 0)) := by subst hb; exact World.alloc_heap_new w _
theorem blk_old {w : World} {b : Nat} {o o2 : Obj} (h : w.heap[b]? = some o) : (w.alloc o2).heap[b]? = some o := (Below.heap_alloc w o2 b (lt_of_heap h)).trans h
theorem aw16_lit (V : World) : GraphAt ((((((V.alloc (.cells #[.int .i64 2, .int .i64 1] 46)).alloc (.cells #[.int .i64 2, .int .i64 0] 46)).alloc (.cells #[.int .u64 7] 47)).alloc (.cells #[.int .i64 0, .slice (some ⟨V.heap.size, 0, none⟩) 1 1, .slice none 0 0, .int .i64 3, .slice (some ⟨V.heap.size + 1, 0, none⟩) 1 1, .slice (some ⟨V.heap.size + 1 + 1, 0, none⟩) 1 1] 34)).alloc (.cells #[.int .i64 2, .int .i64 0] 46)).alloc (.cells #[.slice (some ⟨V.heap.size + 1 + 1 + 1, 0, none⟩) 2 2, .slice (some ⟨V.heap.size + 1 + 1 + 1 + 1, 0, none⟩) 1 1] 25)) (awG (some ⟨V.heap.size + 1 + 1 + 1, 0, none⟩) 2 (some ⟨V.heap.size, 0, none⟩) 1 none 0 (some ⟨V.heap.size + 1, 0, none⟩) 1 (some ⟨V.heap.size + 1 + 1, 0, none⟩) 1 (some ⟨V.heap.size + 1 + 1 + 1 + 1, 0, none⟩) 1 1) ∧ ((((((V.alloc (.cells #[.int .i64 2, .int .i64 1] 46)).alloc (.cells #[.int .i64 2, .int .i64 0] 46)).alloc (.cells #[.int .u64 7] 47)).alloc (.cells #[.int .i64 0, .slice (some ⟨V.heap.size, 0, none⟩) 1 1, .slice none 0 0, .int .i64 3, .slice (some ⟨V.heap.size + 1, 0, none⟩) 1 1, .slice (some ⟨V.heap.size + 1 + 1, 0, none⟩) 1 1] 34)).alloc (.cells #[.int .i64 2, .int .i64 0] 46)).alloc (.cells #[.slice (some ⟨V.heap.size + 1 + 1 + 1, 0, none⟩) 2 2, .slice (some ⟨V.heap.size + 1 + 1 + 1 + 1, 0, none⟩) 1 1] 25)).heap[V.heap.size + 1 + 1 + 1 + 1 + 1]? = some (.cells #[.slice (some ⟨V.heap.size + 1 + 1 + 1, 0, none⟩) 2 2, .slice (some ⟨V.heap.size + 1 + 1 + 1 + 1, 0, none⟩) 1 1] 25 (0, 0)) ∧ ((((((V.alloc (.cells #[.int .i64 2, .int .i64 1] 46)).alloc (.cells #[.int .i64 2, .int .i64 0] 46)).alloc (.cells #[.int .u64 7] 47)).alloc (.cells #[.int .i64 0, .slice (some ⟨V.heap.size, 0, none⟩) 1 1, .slice none 0 0, .int .i64 3, .slice (some ⟨V.heap.size + 1, 0, none⟩) 1 1, .slice (some ⟨V.heap.size + 1 + 1, 0, none⟩) 1 1] 34)).alloc (.cells #[.int .i64 2, .int .i64 0] 46)).alloc (.cells #[.slice (some ⟨V.heap.size + 1 + 1 + 1, 0, none⟩) 2 2, .slice (some ⟨V.heap.size + 1 + 1 + 1 + 1, 0, none⟩) 1 1] 25)).heap[V.heap.size + 1 + 1 + 1]? = some (.cells #[.int .i64 0, .slice (some ⟨V.heap.size, 0, none⟩) 1 1, .slice none 0 0, .int .i64 3, .slice (some ⟨V.heap.size + 1, 0, none⟩) 1 1, .slice (some ⟨V.heap.size + 1 + 1, 0, none⟩) 1 1] 34 (0, 0)) ∧ Ext V ((((((V.alloc (.cells #[.int .i64 2, .int .i64 1] 46)).alloc (.cells #[.int .i64 2, .int .i64 0] 46)).alloc (.cells #[.int .u64 7] 47)).alloc (.cells #[.int .i64 0, .slice (some ⟨V.heap.size, 0, none⟩) 1 1, .slice none 0 0, .int .i64 3, .slice (some ⟨V.heap.size + 1, 0, none⟩) 1 1, .slice (some ⟨V.heap.size + 1 + 1, 0, none⟩) 1 1] 34)).alloc (.cells #[.int .i64 2, .int .i64 0] 46)).alloc (.cells #[.slice (some ⟨V.heap.size + 1 + 1 + 1, 0, none⟩) 2 2, .slice (some ⟨V.heap.size + 1 + 1 + 1 + 1, 0, none⟩) 1 1] 25)) ∧ ((((((V.alloc (.cells #[.int .i64 2, .int .i64 1] 46)).alloc (.cells #[.int .i64 2, .int .i64 0] 46)).alloc (.cells #[.int .u64 7] 47)).alloc (.cells #[.int .i64 0, .slice (some ⟨V.heap.size, 0, none⟩) 1 1, .slice none 0 0, .int .i64 3, .slice (some ⟨V.heap.size + 1, 0, none⟩) 1 1, .slice (some ⟨V.heap.size + 1 + 1, 0, none⟩) 1 1] 34)).alloc (.cells #[.int .i64 2, .int .i64 0] 46)).alloc (.cells #[.slice (some ⟨V.heap.size + 1 + 1 + 1, 0, none⟩) 2 2, .slice (some ⟨V.heap.size + 1 + 1 + 1 + 1, 0, none⟩) 1 1] 25)).heap.size = V.heap.size + 1 + 1 + 1 + 1 + 1 + 1 := by
  have h0 := blk_new V #[.int .i64 2, .int .i64 1] 46 (V.heap.size) (by simp)
  have g0 := (blk_old (o2 := .cells #[.slice (some ⟨V.heap.size + 1 + 1 + 1, 0, none⟩) 2 2, .slice (some ⟨V.heap.size + 1 + 1 + 1 + 1, 0, none⟩) 1 1] 25) (blk_old (o2 := .cells #[.int .i64 2, .int .i64 0] 46) (blk_old (o2 := .cells #[.int .i64 0, .slice (some ⟨V.heap.size, 0, none⟩) 1 1, .slice none 0 0, .int .i64 3, .slice (some ⟨V.heap.size + 1, 0, none⟩) 1 1, .slice (some ⟨V.heap.size + 1 + 1, 0, none⟩) 1 1] 34) (blk_old (o2 := .cells #[.int .u64 7] 47) (blk_old (o2 := .cells #[.int .i64 2, .int .i64 0] 46) h0)))))
  clear h0
  have h1 := blk_new (V.alloc (.cells #[.int .i64 2, .int .i64 1] 46)) #[.int .i64 2, .int .i64 0] 46 (V.heap.size + 1) (by simp)
  have g1 := (blk_old (o2 := .cells #[.slice (some ⟨V.heap.size + 1 + 1 + 1, 0, none⟩) 2 2, .slice (some ⟨V.heap.size + 1 + 1 + 1 + 1, 0, none⟩) 1 1] 25) (blk_old (o2 := .cells #[.int .i64 2, .int .i64 0] 46) (blk_old (o2 := .cells #[.int .i64 0, .slice (some ⟨V.heap.size, 0, none⟩) 1 1, .slice none 0 0, .int .i64 3, .slice (some ⟨V.heap.size + 1, 0, none⟩) 1 1, .slice (some ⟨V.heap.size + 1 + 1, 0, none⟩) 1 1] 34) (blk_old (o2 := .cells #[.int .u64 7] 47) h1))))
  clear h1
  have h2 := blk_new ((V.alloc (.cells #[.int .i64 2, .int .i64 1] 46)).alloc (.cells #[.int .i64 2, .int .i64 0] 46)) #[.int .u64 7] 47 (V.heap.size + 1 + 1) (by simp)
  have g2 := (blk_old (o2 := .cells #[.slice (some ⟨V.heap.size + 1 + 1 + 1, 0, none⟩) 2 2, .slice (some ⟨V.heap.size + 1 + 1 + 1 + 1, 0, none⟩) 1 1] 25) (blk_old (o2 := .cells #[.int .i64 2, .int .i64 0] 46) (blk_old (o2 := .cells #[.int .i64 0, .slice (some ⟨V.heap.size, 0, none⟩) 1 1, .slice none 0 0, .int .i64 3, .slice (some ⟨V.heap.size + 1, 0, none⟩) 1 1, .slice (some ⟨V.heap.size + 1 + 1, 0, none⟩) 1 1] 34) h2)))
  clear h2
  have h3 := blk_new (((V.alloc (.cells #[.int .i64 2, .int .i64 1] 46)).alloc (.cells #[.int .i64 2, .int .i64 0] 46)).alloc (.cells #[.int .u64 7] 47)) #[.int .i64 0, .slice (some ⟨V.heap.size, 0, none⟩) 1 1, .slice none 0 0, .int .i64 3, .slice (some ⟨V.heap.size + 1, 0, none⟩) 1 1, .slice (some ⟨V.heap.size + 1 + 1, 0, none⟩) 1 1] 34 (V.heap.size + 1 + 1 + 1) (by simp)
  have g3 := (blk_old (o2 := .cells #[.slice (some ⟨V.heap.size + 1 + 1 + 1, 0, none⟩) 2 2, .slice (some ⟨V.heap.size + 1 + 1 + 1 + 1, 0, none⟩) 1 1] 25) (blk_old (o2 := .cells #[.int .i64 2, .int .i64 0] 46) h3))
  clear h3
  have h4 := blk_new ((((V.alloc (.cells #[.int .i64 2, .int .i64 1] 46)).alloc (.cells #[.int .i64 2, .int .i64 0] 46)).alloc (.cells #[.int .u64 7] 47)).alloc (.cells #[.int .i64 0, .slice (some ⟨V.heap.size, 0, none⟩) 1 1, .slice none 0 0, .int .i64 3, .slice (some ⟨V.heap.size + 1, 0, none⟩) 1 1, .slice (some ⟨V.heap.size + 1 + 1, 0, none⟩) 1 1] 34)) #[.int .i64 2, .int .i64 0] 46 (V.heap.size + 1 + 1 + 1 + 1) (by simp)
  have g4 := (blk_old (o2 := .cells #[.slice (some ⟨V.heap.size + 1 + 1 + 1, 0, none⟩) 2 2, .slice (some ⟨V.heap.size + 1 + 1 + 1 + 1, 0, none⟩) 1 1] 25) h4)
  clear h4
  have h5 := blk_new (((((V.alloc (.cells #[.int .i64 2, .int .i64 1] 46)).alloc (.cells #[.int .i64 2, .int .i64 0] 46)).alloc (.cells #[.int .u64 7] 47)).alloc (.cells #[.int .i64 0, .slice (some ⟨V.heap.size, 0, none⟩) 1 1, .slice none 0 0, .int .i64 3, .slice (some ⟨V.heap.size + 1, 0, none⟩) 1 1, .slice (some ⟨V.heap.size + 1 + 1, 0, none⟩) 1 1] 34)).alloc (.cells #[.int .i64 2, .int .i64 0] 46)) #[.slice (some ⟨V.heap.size + 1 + 1 + 1, 0, none⟩) 2 2, .slice (some ⟨V.heap.size + 1 + 1 + 1 + 1, 0, none⟩) 1 1] 25 (V.heap.size + 1 + 1 + 1 + 1 + 1) (by simp)
  have g5 := h5
  refine ⟨⟨⟨row_block g3 rfl nodeCells (by decide), fun x hx => ?_⟩, row_block g4 rfl spanCells (by decide)⟩, g5, g3, ((((((Ext.refl V).alloc _).alloc _).alloc _).alloc _).alloc _).alloc _, by simp⟩
  simp only [awG, List.mem_cons, List.not_mem_nil, or_false] at hx
  rcases hx with rfl | rfl
  · exact ⟨row_block g0 rfl spanCells (by decide), RowAt.none _ _ _⟩
  · exact ⟨row_block g1 rfl spanCells (by decide), row_block g2 rfl u64Cells (by decide)⟩
set_option maxRecDepth 100000 in
set_option maxHeartbeats 4000000 in
theorem awake16_any (V : World) : Calls Try.prog 7 #[] V fun e w' => e = .returned (.bool true) ∧ Ext V w' := by
  obtain ⟨hg, hb, hn, hx, hs⟩ := aw16_lit V
  have HG := Lib.hid hg
  have HB := Lib.hid hb
  have HN := Lib.hid hn
  have HX := Lib.hid hx
  have HS := Lib.hid hs
  clear hg hb hn hx hs
  go_enter Try.func7, Try.ntmps7
  go_wp2_with fail
  generalize ((((((V.alloc (.cells #[.int .i64 2, .int .i64 1] 46)).alloc (.cells #[.int .i64 2, .int .i64 0] 46)).alloc (.cells #[.int .u64 7] 47)).alloc (.cells #[.int .i64 0, .slice (some ⟨V.heap.size, 0, none⟩) 1 1, .slice none 0 0, .int .i64 3, .slice (some ⟨V.heap.size + 1, 0, none⟩) 1 1, .slice (some ⟨V.heap.size + 1 + 1, 0, none⟩) 1 1] 34)).alloc (.cells #[.int .i64 2, .int .i64 0] 46)).alloc (.cells #[.slice (some ⟨V.heap.size + 1 + 1 + 1, 0, none⟩) 2 2, .slice (some ⟨V.heap.size + 1 + 1 + 1 + 1, 0, none⟩) 1 1] 25)) = W1 at *
  generalize V.heap.size + 1 + 1 + 1 + 1 + 1 = b5 at *
  generalize V.heap.size + 1 + 1 + 1 + 1 = b4 at *
  generalize V.heap.size + 1 + 1 + 1 = b3 at *
  generalize V.heap.size + 1 + 1 = b2 at *
  generalize V.heap.size + 1 = b1 at *
  have HOK : Hid (GraphOk (awG (some ⟨b3, 0, none⟩) 2 (some ⟨V.heap.size, 0, none⟩) 1 none 0 (some ⟨b1, 0, none⟩) 1 (some ⟨b2, 0, none⟩) 1 (some ⟨b4, 0, none⟩) 1 1)) := Lib.hid (aw_ok (by decide) (by simp) (by simp) (by simp) (by simp) (by simp) (by simp) (by simp) (by simp) (by simp) (by simp) (by simp))
  generalize hA0 : (some ⟨V.heap.size, 0, none⟩ : Option Addr) = A0 at HOK HG
  have hxl := (Ext.refl W1).alloc (.cells #[.int .i64 1, .int .i64 0] 3)
  refine (aw_ren _ 2 A0 1 none 0 _ 1 _ 1 _ 1 _ 2 _ (HG.out.ext hxl) HOK.out (row_litb W1 _ HS.out _ rfl intCells (by decide))).mono ?_
  rintro e w2 ⟨b, off, c, p, q, d, rfl, n1, n2, hx2⟩
  have hx2' := hxl.trans hx2
  have HX2 := Lib.hid hx2'
  have HB2 := Lib.hid ((hx2'.block (lt_of_heap HB.out)).trans HB.out)
  have c0 : w2.cell? ⟨b5, 0, none⟩ = some (.slice (some ⟨b3, 0, none⟩) 2 2) := by simp [World.cell?, HB2.out]
  have c1 : w2.cell? ⟨b5, 1, none⟩ = some (.slice (some ⟨b4, 0, none⟩) 1 1) := by simp [World.cell?, HB2.out]
  have hlt := lt_of_heap HB2.out
  clear hxl hx2 hx2'
  go_wp2_with fail
  have h2 := World.alloc_heap_new w2 (.cells #[.slice (some ⟨b, off, none⟩) 2 c, .slice (some ⟨p, q, none⟩) 1 d] 25)
  have hx2 := (Ext.refl w2).alloc (.cells #[.slice (some ⟨b, off, none⟩) 2 c, .slice (some ⟨p, q, none⟩) 1 d] 25)
  have hs2 : (w2.alloc (.cells #[.slice (some ⟨b, off, none⟩) 2 c, .slice (some ⟨p, q, none⟩) 1 d] 25)).heap.size = w2.heap.size + 1 := by simp
  replace HX2 := Lib.hid (HX2.out.trans hx2)
  replace HB2 := Lib.hid ((hx2.block (lt_of_heap HB2.out)).trans HB2.out)
  replace n1 := hx2.cell n1
  replace n2 := hx2.cell n2
  have H2 := Lib.hid h2
  have HS2 := Lib.hid hs2
  have N1 := Lib.hid n1
  have N2 := Lib.hid n2
  clear c0 c1 hlt h2 hx2 hs2 n1 n2
  generalize w2.alloc (.cells #[.slice (some ⟨b, off, none⟩) 2 c, .slice (some ⟨p, q, none⟩) 1 d] 25) = W2 at *
  generalize w2.heap.size = X2 at *
  have hxl := (Ext.refl W2).alloc (.cells #[.int .i64 1] 3)
  refine (aw_bad (some ⟨b3, 0, none⟩) 2 A0 1 none 0 (some ⟨b1, 0, none⟩) 1 (some ⟨b2, 0, none⟩) 1 (some ⟨b4, 0, none⟩) 1 (some ⟨X2 + 1, 0, none⟩) 1 [1] 1 2 (W2.alloc (.cells #[.int .i64 1] 3)) rfl aw_e1 (by decide) (by decide) (by decide) (HG.out.ext (HX2.out.trans hxl)) HOK.out (row_litb W2 _ HS2.out _ rfl intCells (by decide))).mono ?_
  rintro e w3 ⟨A3, k3, B3, l3, rfl, hx3⟩
  have hx3' := hxl.trans hx3
  have HX3 := Lib.hid (HX2.out.trans hx3')
  have HB3 := Lib.hid ((hx3'.block (lt_of_heap HB2.out)).trans HB2.out)
  have H3 := Lib.hid ((hx3'.block (lt_of_heap H2.out)).trans H2.out)
  have c0 : w3.cell? ⟨b5, 0, none⟩ = some (.slice (some ⟨b3, 0, none⟩) 2 2) := by simp [World.cell?, HB3.out]
  have c1 : w3.cell? ⟨b5, 1, none⟩ = some (.slice (some ⟨b4, 0, none⟩) 1 1) := by simp [World.cell?, HB3.out]
  have hlt := lt_of_heap HB3.out
  replace N1 := Lib.hid (hx3'.cell N1.out)
  replace N2 := Lib.hid (hx3'.cell N2.out)
  clear hxl hx3 hx3' HX2 HB2 H2 HS2
  go_wp2_with fail
  have hx4 := (Ext.refl w3).alloc (.cells #[.slice A3 0 k3, .slice B3 0 l3] 25)
  have hs4 : (w3.alloc (.cells #[.slice A3 0 k3, .slice B3 0 l3] 25)).heap.size = w3.heap.size + 1 := by simp
  have HS4 := Lib.hid hs4
  replace HX3 := Lib.hid (HX3.out.trans hx4)
  replace HB3 := Lib.hid ((hx4.block (lt_of_heap HB3.out)).trans HB3.out)
  replace H3 := Lib.hid ((hx4.block (lt_of_heap H3.out)).trans H3.out)
  replace N1 := Lib.hid (hx4.cell N1.out)
  replace N2 := Lib.hid (hx4.cell N2.out)
  clear c0 c1 hlt hx4 hs4
  generalize w3.alloc (.cells #[.slice A3 0 k3, .slice B3 0 l3] 25) = W3 at *
  generalize w3.heap.size = X3 at *
  have hxl := (Ext.refl W3).alloc (.cells #[.int .i64 1, .int .i64 1] 3)
  refine (aw_bad (some ⟨b3, 0, none⟩) 2 A0 1 none 0 (some ⟨b1, 0, none⟩) 1 (some ⟨b2, 0, none⟩) 1 (some ⟨b4, 0, none⟩) 1 (some ⟨X3 + 1, 0, none⟩) 2 [1, 1] 2 1 (W3.alloc (.cells #[.int .i64 1, .int .i64 1] 3)) rfl aw_e2 (by decide) (by decide) (by decide) (HG.out.ext (HX3.out.trans hxl)) HOK.out (row_litb W3 _ HS4.out _ rfl intCells (by decide))).mono ?_
  rintro e w4 ⟨A4, k4, B4, l4, rfl, hx4⟩
  have hx4' := hxl.trans hx4
  have HX4 := Lib.hid (HX3.out.trans hx4')
  have HB4 := Lib.hid ((hx4'.block (lt_of_heap HB3.out)).trans HB3.out)
  have H4 := Lib.hid ((hx4'.block (lt_of_heap H3.out)).trans H3.out)
  have c0 : w4.cell? ⟨b5, 0, none⟩ = some (.slice (some ⟨b3, 0, none⟩) 2 2) := by simp [World.cell?, HB4.out]
  have c1 : w4.cell? ⟨b5, 1, none⟩ = some (.slice (some ⟨b4, 0, none⟩) 1 1) := by simp [World.cell?, HB4.out]
  have hlt := lt_of_heap HB4.out
  replace N1 := Lib.hid (hx4'.cell N1.out)
  replace N2 := Lib.hid (hx4'.cell N2.out)
  clear hxl hx4 hx4' HX3 HB3 H3 HS4
  go_wp2_with fail
  have hx5 := (Ext.refl w4).alloc (.cells #[.slice A4 0 k4, .slice B4 0 l4] 25)
  replace HX4 := Lib.hid (HX4.out.trans hx5)
  replace HB4 := Lib.hid ((hx5.block (lt_of_heap HB4.out)).trans HB4.out)
  replace H4 := Lib.hid ((hx5.block (lt_of_heap H4.out)).trans H4.out)
  replace N1 := Lib.hid (hx5.cell N1.out)
  replace N2 := Lib.hid (hx5.cell N2.out)
  clear c0 c1 hlt hx5
  generalize w4.alloc (.cells #[.slice A4 0 k4, .slice B4 0 l4] 25) = W4 at *
  refine (aw_copy (some ⟨b3, 0, none⟩) 2 A0 1 none 0 (some ⟨b1, 0, none⟩) 1 (some ⟨b2, 0, none⟩) 1 (some ⟨b4, 0, none⟩) 1 W4 (HG.out.ext HX4.out) HOK.out).mono ?_
  rintro e w5 ⟨b', c', g', fc', rA', rc', gA', gc', sA', sc', RA', Rc', rfl, ho5, ok5, hx5⟩
  obtain ⟨hat5, fz5, hg1, hg2, y0, y1, hne⟩ := aw_set ho5
  have HAT := Lib.hid (hat5.ext ((Ext.refl _).alloc (.cells #[.slice (some ⟨b', 0, none⟩) 2 c', .slice RA' 1 Rc'] 25)))
  have ok5S := Lib.hid (aw_ok2 ok5)
  have HX5 := Lib.hid (HX4.out.trans hx5)
  have HB5 := Lib.hid ((hx5.block (lt_of_heap HB4.out)).trans HB4.out)
  have H5 := Lib.hid ((hx5.block (lt_of_heap H4.out)).trans H4.out)
  have N1b := N1.out
  have N2b := N2.out
  replace N1 := Lib.hid (hx5.cell N1.out)
  replace N2 := Lib.hid (hx5.cell N2.out)
  have hb'lt : b' < w5.heap.size := by obtain ⟨cur, hh⟩ := own_heap ho5.nodes; exact lt_of_heap hh
  have hyb : w5.cell? ⟨b', 1, none⟩ = some (.slice (some ⟨g', 0, none⟩) 1 fc') := y0
  have t1 : b5 ≠ g' := by have := lt_of_heap HB4.out; omega
  have t2 : X2 ≠ g' := by have := lt_of_heap H4.out; omega
  have t3 : b ≠ g' := by have := cell_lt N1b; omega
  have t4 : p ≠ g' := by have := cell_lt N2b; omega
  have l1 := lt_of_heap HB5.out
  have l2 := lt_of_heap H5.out
  have l3 := cell_lt N1.out
  have l4 := cell_lt N2.out
  have u0 : w5.cell? ⟨b5, 0, none⟩ = some (.slice (some ⟨b3, 0, none⟩) 2 2) := by simp [World.cell?, HB5.out]
  have u1 : w5.cell? ⟨b5, 1, none⟩ = some (.slice (some ⟨b4, 0, none⟩) 1 1) := by simp [World.cell?, HB5.out]
  have v0 : w5.cell? ⟨X2, 0, none⟩ = some (.slice (some ⟨b, off, none⟩) 2 c) := by simp [World.cell?, H5.out]
  have v1 : w5.cell? ⟨X2, 1, none⟩ = some (.slice (some ⟨p, q, none⟩) 1 d) := by simp [World.cell?, H5.out]
  have n1 := N1.out
  have n2 := N2.out
  have HX6 := Lib.hid ((HX5.out.setCell (p := ⟨g', 1, none⟩) (by have := HX4.out.size; simp only; omega) (.int .i64 2)).alloc (.cells #[.slice (some ⟨b', 0, none⟩) 2 c', .slice RA' 1 Rc'] 25))
  have HB6 := Lib.hid ((Below.heap_alloc _ (.cells #[.slice (some ⟨b', 0, none⟩) 2 c', .slice RA' 1 Rc'] 25) b5 (by simpa using l1)).trans ((Below.heap_setCell w5 ⟨g', 1, none⟩ (.int .i64 2) b5 t1).trans HB5.out))
  have H8 := Lib.hid (World.alloc_heap_new (w5.setCell ⟨g', 1, none⟩ (.int .i64 2)) (.cells #[.slice (some ⟨b', 0, none⟩) 2 c', .slice RA' 1 Rc'] 25))
  clear hx5 HB4 H4 HX4 ok5 ho5 hat5 N1b N2b
  go_wp2_with fail
  have HH8 : Hid (((w5.setCell ⟨g', 1, none⟩ (.int .i64 2)).alloc (.cells #[.slice (some ⟨b', 0, none⟩) 2 c', .slice RA' 1 Rc'] 25)).heap[w5.heap.size]? = some (.cells #[.slice (some ⟨b', 0, none⟩) 2 c', .slice RA' 1 Rc'] 25 (0, 0))) := Lib.hid (by have := H8.out; simpa using this)
  clear fz5 hg1 hg2 y0 y1 hne hb'lt hyb t1 t2 t3 t4 l1 l2 l3 l4 u0 u1 v0 v1 n1 n2 HB5 H5 HX5 N1 N2 H8
  generalize (w5.setCell ⟨g', 1, none⟩ (.int .i64 2)).alloc (.cells #[.slice (some ⟨b', 0, none⟩) 2 c', .slice RA' 1 Rc'] 25) = W6 at *
  generalize w5.heap.size = X8 at *
  have HN6 := Lib.hid ((HX6.out.block (lt_of_heap HN.out)).trans HN.out)
  have HG6 := Lib.hid (HG.out.ext HX6.out)
  have k0 : ∀ w', Ext W6 w' → w'.cell? ⟨b5, 0, none⟩ = some (.slice (some ⟨b3, 0, none⟩) 2 2) := fun w' h => h.cell (by simp [World.cell?, HB6.out])
  have k1 : ∀ w', Ext W6 w' → w'.cell? ⟨b5, 1, none⟩ = some (.slice (some ⟨b4, 0, none⟩) 1 1) := fun w' h => h.cell (by simp [World.cell?, HB6.out])
  have k2 : ∀ w', Ext W6 w' → w'.cell? ⟨X8, 0, none⟩ = some (.slice (some ⟨b', 0, none⟩) 2 c') := fun w' h => h.cell (by simp [World.cell?, HH8.out])
  have k3 : ∀ w', Ext W6 w' → w'.cell? ⟨X8, 1, none⟩ = some (.slice RA' 1 Rc') := fun w' h => h.cell (by simp [World.cell?, HH8.out])
  have k4 : ∀ w', Ext W6 w' → w'.cell? ⟨b3, 3, none⟩ = some (.int .i64 3) := fun w' h => h.cell (by simp [World.cell?, HN6.out])
  have k5 : ∀ w', Ext W6 w' → w'.cell? ⟨b3, 4, none⟩ = some (.slice (some ⟨b1, 0, none⟩) 1 1) := fun w' h => h.cell (by simp [World.cell?, HN6.out])
  have k6 : ∀ w', Ext W6 w' → w'.cell? ⟨b3, 5, none⟩ = some (.slice (some ⟨b2, 0, none⟩) 1 1) := fun w' h => h.cell (by simp [World.cell?, HN6.out])
  have HXV := Lib.hid (HX.out.trans HX6.out)
  clear HN HB HX HG HX6 HB6 HH8 HN6 HS
  have Z := right_is (awG (some ⟨b3, 0, none⟩) 2 A0 1 none 0 (some ⟨b1, 0, none⟩) 1 (some ⟨b2, 0, none⟩) 1 (some ⟨b4, 0, none⟩) 1 1) true aw_right1 W6 HG6.out (by simp [awG]) (by simp [awG]) (by simp [awG])
  refine Z.mono ?_
  clear Z
  rintro e w7 ⟨rfl, hx⟩
  go_wp2_with fail
  have Z := right_is (awG (some ⟨b', 0, none⟩) c' (some ⟨g', 0, none⟩) fc' rA' rc' gA' gc' sA' sc' RA' Rc' 2) false aw_right2 w7 (HAT.out.ext hx) (by simp [awG]) (by simp [awG]) (by simp [awG])
  refine Z.mono ?_
  clear Z
  rintro e w8 ⟨rfl, hx'⟩
  replace hx := hx.trans hx'
  clear hx'
  go_wp2_with fail
  have Z := words_is (awG (some ⟨b3, 0, none⟩) 2 A0 1 none 0 (some ⟨b1, 0, none⟩) 1 (some ⟨b2, 0, none⟩) 1 (some ⟨b4, 0, none⟩) 1 1) (some ⟨w8.heap.size, 0, none⟩) 3 [0, 1, 1] 8 (w8.alloc (.cells #[.int .i64 0, .int .i64 1, .int .i64 1] 3)) aw_words (HG6.out.ext (hx.alloc _)) (row_lit w8 _ rfl intCells (by decide)) (by decide) (by simp [awG])
  refine Z.mono ?_
  clear Z
  rintro e w9 ⟨rfl, hx'⟩
  replace hx := (hx.alloc _).trans hx'
  clear hx'
  go_wp2_with fail
  have Z := fieldsG_is (awG (some ⟨b3, 0, none⟩) 2 A0 1 none 0 (some ⟨b1, 0, none⟩) 1 (some ⟨b2, 0, none⟩) 1 (some ⟨b4, 0, none⟩) 1 1) (some ⟨w9.heap.size, 0, none⟩) 2 [0, 1] 2 (w9.alloc (.cells #[.int .i64 0, .int .i64 1] 3)) aw_fields (HG6.out.ext (hx.alloc _)) (row_lit w9 _ rfl intCells (by decide)) (by decide) (by simp [awG])
  refine Z.mono ?_
  clear Z
  rintro e w10 ⟨rfl, hx'⟩
  replace hx := (hx.alloc _).trans hx'
  clear hx'
  go_wp2_with fail
  have Z := leads_any (awG (some ⟨b3, 0, none⟩) 2 A0 1 none 0 (some ⟨b1, 0, none⟩) 1 (some ⟨b2, 0, none⟩) 1 (some ⟨b4, 0, none⟩) 1 1) 0 w10 (HG6.out.ext hx) (by simp [awG]) (by simp [awG])
  refine Z.mono ?_
  clear Z
  rintro e w11 ⟨A1, cap1, rfl, hin, hx'⟩
  have hl1 : leadG (awG (some ⟨b3, 0, none⟩) 2 A0 1 none 0 (some ⟨b1, 0, none⟩) 1 (some ⟨b2, 0, none⟩) 1 (some ⟨b4, 0, none⟩) 1 1).ns 0 = [1] := by rfl
  rw [hl1] at hin ⊢
  obtain ⟨lb, loff, rfl, hc⟩ := hin.get (by decide)
  have d0 := ints_cell hc (k := 0) (by decide)
  simp only [List.getD_cons_zero, Nat.add_zero] at d0
  replace hx := hx.trans hx'
  clear hx' hc hl1
  go_wp2_with fail
  have Z := size_is ⟨3, some ⟨b1, 0, none⟩, 1, [(2, 0)], some ⟨b2, 0, none⟩, 1, [7]⟩ 3 w11 aw_size
  refine Z.mono ?_
  clear Z
  rintro e w12 ⟨rfl, hx'⟩
  replace hx := hx.trans hx'
  clear hx' d0
  go_wp2_with fail
  have Z := same_is (awG (some ⟨b3, 0, none⟩) 2 A0 1 none 0 (some ⟨b1, 0, none⟩) 1 (some ⟨b2, 0, none⟩) 1 (some ⟨b4, 0, none⟩) 1 1) (awG (some ⟨b', 0, none⟩) c' (some ⟨g', 0, none⟩) fc' rA' rc' gA' gc' sA' sc' RA' Rc' 2) false w12 aw_same (HG6.out.ext hx) (HAT.out.ext hx) HOK.out (ok5S.out)
  refine Z.mono ?_
  clear Z
  rintro e w13 ⟨rfl, hx'⟩
  replace hx := hx.trans hx'
  clear hx'
  go_wp2_with fail
  go_ret
  exact ⟨rfl, HXV.out.trans hx⟩
end Go.Proofs.Ytidfibheehcdgaa
