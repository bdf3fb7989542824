/- Merged by program (merge.py) out of: CpB, CpC. -/
import Derived.Test.YtkcpfimhbogdcaaMo28
import Derived.Test.YtkcpfimhbogdcaaMo21
import Derived.Test.YtkcpfimhbogdcaaMo2
import Derived.Test.YtkcpfimhbogdcaaMo29
/- What a run calls: head.Forward, head.Forwarded, arena.Move, object.SetField. -/
set_option linter.unusedSimpArgs false
set_option linter.unusedVariables false
namespace Go.Proofs.Ytkcpfimhbogdcaa
open Go.RowKit Go.Shelf
set_option maxRecDepth 100000
set_option maxHeartbeats 1000000
theorem hforward_is (x u er : Int) (h1 : encW 2 x = u) (h2 : encE 2 x = er) (V : World) : Calls Try.prog 137 #[.int .i64 x] V fun e w' => e = .returned (.tuple #[.int .u64 u, .int .i64 er]) ∧ Ext V w' := by
  have HE := Lib.hid (fun w => enc_is 2 x u er h1 h2 w)
  clear h1 h2
  go_enter Try.func137, Try.ntmps137
  go_wp2_with fail
  refine (HE.out _).mono ?_
  rintro e w1 ⟨rfl, hx⟩
  go_wp2_with fail
  ((try simp only [Exit.inBlock, Exit.then]); refine bodyPost_ret (v := .tuple #[.int .u64 u, .int .i64 er]) (by simp only [results, Try.results137]; go_simp) rfl ?_)
  exact ⟨rfl, hx⟩
theorem vref_is (v x : Int) (b : Bool) (h0 : 0 ≤ v ∧ v < 18446744073709551616) (h1 : refX v = x) (h2 : refB v = b) (V : World) : Calls Try.prog 97 #[.int .u64 v] V fun e w' => e = .returned (.tuple #[.int .i64 x, .bool b]) ∧ Ext V w' := by
  subst h1 h2; exact vref_any v V h0.1 h0.2
theorem hforwarded_is (v x : Int) (b : Bool) (h0 : 0 ≤ v ∧ v < 18446744073709551616) (h1 : refX v = x) (h2 : refB v = b) (V : World) : Calls Try.prog 98 #[.int .u64 v] V fun e w' => e = .returned (.tuple #[.int .i64 x, .bool b]) ∧ Ext V w' := by
  have HE := Lib.hid (fun w => vref_is v x b h0 h1 h2 w)
  clear h0 h1 h2
  go_enter Try.func98, Try.ntmps98
  go_wp2_with fail
  refine (HE.out _).mono ?_
  rintro e w1 ⟨rfl, hx⟩
  go_wp2_with fail
  ((try simp only [Exit.inBlock, Exit.then]); refine bodyPost_ret (v := .tuple #[.int .i64 x, .bool b]) (by simp only [results, Try.results98]; go_simp) rfl ?_)
  exact ⟨rfl, hx⟩
/-- Words laid one behind the other. -/
def layU (ws : List Int) (i : Nat) : List Int → List Int
  | [] => ws
  | y :: ys => layU (ws.set i y) (i + 1) ys
theorem layU_len : ∀ (ys ws : List Int) (i : Nat), (layU ws i ys).length = ws.length
  | [], _, _ => rfl
  | y :: ys, ws, i => by rw [layU, layU_len, List.length_set]
theorem ArO.sets {Bo b g cap : Nat} : ∀ (ys : List Int) {w : World} {ws : List Int} (i : Nat), ArO Bo w b (some ⟨g, 0, none⟩) cap ws → i + ys.length ≤ ws.length → (∀ y ∈ ys, 0 ≤ y ∧ y < 18446744073709551616) →
    ArO Bo (w.setCells g i (ys.map (Value.int .u64))) b (some ⟨g, 0, none⟩) cap (layU ws i ys) ∧ w.grownBy (w.setCells g i (ys.map (Value.int .u64))) (some g) := by
  intro ys
  induction ys with
  | nil => intro w ws i h _ _; exact ⟨h, World.grownBy.refl _ _⟩
  | cons y ys ih =>
    intro w ws i h hl hb
    obtain ⟨g', e, _, _, _, h1, h2⟩ := h.set (j := i) (by simp at hl; omega) (hb y (by simp))
    simp only [Option.some.injEq, Addr.mk.injEq, and_true] at e
    subst e
    obtain ⟨k1, k2⟩ := ih (i + 1) h1 (by rw [List.length_set]; simp at hl; omega) (fun z hz => hb z (by simp [hz]))
    exact ⟨k1, h2.trans k2⟩
theorem run_copy_u64 (w : World) (ty : TypeId) (b o dl dc : Nat) (a : Addr) (sl sc : Nat) (cs : List Value) (hn : cs.length = Nat.min sl dl)
    (hsrc : ∀ j v, cs[j]? = some v → w.cell? (a.add j) = some v) (hc : ∀ j, j < cs.length → (w.cell? ⟨b, o + j, none⟩).isSome = true) (hf : ∀ j, j < cs.length → w.frozen? ⟨b, o + j, none⟩ = false) (h1 : ∀ v ∈ cs, v.oneCell' = true) :
    (Builtin.copy_ #[33, 33] ty #[.slice (some ⟨b, o, none⟩) dl dc, .slice (some a) sl sc]).run Try.prog w = .ok (goInt (Nat.min sl dl)) (w.setCells b o cs) := by
  have hl := run_loadCells_list (P := Try.prog) w a cs hsrc
  have hst := run_storeCells_cells (P := Try.prog) b o cs 0 w (by simpa using hc) (by simpa using hf) h1
  obtain ⟨i, z, hi, _, hz, _, _⟩ := (u64Info).inf
  simp only [Nat.add_zero] at hst
  simp [Builtin.copy_, run_underlying Try.underlying33, Builtin.lenOf, Builtin.firstCells, sizeOf, typeInfo, hi, hz, ← hn, hl, hst]
theorem amove_ok (b : Nat) (A : Option Addr) (cap : Nat) (ws : List Int) (to fr n : Nat) (Bo : Nat) (V : World) (h : ArO Bo V b A cap ws) (hn : 1 ≤ n) (h1 : to + n ≤ ws.length) (h2 : fr + n ≤ ws.length) :
    Calls Try.prog 136 #[.pointer (some ⟨b, 0, none⟩), .int .i64 to, .int .i64 fr, .int .i64 n] V fun e w' => e = .returned (.int .i64 0) ∧ ArO Bo w' b A cap (layU ws to ((ws.drop fr).take n)) ∧ V.grownBy w' (Value.slice A ws.length cap).ownBlock := by
  obtain ⟨g, rfl, hBg, hgs⟩ := own_some h.own (by intro e; rw [e] at h1; simp at h1; omega)
  have hl := h.len
  have r1 : rowE ws (to : Int) (n : Int) = 0 := by rw [rowE, if_neg (by omega), if_neg (by omega)]
  have r2 : rowE ws (fr : Int) (n : Int) = 0 := by rw [rowE, if_neg (by omega), if_neg (by omega)]
  have v1 : rowV (some ⟨g, 0, none⟩) ws to n = .slice (some ⟨g, to, none⟩) n n := by rw [rowV_ok r1, rowA, if_neg (by omega)]; simp [Addr.add]; exact fun h => h.symm
  have v2 : rowV (some ⟨g, 0, none⟩) ws fr n = .slice (some ⟨g, fr, none⟩) n n := by rw [rowV_ok r2, rowA, if_neg (by omega)]; simp [Addr.add]; exact fun h => h.symm
  have HR1 := Lib.hid (fun w (hw : Ext V w) => arow_any b (some ⟨g, 0, none⟩) cap ws to n Bo w (h.ext hw) ⟨by omega, by omega⟩ ⟨by omega, by omega⟩)
  have HR2 := Lib.hid (fun w (hw : Ext V w) => arow_any b (some ⟨g, 0, none⟩) cap ws fr n Bo w (h.ext hw) ⟨by omega, by omega⟩ ⟨by omega, by omega⟩)
  rw [r1, v1] at HR1
  rw [r2, v2] at HR2
  have HH := Lib.hid h
  have HLL := Lib.hid (And.intro h1 h2)
  have hcl : ((ws.drop fr).take n).length = n := by rw [List.length_take, List.length_drop]; omega
  have HCP : Hid (∀ w, Ext V w → ∀ ty, (Builtin.copy_ #[33, 33] ty #[.slice (some ⟨g, to, none⟩) n n, .slice (some ⟨g, fr, none⟩) n n]).run Try.prog w = .ok (goInt (Nat.min n n)) (w.setCells g to (((ws.drop fr).take n).map (Value.int .u64)))) := Lib.hid (fun w hw ty => by
    have ha := HH.out.ext hw
    obtain ⟨lb, off, e0, hcc⟩ := ha.arB.row.get (by omega)
    simp only [Option.some.injEq, Addr.mk.injEq, and_true] at e0
    obtain ⟨rfl, rfl⟩ := e0
    obtain ⟨cur, hcur⟩ := own_heap ha.own
    have hcell : ∀ j, j < ws.length → w.cell? ⟨g, j, none⟩ = some (.int .u64 (ws.getD j 0)) := fun j hj => by
      have := words_cell hcc hj
      simpa using this
    refine run_copy_u64 w ty g to n n ⟨g, fr, none⟩ n n _ (by rw [List.length_map, hcl]; simp [Nat.min_def]) (fun j v hv => ?_) (fun j hj => ?_) (fun j hj => by simp [World.frozen?, hcur]) (fun v hv => ?_)
    · rw [List.getElem?_map, List.getElem?_take] at hv
      split at hv
      · rename_i hjn
        rw [List.getElem?_drop] at hv
        have hfj : fr + j < ws.length := by omega
        rw [List.getElem?_eq_getElem hfj] at hv
        simp only [Option.map_some, Option.some.injEq] at hv
        have h3 := hcell (fr + j) hfj
        rw [List.getD_eq_getElem?_getD, List.getElem?_eq_getElem hfj, Option.getD_some] at h3
        have e3 : (⟨g, fr, none⟩ : Addr).add j = ⟨g, fr + j, none⟩ := by unfold Addr.add; split <;> simp_all
        rw [e3, h3, hv]
      · simp at hv
    · rw [List.length_map, hcl] at hj
      rw [hcell (to + j) (by omega)]
      rfl
    · obtain ⟨z, _, rfl⟩ := List.mem_map.1 hv
      rfl)
  obtain ⟨cs, hcs⟩ : ∃ cs, ((ws.drop fr).take n).map (Value.int .u64) = cs := ⟨_, rfl⟩
  rw [hcs] at HCP
  have HCS := Lib.hid hcs
  clear h r1 r2 v1 v2 h1 h2 hl hcs
  go_enter Try.func136, Try.ntmps136
  go_wp2_with fail
  refine (HR1.out V (Ext.refl V)).mono ?_
  rintro e w1 ⟨rfl, hx⟩
  have HX := Lib.hid hx
  clear hx
  go_wp2_with fail
  refine (HR2.out w1 HX.out).mono ?_
  rintro e w2 ⟨rfl, hx⟩
  replace HX := Lib.hid (HX.out.trans hx)
  clear hx
  go_wp2_with (refine wpList_copy_run w2 rfl (.tmp 31) (.tmp 32) 33 33 rfl _ _ rfl rfl (HCP.out w2 HX.out _) ?_)
  go_ret
  obtain ⟨k1, k2⟩ := ArO.sets ((ws.drop fr).take n) to (HH.out.ext HX.out) (by rw [hcl]; exact HLL.out.1) (fun y hy => HH.out.bd y (List.mem_of_mem_drop (List.mem_of_mem_take hy)))
  rw [HCS.out] at k1 k2
  exact ⟨rfl, k1, (grown_of HX.out).trans k2⟩
end Go.Proofs.Ytkcpfimhbogdcaa

/- A living run: where it lies, what it may turn; copier.New. -/
set_option linter.unusedSimpArgs false
set_option linter.unusedVariables false
namespace Go.Proofs.Ytkcpfimhbogdcaa
open Go.RowKit Go.Shelf

/-- w' is w with new blocks; of the old ones those of S alone may have turned. -/
structure Fr (S : Nat → Prop) (w w' : World) : Prop where
  os : w'.os = w.os
  tape : w'.tape = w.tape
  output : w'.output = w.output
  size : w.heap.size ≤ w'.heap.size
  block : ∀ k, k < w.heap.size → ¬ S k → w'.heap[k]? = w.heap[k]?
section
variable {S : Nat → Prop} {u v w w' : World}
theorem Fr.of_ext (h : Ext w w') : Fr S w w' := ⟨h.os, h.tape, h.output, h.size, fun k hk _ => h.block hk⟩
theorem Fr.refl : Fr S w w := Fr.of_ext (Ext.refl w)
theorem Fr.trans (h : Fr S u v) (k : Fr S v w) : Fr S u w :=
  ⟨k.os.trans h.os, k.tape.trans h.tape, k.output.trans h.output, Nat.le_trans h.size k.size, fun i hi h1 => (k.block i (Nat.lt_of_lt_of_le hi h.size) h1).trans (h.block i hi h1)⟩
theorem Fr.of_grown {og : Option Nat} (h : w.grownBy w' og) (hS : ∀ g, og = some g → S g) : Fr S w w' := ⟨h.os, h.tape, h.output, h.size, fun k hk hn => h.block k hk (fun e => hn (hS k e.symm))⟩
theorem Fr.of_only {b : Nat} (h : Only b w w') (hS : S b) : Fr S w w' := Fr.of_grown h (fun g e => by injection e with e; rwa [← e])
theorem Fr.set (h : Fr S u w) {b : Nat} (hS : S b) (i : Nat) (x : Value) : Fr S u (w.setCell ⟨b, i, none⟩ x) :=
  ⟨h.os, h.tape, h.output, by simpa using h.size, fun k hk h1 => (Below.heap_setCell w ⟨b, i, none⟩ x k (fun e => h1 (by rw [e]; exact hS))).trans (h.block k hk h1)⟩
theorem Fr.ext (h : Fr S w w') (hu : Ext u w) (hS : ∀ k, S k → u.heap.size ≤ k) : Ext u w' :=
  ⟨h.os.trans hu.os, h.tape.trans hu.tape, h.output.trans hu.output, Nat.le_trans hu.size h.size, fun k hk => (h.block k (Nat.lt_of_lt_of_le hk hu.size) (fun e => by have := hS k e; omega)).trans (hu.block hk)⟩
theorem Own.fr {α : Type} {e n : Nat} {f : α → List Value} {B : Nat} {x : Value} {xs : List α} (h : Own e n f w B x xs) (ht : Fr S w w') (h1 : ∀ g, x.ownBlock = some g → ¬ S g) : Own e n f w' B x xs :=
  h.same fun g cs ty r hg hc => (ht.block g (lt_of_heap hc) (h1 g hg)).trans hc
end
/-- What of a run stays. -/
structure RunK where
  R : Nat
  p : Nat
  b : Nat
  B : Nat
  A : Option Addr
  cap : Nat
  N : Nat
  fa : Int
  fs : Int
  tp : Int
  ta : Int
  ts : Int
/-- What of it turns: the words, what is taken, what was counted. -/
structure RunC where
  ws : List Int
  used : Int
  k0 : Int
  k1 : Int
  k2 : Int
  k3 : Int
  k4 : Int
/-- The blocks that a run may turn. -/
def RunK.S (K : RunK) (k : Nat) : Prop := k = K.R ∨ k = K.B ∨ (Value.slice K.A K.N K.cap).ownBlock = some k
structure RunV (V0 : World) (K : RunK) (c : RunC) (w : World) : Prop where
  blk : w.heap[K.R]? = some (.cells #[.bool true, .pointer (some ⟨K.p, 0, none⟩), .int .i64 K.fa, .int .i64 K.fs, .int .i64 K.tp, .int .i64 K.ta, .int .i64 K.ts, .pointer (some ⟨K.B, 0, none⟩), .pointer (some ⟨K.b, 0, none⟩), .int .i64 c.k0, .int .i64 c.k1, .int .i64 c.k2, .int .i64 c.k3, .int .i64 c.k4] 106 (0, 0))
  bmp : BumpAt w K.B K.ta K.ts c.used
  lo : LoO V0.heap.size w K.b K.p K.A K.cap ⟨c.ws, [], [], 0⟩
  ext : Ext V0 w
  len : c.ws.length = K.N
  bR : V0.heap.size ≤ K.R
  bB : V0.heap.size ≤ K.B
  may : mayB K.ta K.ts = true
  us : 0 ≤ c.used ∧ c.used ≤ K.ts
  fr : 0 ≤ K.fa ∧ K.fa ≤ K.tp ∧ K.tp ≤ K.N
section
variable {V0 : World} {K : RunK} {c : RunC} {w w' : World}
theorem RunV.own (h : RunV V0 K c w) : ArO V0.heap.size w K.p K.A K.cap c.ws := by
  obtain ⟨_, _, _, _, hl⟩ := h.lo
  exact hl.ar
theorem RunV.grow (h : RunV V0 K c w) (hx : Ext w w') : RunV V0 K c w' :=
  ⟨(hx.block (lt_of_heap h.blk)).trans h.blk, h.bmp.ext hx, h.lo.ext hx, h.ext.trans hx, h.len, h.bR, h.bB, h.may, h.us, h.fr⟩
theorem RunV.pers (h : RunV V0 K c w) : Pers w (fun w => RunV V0 K c w) := fun _ k => h.grow k
theorem RunV.S_ge (h : RunV V0 K c w) : ∀ k, K.S k → V0.heap.size ≤ k := by
  rintro k (rfl | rfl | hk)
  · exact h.bR
  · exact h.bB
  · have ho := h.own.own
    rw [h.len] at ho
    exact (World.ownsRow.lt ho k hk).1
theorem RunV.old (h : RunV V0 K c w) (ht : Fr K.S w w') : Ext V0 w' := ht.ext h.ext h.S_ge
/-- The arena's words were written. -/
theorem RunV.turn (h : RunV V0 K c w) {ws : List Int} (ha : ArO V0.heap.size w' K.p K.A K.cap ws) (hl : ws.length = K.N) (hg : w.grownBy w' (Value.slice K.A K.N K.cap).ownBlock) : RunV V0 K ⟨ws, c.used, c.k0, c.k1, c.k2, c.k3, c.k4⟩ w' := by
  obtain ⟨tA, tc, fA, fc, hlo⟩ := h.lo
  have ho := h.own.own
  rw [h.len] at ho
  have hg' : w.grownBy w' (Value.slice K.A c.ws.length K.cap).ownBlock := by rw [h.len]; exact hg
  refine ⟨(hg.block _ (lt_of_heap h.blk) (Own.ne_block ho h.blk (by decide))).trans h.blk, ?_, ⟨tA, tc, fA, fc, hlo.turn ha hg'⟩, ?_, hl, h.bR, h.bB, h.may, h.us, h.fr⟩
  · exact (hg.block _ (lt_of_heap h.bmp) (Own.ne_block ho h.bmp (by decide))).trans h.bmp
  · exact h.old (Fr.of_grown hg (fun g e => .inr (.inr e)))
end
end Go.Proofs.Ytkcpfimhbogdcaa

