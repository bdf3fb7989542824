/- Merged by program (merge.py) out of: Srt, Flt. -/
import Derived.Shelf.Sort.Plain
import Derived.Shelf.Slices.In.SortNone
import Derived.Sort.OwnSortedInts
import Derived.Test.YtphpppjfogpohaaMc21
import Derived.Test.YtphpppjfogpohaaMc8
import Derived.Test.YtphpppjfogpohaaMc15
/- slices.Sort at numbers: the shelf's contract at this dump (written by the kit's lay-shelf.mjs and lay-plain.mjs), and an own slice that is sorted. -/
set_option linter.unusedSimpArgs false
set_option linter.unusedVariables false
namespace Go.Proofs
open Go.Shelf
def Try.lays189_ren : Go.Shelf.Ren := ⟨fun | 189 => 50 | 125 => 74 | 257 => 73 | 128 => 96 | 129 => 97 | 294 => 87 | 295 => 88 | 296 => 89 | 297 => 90 | 298 => 91 | 299 => 92 | 216 => 93 | 300 => 94 | 301 => 95 | 328 => 99 | 329 => 100 | 330 => 101 | 331 => 102 | 332 => 103 | 215 => 104 | 343 => 105 | n => n, fun | 28 => 28 | 3 => 3 | 46 => 89 | 0 => 0 | 51 => 110 | 53 => 68 | 4 => 4 | 183 => 118 | 182 => 117 | 131 => 65 | 5 => 5 | 9 => 9 | 218 => 130 | 222 => 134 | 228 => 137 | 229 => 86 | n => n, fun | n => n⟩
theorem Try.lays189 : Go.Proofs.Lays.n189 Try.prog Try.lays189_ren := {
  mixed := by kernel_rfl
  f125 := Try.func74.trans (congrArg some (by kernel_rfl))
  f128 := Try.func96.trans (congrArg some (by kernel_rfl))
  f129 := Try.func97.trans (congrArg some (by kernel_rfl))
  f189 := Try.func50.trans (congrArg some (by kernel_rfl))
  f215 := Try.func104.trans (congrArg some (by kernel_rfl))
  f216 := Try.func93.trans (congrArg some (by kernel_rfl))
  f257 := Try.func73.trans (congrArg some (by kernel_rfl))
  f294 := Try.func87.trans (congrArg some (by kernel_rfl))
  f295 := Try.func88.trans (congrArg some (by kernel_rfl))
  f296 := Try.func89.trans (congrArg some (by kernel_rfl))
  f297 := Try.func90.trans (congrArg some (by kernel_rfl))
  f298 := Try.func91.trans (congrArg some (by kernel_rfl))
  f299 := Try.func92.trans (congrArg some (by kernel_rfl))
  f300 := Try.func94.trans (congrArg some (by kernel_rfl))
  f301 := Try.func95.trans (congrArg some (by kernel_rfl))
  f328 := Try.func99.trans (congrArg some (by kernel_rfl))
  f329 := Try.func100.trans (congrArg some (by kernel_rfl))
  f330 := Try.func101.trans (congrArg some (by kernel_rfl))
  f331 := Try.func102.trans (congrArg some (by kernel_rfl))
  f332 := Try.func103.trans (congrArg some (by kernel_rfl))
  f343 := Try.func105.trans (congrArg some (by kernel_rfl))
  t0 := Try.underlying0
  a0 := Try.isAgg0
  z0 := Try.sizeOf0
  v0 := Try.zeroValue0
  t3 := Try.underlying3
  a3 := Try.isAgg3
  z3 := Try.sizeOf3
  v3 := Try.zeroValue3
  t4 := Try.underlying4
  a4 := Try.isAgg4
  z4 := Try.sizeOf4
  v4 := Try.zeroValue4
  t5 := Try.underlying5
  a5 := Try.isAgg5
  z5 := Try.sizeOf5
  v5 := Try.zeroValue5
  t9 := Try.underlying9
  a9 := Try.isAgg9
  z9 := Try.sizeOf9
  v9 := Try.zeroValue9
  t28 := Try.underlying28
  a28 := Try.isAgg28
  z28 := Try.sizeOf28
  v28 := Try.zeroValue28
  t46 := Try.underlying89
  a46 := Try.isAgg89
  z46 := Try.sizeOf89
  v46 := Try.zeroValue89
  t51 := Try.underlying110
  a51 := Try.isAgg110
  z51 := Try.sizeOf110
  v51 := Try.zeroValue110
  t53 := Try.underlying68
  a53 := Try.isAgg68
  z53 := Try.sizeOf68
  v53 := Try.zeroValue68
  t131 := Try.underlying65
  a131 := Try.isAgg65
  z131 := Try.sizeOf65
  v131 := Try.zeroValue65
  t182 := Try.underlying117
  a182 := Try.isAgg117
  z182 := Try.sizeOf117
  v182 := Try.zeroValue117
  t183 := Try.underlying118
  a183 := Try.isAgg118
  z183 := Try.sizeOf118
  v183 := Try.zeroValue118
  t218 := Try.underlying130
  a218 := Try.isAgg130
  z218 := Try.sizeOf130
  v218 := Try.zeroValue130
  t222 := Try.underlying134
  a222 := Try.isAgg134
  z222 := Try.sizeOf134
  v222 := Try.zeroValue134
  t228 := Try.underlying137
  a228 := Try.isAgg137
  z228 := Try.sizeOf137
  v228 := Try.zeroValue137
  t229 := Try.underlying86
  a229 := Try.isAgg86
  z229 := Try.sizeOf86
  v229 := Try.zeroValue86 }
open Go.Sort Go.RowKit in
theorem Try.slices_Sort_int (blk off cap : Nat) (zs : List Int) (w : World) (hH : Holds (Value.int .i64) w blk off zs.toArray) (hblk : blk < w.heap.size) (hsz : zs.length < 4611686018427387904) :
    Calls Try.prog 50 #[.slice (some ⟨blk, off, none⟩) zs.length cap] w fun e w' =>
      e = .returned (.tuple #[]) ∧ ∃ n os, w' = grow (putRow (Value.int .i64) (Sort.ahead w n) blk off (zs.mergeSort fun x y => decide (x ≤ y)).toArray) os := Any.slices_Sort_int Try.lays189 blk off cap zs w hH hblk hsz
theorem Try.slices_Sort_int_none (p : Option Addr) (cap : Nat) (w : World) :
    Calls Try.prog 50 #[.slice p 0 cap] w fun e w' => e = .returned (.tuple #[]) ∧ w' = w := Any.slices_Sort_int_none Try.lays189 p cap w
end Go.Proofs
namespace Go.Proofs.Ytphpppjfogpohaa
open Go.RowKit Go.Shelf
set_option maxRecDepth 100000
theorem map_flatC (l : List Int) : l.map (Value.int .i64) = l.flatMap intC := by
  induction l with
  | nil => rfl
  | cons x l ih => rw [List.map_cons, List.flatMap_cons, ih]; rfl
theorem sort_own {V : World} {B : Nat} {A : Option Addr} {cap : Nat} {zs : List Int} (h : Own 3 1 intC V B (.slice A zs.length cap) zs) (hlen : zs.length ≤ 1000000) :
    Calls Try.prog 50 #[.slice A zs.length cap] V fun e w' => e = .returned (.tuple #[]) ∧ Own 3 1 intC w' B (.slice A zs.length cap) (sortZ zs) ∧ V.grownBy w' (Value.slice A zs.length cap).ownBlock := by
  have hl : (sortZ zs).length = zs.length := List.length_mergeSort ..
  by_cases h0 : zs = []
  · subst h0
    refine (Try.slices_Sort_int_none A cap V).mono ?_
    rintro e w1 ⟨rfl, rfl⟩
    exact ⟨rfl, by rw [show sortZ [] = [] from by simp [sortZ]]; exact h, World.grownBy.refl _ _⟩
  obtain ⟨g, rfl, hB, hlt⟩ := own_some h h0
  rcases h.2 with ⟨hn, _⟩ | ⟨g', cap', cur, hv, hb, hg, hc, hcm, hcs, ht⟩
  · cases hn
  injection hv with e1 e2 e3
  injection e1 with e1
  injection e1 with e1
  subst e1 e3
  have hfl : (zs.flatMap intC).length = zs.length := by have := flat_len intCells zs; omega
  rw [Nat.mul_one, ← map_flatC] at ht
  refine (Try.slices_Sort_int g 0 cap zs V (Go.holds_of_blockI hg ht) hlt (by omega)).mono ?_
  rintro e w1 ⟨rfl, n, os, rfl⟩
  refine ⟨rfl, ?_, Go.grownBy_sortedI _⟩
  have := Go.ownsRow_sortedI (n := n) (os := os) (base := B) hl hb hg hc hcm hcs
  unfold Own
  rw [hl, ← map_flatC]
  exact this
end Go.Proofs.Ytphpppjfogpohaa

/- What is met: flat, breadth first, depth first, rising; the document's. -/
set_option linter.unusedSimpArgs false
set_option linter.unusedVariables false
namespace Go.Proofs.Ytphpppjfogpohaa
open Go.RowKit Go.Shelf
set_option maxRecDepth 100000
set_option maxHeartbeats 2000000
theorem own_ints {w : World} {B : Nat} {A : Option Addr} {cap : Nat} {xs : List Int} (h : Own 3 1 intC w B (.slice A xs.length cap) xs) : IntsAt w A xs := by
  obtain ⟨A', c', e, h2, _⟩ := h.form intCells (by decide)
  injection e with e1 _ _
  subst e1
  exact h2
/-- A list of numbers of the call's own, and an error, come back. -/
def RetFl (V : World) (S : List Int) (c : Int) (e : Ending) (w' : World) : Prop :=
  ∃ A cap, e = .returned (.tuple #[.slice A S.length cap, .int .i64 c]) ∧ Own 3 1 intC w' V.heap.size (.slice A S.length cap) S ∧ Ext V w'
theorem planS_len {G : GraphD} (oG : GOk G) {lim ord blk : Int} (hl : -9223372036854775808 ≤ lim ∧ lim ≤ 9223372036854775807) (hb : -9223372036854775808 ≤ blk ∧ blk ≤ 9223372036854775807) : (planS G lim ord blk).length + (planL G lim ord blk).length ≤ 60 := by
  unfold planS planL
  by_cases he : planE G lim ord blk = 0
  · rw [if_pos he, if_pos he]
    unfold planE at he
    cases hR : rightG G with
    | false => rw [hR] at he; exact absurd he (by simp)
    | true =>
      rw [hR, if_pos rfl] at he
      cases hA : argB lim ord blk with
      | true => rw [hA] at he; exact absurd he (by decide)
      | false =>
        obtain ⟨a1, a2, a3, a4⟩ := argB_no hA
        have hRG := RchG.of oG.1 oG.2 hR ⟨a1, hl.2⟩ ⟨a2, hb.2⟩
        have := (plan_all hRG.env ord.toNat (roots := G.rs) (by rw [envG_n]; have := hRG.pg.roots; simpa using this)).1.met_le
        have hn := hRG.n
        rw [envG_n] at this
        unfold PlD.met at this
        rw [ordZ_len, ordZ_len]
        unfold planD
        omega
  · rw [if_neg he, if_neg he]; simp
theorem plan_is (G : GraphD) (lim ord blk : Int) (S L : List Int) (c : Int) (hS : planS G lim ord blk = S) (hL : planL G lim ord blk = L) (hc : planE G lim ord blk = c) (V : World) (hG : GraphAt V G) (oG : GOk G) (hl : -9223372036854775808 ≤ lim ∧ lim ≤ 9223372036854775807) (hb : -9223372036854775808 ≤ blk ∧ blk ≤ 9223372036854775807) :
    Calls Try.prog 21 #[.agg #[.slice G.nA G.ns.length G.ncap, .slice G.rA G.rs.length G.rcap], .int .i64 lim, .int .i64 ord, .int .i64 blk] V (RetPl V S L c) := by
  subst hS hL hc; exact plan_any G lim ord blk V hG oG hl hb
theorem refplan_is (G : GraphD) (lim ord blk : Int) (S L : List Int) (c : Int) (hS : planS G lim ord blk = S) (hL : planL G lim ord blk = L) (hc : planE G lim ord blk = c) (V : World) (hG : GraphAt V G) (oG : GOk G) (hl : -9223372036854775808 ≤ lim ∧ lim ≤ 9223372036854775807) (hb : -9223372036854775808 ≤ blk ∧ blk ≤ 9223372036854775807) :
    Calls Try.prog 22 #[.agg #[.slice G.nA G.ns.length G.ncap, .slice G.rA G.rs.length G.rcap], .int .i64 lim, .int .i64 ord, .int .i64 blk] V (RetPl V S L c) := by
  subst hS hL hc; exact refplan_any G lim ord blk V hG oG hl hb
theorem flat_is (G : GraphD) (ord : Int) (S : List Int) (c : Int) (hS : planS G 1048576 ord 1 = S) (hc : planE G 1048576 ord 1 = c) (V : World) (hG : GraphAt V G) (oG : GOk G) : Calls Try.prog 49 #[.agg #[.slice G.nA G.ns.length G.ncap, .slice G.rA G.rs.length G.rcap], .int .i64 ord] V (RetFl V S c) := by
  have hx0 := (Ext.refl V).alloc (.cells #[.slice G.nA G.ns.length G.ncap, .slice G.rA G.rs.length G.rcap] 25)
  have hBx := pers_new V #[.slice G.nA G.ns.length G.ncap, .slice G.rA G.rs.length G.rcap] 25 _ rfl
  have HPL := Lib.hid (plan_is G 1048576 ord 1 S _ c hS rfl hc _ (hG.ext hx0) oG ⟨by decide, by decide⟩ ⟨by decide, by decide⟩)
  have HX := Lib.hid hx0
  have kB := (cells_of hBx.here).1
  clear hx0 hG oG hS hc
  generalize planL G 1048576 ord 1 = L at *
  go_enter Try.func49, Try.ntmps49
  go_wp2_with fail
  refine HPL.out.mono ?_
  rintro e w1 ⟨A1, c1, A2, c2, rfl, h1, h2, -, hx⟩
  have H1 := Lib.hid (h1.mono HX.out.size)
  have HX1 := Lib.hid (HX.out.trans hx)
  clear h1 h2 hx kB HPL
  go_wp2_with fail
  ((try simp only [Exit.inBlock, Exit.then]); refine bodyPost_ret (v := .tuple #[.slice A1 S.length c1, .int .i64 c]) (by simp only [results, Try.results49]; go_simp) rfl ?_)
  exact ⟨A1, c1, rfl, H1.out, HX1.out⟩
theorem refflat_is (G : GraphD) (ord : Int) (S : List Int) (c : Int) (hS : planS G 1000000 ord 1 = S) (hc : planE G 1000000 ord 1 = c) (V : World) (hG : GraphAt V G) (oG : GOk G) : Calls Try.prog 24 #[.agg #[.slice G.nA G.ns.length G.ncap, .slice G.rA G.rs.length G.rcap], .int .i64 ord] V (RetFl V S c) := by
  have hx0 := (Ext.refl V).alloc (.cells #[.slice G.nA G.ns.length G.ncap, .slice G.rA G.rs.length G.rcap] 25)
  have hBx := pers_new V #[.slice G.nA G.ns.length G.ncap, .slice G.rA G.rs.length G.rcap] 25 _ rfl
  have HPL := Lib.hid (refplan_is G 1000000 ord 1 S _ c hS rfl hc _ (hG.ext hx0) oG ⟨by decide, by decide⟩ ⟨by decide, by decide⟩)
  have HX := Lib.hid hx0
  have kB := (cells_of hBx.here).1
  clear hx0 hG oG hS hc
  generalize planL G 1000000 ord 1 = L at *
  go_enter Try.func24, Try.ntmps24
  go_wp2_with fail
  refine HPL.out.mono ?_
  rintro e w1 ⟨A1, c1, A2, c2, rfl, h1, h2, -, hx⟩
  have H1 := Lib.hid (h1.mono HX.out.size)
  have HX1 := Lib.hid (HX.out.trans hx)
  clear h1 h2 hx kB HPL
  go_wp2_with fail
  ((try simp only [Exit.inBlock, Exit.then]); refine bodyPost_ret (v := .tuple #[.slice A1 S.length c1, .int .i64 c]) (by simp only [results, Try.results24]; go_simp) rfl ?_)
  exact ⟨A1, c1, rfl, H1.out, HX1.out⟩
theorem breadth_is (G : GraphD) (S : List Int) (c : Int) (hS : planS G 1048576 0 1 = S) (hc : planE G 1048576 0 1 = c) (V : World) (hG : GraphAt V G) (oG : GOk G) : Calls Try.prog 23 #[.agg #[.slice G.nA G.ns.length G.ncap, .slice G.rA G.rs.length G.rcap]] V (RetFl V S c) := by
  have hx0 := (Ext.refl V).alloc (.cells #[.slice G.nA G.ns.length G.ncap, .slice G.rA G.rs.length G.rcap] 25)
  have hBx := pers_new V #[.slice G.nA G.ns.length G.ncap, .slice G.rA G.rs.length G.rcap] 25 _ rfl
  have HPL := Lib.hid (flat_is G 0 S c hS hc _ (hG.ext hx0) oG)
  have HX := Lib.hid hx0
  have kB := (cells_of hBx.here).1
  clear hx0 hG oG hS hc
  go_enter Try.func23, Try.ntmps23
  go_wp2_with fail
  refine HPL.out.mono ?_
  rintro e w1 ⟨A1, c1, rfl, h1, hx⟩
  have H1 := Lib.hid (h1.mono HX.out.size)
  have HX1 := Lib.hid (HX.out.trans hx)
  clear h1 hx kB HPL
  go_wp2_with fail
  ((try simp only [Exit.inBlock, Exit.then]); refine bodyPost_ret (v := .tuple #[.slice A1 S.length c1, .int .i64 c]) (by simp only [results, Try.results23]; go_simp) rfl ?_)
  exact ⟨A1, c1, rfl, H1.out, HX1.out⟩
theorem depth_is (G : GraphD) (S : List Int) (c : Int) (hS : planS G 1048576 1 1 = S) (hc : planE G 1048576 1 1 = c) (V : World) (hG : GraphAt V G) (oG : GOk G) : Calls Try.prog 25 #[.agg #[.slice G.nA G.ns.length G.ncap, .slice G.rA G.rs.length G.rcap]] V (RetFl V S c) := by
  have hx0 := (Ext.refl V).alloc (.cells #[.slice G.nA G.ns.length G.ncap, .slice G.rA G.rs.length G.rcap] 25)
  have hBx := pers_new V #[.slice G.nA G.ns.length G.ncap, .slice G.rA G.rs.length G.rcap] 25 _ rfl
  have HPL := Lib.hid (flat_is G 1 S c hS hc _ (hG.ext hx0) oG)
  have HX := Lib.hid hx0
  have kB := (cells_of hBx.here).1
  clear hx0 hG oG hS hc
  go_enter Try.func25, Try.ntmps25
  go_wp2_with fail
  refine HPL.out.mono ?_
  rintro e w1 ⟨A1, c1, rfl, h1, hx⟩
  have H1 := Lib.hid (h1.mono HX.out.size)
  have HX1 := Lib.hid (HX.out.trans hx)
  clear h1 hx kB HPL
  go_wp2_with fail
  ((try simp only [Exit.inBlock, Exit.then]); refine bodyPost_ret (v := .tuple #[.slice A1 S.length c1, .int .i64 c]) (by simp only [results, Try.results25]; go_simp) rfl ?_)
  exact ⟨A1, c1, rfl, H1.out, HX1.out⟩
theorem reach_is (G : GraphD) (S : List Int) (c : Int) (hS : sortZ (planS G 1048576 1 1) = S) (hc : planE G 1048576 1 1 = c) (V : World) (hG : GraphAt V G) (oG : GOk G) : Calls Try.prog 26 #[.agg #[.slice G.nA G.ns.length G.ncap, .slice G.rA G.rs.length G.rcap]] V (RetFl V S c) := by
  have hx0 := (Ext.refl V).alloc (.cells #[.slice G.nA G.ns.length G.ncap, .slice G.rA G.rs.length G.rcap] 25)
  have hBx := pers_new V #[.slice G.nA G.ns.length G.ncap, .slice G.rA G.rs.length G.rcap] 25 _ rfl
  have HPL := Lib.hid (depth_is G _ c rfl hc _ (hG.ext hx0) oG)
  have HLE : Hid ((planS G 1048576 1 1).length ≤ 60) := Lib.hid (by have := planS_len oG (lim := 1048576) (ord := 1) (blk := 1) ⟨by decide, by decide⟩ ⟨by decide, by decide⟩; omega)
  have HLS : Hid ((planS G 1048576 1 1).length = S.length) := Lib.hid (by rw [← hS]; exact (List.length_mergeSort ..).symm)
  have HS := Lib.hid hS
  have HX := Lib.hid hx0
  have kB := (cells_of hBx.here).1
  clear hx0 hG oG hS hc
  generalize planS G 1048576 1 1 = S0 at *
  go_enter Try.func26, Try.ntmps26
  go_wp2_with fail
  refine HPL.out.mono ?_
  rintro e w1 ⟨A1, c1, rfl, h1, hx⟩
  have H1 := Lib.hid (h1.mono HX.out.size)
  have HX1 := Lib.hid (HX.out.trans hx)
  clear h1 hx kB HPL
  go_wp2_with fail
  refine (sort_own H1.out (by have := HLE.out; omega)).mono ?_
  rintro e w2 ⟨rfl, h2, hg⟩
  have H2 := Lib.hid h2
  have HX2 := Lib.hid (H1.out.grown hg (Nat.le_refl _) HX1.out)
  clear h2 hg H1
  go_wp2_with fail
  ((try simp only [Exit.inBlock, Exit.then]); refine bodyPost_ret (v := .tuple #[.slice A1 S0.length c1, .int .i64 c]) (by simp only [results, Try.results26]; go_simp) rfl ?_)
  exact ⟨A1, c1, by rw [HLS.out], by have := H2.out; rw [HS.out, HLS.out] at this; exact this, HX2.out⟩
end Go.Proofs.Ytphpppjfogpohaa

