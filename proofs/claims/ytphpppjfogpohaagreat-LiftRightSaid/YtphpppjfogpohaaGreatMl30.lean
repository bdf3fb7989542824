/- Merged by program (merge.py) out of: StO, StP, StS, IdP, StR, StW, CkA, OwnC, AwF. -/
import Derived.Test.YtphpppjfogpohaaGreatMl29
import Derived.Test.YtphpppjfogpohaaGreatMl16
import Derived.Test.YtphpppjfogpohaaGreatMl21
import Derived.Test.YtphpppjfogpohaaGreatMl20
import Derived.Test.YtphpppjfogpohaaGreatMl7
import Derived.Test.YtphpppjfogpohaaGreatMl14
import Derived.Test.YtphpppjfogpohaaGreatMl2
import Derived.Test.YtphpppjfogpohaaGreatMl18
set_option linter.unusedSimpArgs false
set_option linter.unusedVariables false
namespace Go.Proofs.YtphpppjfogpohaaGreat
open Go.RowKit Go.Shelf
section
variable {c0 c1 c2 c3 : Int} {sn : Bool} {wA : Option Addr} {ws : List Int} {wc : Nat} {top : Int} {tA : Option Addr} {tb : List (Int × Int)} {tc : Nat} {fA : Option Addr} {fr : List (Int × Int)} {fc : Nat} {sA : Option Addr} {sl : List (Bool × Int × Int)} {sc : Nat}
variable {V : World} {L : Nat} {p sm m : Value}
theorem stconfig_is {b : Bool} (h : cfgB c0 c1 c2 c3 = b) (hL : Pers V (fun w => w.heap[L]? = some (.cells #[.int .i64 c0, .int .i64 c1, .int .i64 c2, .int .i64 c3, .bool sn, .slice wA ws.length wc, .int .i64 top, .slice tA tb.length tc, .slice fA fr.length fc, .slice sA sl.length sc, p, sm, m] 124 (0, 0)))) :
  Calls Tryz.prog 79 #[.pointer (some ⟨L, 0, none⟩)] V fun e w' => e = .returned (.bool b) ∧ Ext V w' := by rw [← h]; exact stconfig_any hL
theorem sttop_is {b : Bool} (h : topB c0 c1 c2 c3 sn top = b) (hL : Pers V (fun w => w.heap[L]? = some (.cells #[.int .i64 c0, .int .i64 c1, .int .i64 c2, .int .i64 c3, .bool sn, .slice wA ws.length wc, .int .i64 top, .slice tA tb.length tc, .slice fA fr.length fc, .slice sA sl.length sc, p, sm, m] 124 (0, 0)))) :
  Calls Tryz.prog 80 #[.pointer (some ⟨L, 0, none⟩)] V fun e w' => e = .returned (.bool b) ∧ Ext V w' := by rw [← h]; exact sttop_any hL
set_option maxRecDepth 100000
set_option maxHeartbeats 8000000
theorem stused_any (V : World) :
  Calls Tryz.prog 34 #[.agg #[.int .i64 c0, .int .i64 c1, .int .i64 c2, .int .i64 c3, .bool sn, .slice wA ws.length wc, .int .i64 top, .slice tA tb.length tc, .slice fA fr.length fc, .slice sA sl.length sc]] V fun e w' => e = .returned (.int .i64 (usedZ c0 c1 c2 c3 sn top)) ∧ Ext V w' := by
 have hS := pers_new2 V #[.int .i64 c0, .int .i64 c1, .int .i64 c2, .int .i64 c3, .bool sn, .slice wA ws.length wc, .int .i64 top, .slice tA tb.length tc, .slice fA fr.length fc, .slice sA sl.length sc] 34 _ rfl (.cells #[.int .i64 c0, .int .i64 c1, .int .i64 c2, .int .i64 c3, .bool sn, .slice wA ws.length wc, .int .i64 top, .slice tA tb.length tc, .slice fA fr.length fc, .slice sA sl.length sc, .pointer none, .slice none 0 0, .map none] 124)
 have hL := pers_new (V.alloc (.cells #[.int .i64 c0, .int .i64 c1, .int .i64 c2, .int .i64 c3, .bool sn, .slice wA ws.length wc, .int .i64 top, .slice tA tb.length tc, .slice fA fr.length fc, .slice sA sl.length sc] 34)) #[.int .i64 c0, .int .i64 c1, .int .i64 c2, .int .i64 c3, .bool sn, .slice wA ws.length wc, .int .i64 top, .slice tA tb.length tc, .slice fA fr.length fc, .slice sA sl.length sc, .pointer none, .slice none 0 0, .map none] 124 (V.heap.size + 1) (by simp)
 have hx := ((Ext.refl V).alloc (.cells #[.int .i64 c0, .int .i64 c1, .int .i64 c2, .int .i64 c3, .bool sn, .slice wA ws.length wc, .int .i64 top, .slice tA tb.length tc, .slice fA fr.length fc, .slice sA sl.length sc] 34)).alloc (.cells #[.int .i64 c0, .int .i64 c1, .int .i64 c2, .int .i64 c3, .bool sn, .slice wA ws.length wc, .int .i64 top, .slice tA tb.length tc, .slice fA fr.length fc, .slice sA sl.length sc, .pointer none, .slice none 0 0, .map none] 124)
 obtain ⟨x, hx1⟩ : ∃ b, cfgB c0 c1 c2 c3 = b := ⟨_, rfl⟩
 obtain ⟨y, hy1⟩ : ∃ b, topB c0 c1 c2 c3 sn top = b := ⟨_, rfl⟩
 obtain ⟨a, ha⟩ : ∃ b, halfA c0 c1 c2 c3 sn = b := ⟨_, rfl⟩
 obtain ⟨n, hn⟩ : ∃ b, halfS c0 c1 c2 c3 = b := ⟨_, rfl⟩
 obtain ⟨b1, b2, b3, b4⟩ := half_bd c0 c1 c2 c3 sn
 rw [ha] at b1 b2
 rw [hn] at b3 b4
 have HB1 : Hid (cfgB c0 c1 c2 c3 = x) := zH hx1
 have HB2 : Hid (topB c0 c1 c2 c3 sn top = y) := zH hy1
 have HU : Hid (usedZ c0 c1 c2 c3 sn top = if x && y then top - a else 0) := zH (by rw [usedZ, hx1, hy1, ha])
 have hw : y = true → wrap64 (top - a) = top - a := fun h => by
  subst h
  rw [topB, ha, hn, decide_eq_true_eq] at hy1
  exact IntWalk.wrap64_in _ ⟨by omega, by omega⟩
 have HW := zH hw
 have HA := zH ha
 have HN := zH hn
 have HX := zH hx
 clear hx hx1 hy1 ha hn hw
 go_enter Tryz.func34, Tryz.ntmps34
 go_wp2_with fail
 generalize (V.alloc (.cells #[.int .i64 c0, .int .i64 c1, .int .i64 c2, .int .i64 c3, .bool sn, .slice wA ws.length wc, .int .i64 top, .slice tA tb.length tc, .slice fA fr.length fc, .slice sA sl.length sc] 34)).alloc (.cells #[.int .i64 c0, .int .i64 c1, .int .i64 c2, .int .i64 c3, .bool sn, .slice wA ws.length wc, .int .i64 top, .slice tA tb.length tc, .slice fA fr.length fc, .slice sA sl.length sc, .pointer none, .slice none 0 0, .map none] 124) = W at *
 generalize V.heap.size + 1 = L at *
 generalize V.heap.size = S at *
 have g := hS.cells
 cases x
 ·((first | refine at_baseC (W := W) ?_ | refine at_base (W := W) ?_); intro uq; (try go_wp2_with fail))
  (refine (stconfig_is HB1.out (hL.re zE)).mono ?_; rintro e wq ⟨rfl, hx⟩; replace hx := Ext.trans (a := W) zE hx; obtain ⟨uq, rfl⟩ : ∃ u : ExtOf W, wq = u.1 := ⟨⟨wq, hx⟩, rfl⟩; clear hx; go_wp2_with fail)
  go_ret
  exact ⟨by rw [HU.out]; rfl, HX.out.trans (ExtOf.ext _)⟩
 ·((first | refine at_baseC (W := W) ?_ | refine at_base (W := W) ?_); intro uq; (try go_wp2_with fail))
  (refine (stconfig_is HB1.out (hL.re zE)).mono ?_; rintro e wq ⟨rfl, hx⟩; replace hx := Ext.trans (a := W) zE hx; obtain ⟨uq, rfl⟩ : ∃ u : ExtOf W, wq = u.1 := ⟨⟨wq, hx⟩, rfl⟩; clear hx; go_wp2_with fail)
  cases y
  ·(refine (sttop_is HB2.out (hL.re zE)).mono ?_; rintro e wq ⟨rfl, hx⟩; replace hx := Ext.trans (a := W) zE hx; obtain ⟨uq, rfl⟩ : ∃ u : ExtOf W, wq = u.1 := ⟨⟨wq, hx⟩, rfl⟩; clear hx; go_wp2_with fail)
   go_ret
   exact ⟨by rw [HU.out]; rfl, HX.out.trans (ExtOf.ext _)⟩
  ·have e1 := HW.out rfl
   (refine (sttop_is HB2.out (hL.re zE)).mono ?_; rintro e wq ⟨rfl, hx⟩; replace hx := Ext.trans (a := W) zE hx; obtain ⟨uq, rfl⟩ : ∃ u : ExtOf W, wq = u.1 := ⟨⟨wq, hx⟩, rfl⟩; clear hx; go_wp2_with fail)
   have hx3 := uq.2
   (refine wp_region_seg (W := W) [([(0, true), (1, true), (2, true), (3, true), (4, true), (5, true)], 6), ([], 7)] [(8, true), (9, true)] [] (by kernel_rfl) (by kernel_rfl) (by intro c a d v w h; cases d <;> first | exact h | (cases h; done) | cases h.1.1 | cases h.1) (by with_reducible assumption) ?_; simp only [opsOf, List.map_cons, List.map_nil, List.getD_cons_zero, List.getD_cons_succ])
   ((first | refine seg_cons ?_ | refine seg_last ?_); (repeat (go_big_quiet_step (fail))); refine wpQuiet_nil ?_; intro w1 hx)
   ((refine seg_step ?_ ?_; (focus rfl); intro K hK; go_simp); refine (lfrom_is HA.out HN.out _).mono ?_; rintro e W3 ⟨rfl, hx2⟩; refine hK W3 _ _ (hx.trans hx2) (Ext.refl _) ?_; have hz2 := hx.size; replace hx2 := hx.trans hx2; clear hK K hx)
   replace HX := zH (HX.out.trans hx2)
   ((first | refine seg_cons ?_ | refine seg_last ?_); (repeat (go_big_quiet_step (fail))); refine wpQuiet_nil ?_; intro w1 hx)
   (refine seg_step ?_ ?_; (focus rfl); intro K hK; go_simp)
   refine hK _ { tmps := #[.agg #[.int .i64 c0, .int .i64 c1, .int .i64 c2, .int .i64 c3, .bool sn, .slice wA ws.length wc, .int .i64 top, .slice tA tb.length tc, .slice fA fr.length fc, .slice sA sl.length sc], .pointer (some ⟨S, 0, none⟩), .int .i64 0, .pointer (some ⟨L, 0, none⟩), .agg #[.int .i64 c0, .int .i64 c1, .int .i64 c2, .int .i64 c3, .bool sn, .slice wA ws.length wc, .int .i64 top, .slice tA tb.length tc, .slice fA fr.length fc, .slice sA sl.length sc], .agg #[.int .i64 c0, .int .i64 c1, .int .i64 c2, .int .i64 c3, .bool sn, .slice wA ws.length wc, .int .i64 top, .slice tA tb.length tc, .slice fA fr.length fc, .slice sA sl.length sc, .pointer none, .slice none 0 0, .map none], .pointer (some ⟨L, 0, none⟩), .pointer (some ⟨L, 0, none⟩), .bool true, .bool false, .bool false, .pointer (some ⟨L, 0, none⟩), .bool true, .bool false, .bool false, .pointer (some ⟨S, 6, none⟩), .int .i64 top, .pointer (some ⟨S, 0, none⟩), .agg #[.int .i64 (c0), .int .i64 (c1), .int .i64 (c2), .int .i64 (c3)], .pointer (some ⟨S, 4, none⟩), .bool sn, .agg #[.int .i64 (a), .int .i64 (n)], .int .i64 a, undef], defers := [] } _ hx (Ext.refl _) ?_
   replace HX := zH (HX.out.trans hx)
   clear hK K hx
   ((first | refine seg_cons ?_ | refine seg_last ?_); (repeat (go_big_quiet_step (fail))); refine wpQuiet_nil ?_; intro w1 hx)
   (obtain ⟨uq, rfl⟩ : ∃ u : ExtOf _, w1 = u.1 := ⟨⟨w1, hx⟩, rfl⟩; clear hx; go_wp2_with fail)
   go_ret
   exact ⟨by rw [HU.out]; exact congrArg (fun z => Ending.returned (.int .i64 z)) (HW.out trivial), HX.out.trans (ExtOf.ext _)⟩
end
end Go.Proofs.YtphpppjfogpohaaGreat
namespace Go.Proofs.YtphpppjfogpohaaGreat
open Go.RowKit Go.Shelf
def bigB (w t f s : Nat) : Bool := decide (400 < w ∨ 60 < t ∨ 60 < f ∨ 100 < s)
section
variable {c0 c1 c2 c3 : Int} {sn : Bool} {wA : Option Addr} {ws : List Int} {wc : Nat} {top : Int} {tA : Option Addr} {tb : List (Int × Int)} {tc : Nat} {fA : Option Addr} {fr : List (Int × Int)} {fc : Nat} {sA : Option Addr} {sl : List (Bool × Int × Int)} {sc : Nat}
variable {V : World}
set_option maxRecDepth 100000
set_option maxHeartbeats 4000000
theorem large15_any (V : World) (hw : ws.length ≤ 9223372036854775807) (ht : tb.length ≤ 9223372036854775807) (hf : fr.length ≤ 9223372036854775807) (hs : sl.length ≤ 9223372036854775807) :
  Calls Tryz.prog 22 #[.agg #[.int .i64 c0, .int .i64 c1, .int .i64 c2, .int .i64 c3, .bool sn, .slice wA ws.length wc, .int .i64 top, .slice tA tb.length tc, .slice fA fr.length fc, .slice sA sl.length sc]] V fun e w' => e = .returned (.bool (bigB ws.length tb.length fr.length sl.length)) ∧ Ext V w' := by
 generalize ws.length = n1 at *
 generalize tb.length = n2 at *
 generalize fr.length = n3 at *
 generalize sl.length = n4 at *
 by_cases h1 : 400 < n1
 ·have d1 : decide ((400 : Int) < (n1 : Int)) = true := by simp; omega
  have HR : Hid (bigB n1 n2 n3 n4 = true) := zH (by simp [bigB]; omega)
  clear h1
  go_enter Tryz.func22, Tryz.ntmps22
  go_wp2_with fail
  go_ret
  exact ⟨ret_bool HR.out.symm, (Ext.refl V).alloc _⟩
 have d1 : decide ((400 : Int) < (n1 : Int)) = false := by simp; omega
 by_cases h2 : 60 < n2
 ·have d2 : decide ((60 : Int) < (n2 : Int)) = true := by simp; omega
  have HR : Hid (bigB n1 n2 n3 n4 = true) := zH (by simp [bigB]; omega)
  clear h1 h2
  go_enter Tryz.func22, Tryz.ntmps22
  go_wp2_with fail
  go_ret
  exact ⟨ret_bool HR.out.symm, (Ext.refl V).alloc _⟩
 have d2 : decide ((60 : Int) < (n2 : Int)) = false := by simp; omega
 by_cases h3 : 60 < n3
 ·have d3 : decide ((60 : Int) < (n3 : Int)) = true := by simp; omega
  have HR : Hid (bigB n1 n2 n3 n4 = true) := zH (by simp [bigB]; omega)
  clear h1 h2 h3
  go_enter Tryz.func22, Tryz.ntmps22
  go_wp2_with fail
  go_ret
  exact ⟨ret_bool HR.out.symm, (Ext.refl V).alloc _⟩
 have d3 : decide ((60 : Int) < (n3 : Int)) = false := by simp; omega
 by_cases h4 : 100 < n4
 ·have d4 : decide ((100 : Int) < (n4 : Int)) = true := by simp; omega
  have HR : Hid (bigB n1 n2 n3 n4 = true) := zH (by simp [bigB]; omega)
  clear h1 h2 h3 h4
  go_enter Tryz.func22, Tryz.ntmps22
  go_wp2_with fail
  go_ret
  exact ⟨ret_bool HR.out.symm, (Ext.refl V).alloc _⟩
 ·have d4 : decide ((100 : Int) < (n4 : Int)) = false := by simp; omega
  have HR : Hid (bigB n1 n2 n3 n4 = false) := zH (by simp [bigB]; omega)
  clear h1 h2 h3 h4
  go_enter Tryz.func22, Tryz.ntmps22
  go_wp2_with fail
  go_ret
  exact ⟨ret_bool HR.out.symm, (Ext.refl V).alloc _⟩
end
end Go.Proofs.YtphpppjfogpohaaGreat
namespace Go.Proofs.YtphpppjfogpohaaGreat
open Go.RowKit Go.Shelf
theorem led_new {c0 c1 c2 c3 : Int} (h : cfgB c0 c1 c2 c3 = true) : ledR (largeA c0 c1 c2 c3) (largeS c0 c1 c2 c3) [] (newFr c0 c1 c2 c3) = true := by
 obtain ⟨h1, h2, h3, h4, h5, h6, h7, h8⟩ := cfg_bd h
 have e2 : largeS c0 c1 c2 c3 = c1 := by simp [largeS, h]
 by_cases h0 : c1 = 0
 ·have e1 : largeA c0 c1 c2 c3 = 0 := by simp [largeA, h, h0]
  rw [newFr, e1, e2, if_pos h0, h0, ledR_of (led_nil _ _) (gaps_new0 (by simp [mayB]))]
  simp
 ·have e1 : largeA c0 c1 c2 c3 = 2 * c0 := by simp [largeA, h, h0]
  rw [newFr, e1, e2, if_neg h0, ledR_of (led_nil _ _) (gaps_new (by simp [mayB]; omega))]
  simp
theorem check_led {c0 c1 c2 c3 : Int} {sn : Bool} {ws : List Int} {top : Int} {tb fr : List (Int × Int)} {sl : List (Bool × Int × Int)} (h : ledR (largeA c0 c1 c2 c3) (largeS c0 c1 c2 c3) tb fr = true) : checkZ c0 c1 c2 c3 sn ws top tb fr sl = firstZ
 [cfgB c0 c1 c2 c3, decide ((ws.length : Int) = wordsZ c0 c1 c2 c3), topB c0 c1 c2 c3 sn top, decide (stopE (some ws) (halfA c0 c1 c2 c3 sn) (halfS c0 c1 c2 c3) top = 0), (smallsL c0 c1 c2 c3 sn ws top).all (smallO (some ws) c0 c1 c2 c3),
  tb.all (largeO (some ws) c0 c1 c2 c3), slotsB sl c2, (smallsL c0 c1 c2 c3 sn ws top ++ tb.map (·.1)).all (fieldsO (some ws) (startsB (smallsL c0 c1 c2 c3 sn ws top) tb)),
  sl.all (handleB (startsB (smallsL c0 c1 c2 c3 sn ws top) tb))] := by
 rw [checkZ, ruleL, h, Bool.true_and]
section
variable {ws : List Int} {p v : Int}
theorem at_set (i : Int) : atA (some (ws.set p.toNat v)) i = atA (some ws) i := by simp [atA]
theorem rd_set {i : Int} (hp : 0 ≤ p) (h : i ≠ p) : rdA (some (ws.set p.toNat v)) i = rdA (some ws) i := by
 unfold rdA
 rw [at_set]
 split
 ·rename_i h0
  have hi : 0 ≤ i := by
   simp only [atA] at h0
   split at h0
   ·cases h0
   ·omega
  simp only [Option.getD_some, List.getD_eq_getElem?_getD]
  rw [List.getElem?_set_ne (by omega)]
 ·rfl
theorem headE_set {i : Int} (hp : 0 ≤ p) (h : i ≠ p) : headE (some (ws.set p.toNat v)) i = headE (some ws) i := by
 have hl : lenA (some (ws.set p.toNat v)) = lenA (some ws) := by simp [lenA]
 unfold headE
 rw [at_set, rd_set hp h, hl]
theorem headH_set {i : Int} (hp : 0 ≤ p) (h : i ≠ p) : headH (some (ws.set p.toNat v)) i = headH (some ws) i := by
 unfold headH
 rw [headE_set hp h, rd_set hp h]
theorem wkE_set {top i : Int} (hp : 0 ≤ p) (h : i ≠ p) : wkE (some (ws.set p.toNat v)) top i = wkE (some ws) top i := by
 unfold wkE
 rw [headE_set hp h, headH_set hp h]
theorem fld_set {i k : Int} {raw : Bool} (hp : 0 ≤ p) (h0 : headE (some ws) i = 0) (h : ¬ (i ≤ p ∧ p < i + hsize (headH (some ws) i))) : fldZ (some (ws.set p.toNat v)) i k raw = fldZ (some ws) i k raw := by
 have hs := head_size h0
 have hi : i ≠ p := by omega
 have e1 : placeE (some (ws.set p.toNat v)) i k raw = placeE (some ws) i k raw := by unfold placeE; rw [headE_set hp hi, headH_set hp hi]
 have e2 : oplZ (some (ws.set p.toNat v)) i k raw = oplZ (some ws) i k raw := by unfold oplZ; rw [e1, headH_set hp hi]
 unfold fldZ
 rw [e1, e2]
 split
 ·rename_i h1
  obtain ⟨-, -, -, -, h2, h3⟩ := place_in h1
  exact rd_set hp (by omega)
 ·rfl
theorem stepsF_set {top : Int} (hp : 0 ≤ p) : ∀ (n : Nat) (i : Int) (d : Stp), ((stepsF (some ws) top n i).getLastD d).e = 0 → (∀ z ∈ placesL (stepsF (some ws) top n i), z ≠ p) → stepsF (some (ws.set p.toNat v)) top n i = stepsF (some ws) top n i := by
 intro n
 induction n with
 | zero => intros; rfl
 | succ n ih =>
  intro i d h1 h2
  simp only [stepsF] at h1 h2 ⊢
  by_cases h3 : i < top
  ·rw [if_pos h3] at h1 h2 ⊢
   rw [if_pos h3]
   by_cases h4 : wkE (some ws) top i = 0
   ·rw [if_pos h4] at h1 h2 ⊢
    have hi : i ≠ p := h2 i (by simp [placesL])
    rw [wkE_set hp hi, if_pos h4, headH_set hp hi]
    rw [List.getLastD_cons] at h1
    congr 1
    exact ih _ _ h1 (fun z hz => h2 z (by simp only [placesL] at hz ⊢; simp [hz]))
   ·rw [if_neg h4] at h1
    exact absurd h1 h4
  ·rw [if_neg h3, if_neg h3]
theorem stop_set {a s top : Int} (hp : 0 ≤ p) (h : stopE (some ws) a s top = 0) (hz : ∀ z ∈ listA (some ws) a s top, z ≠ p) : stopE (some (ws.set p.toNat v)) a s top = 0 ∧ listA (some (ws.set p.toNat v)) a s top = listA (some ws) a s top := by
 have hb : wkB a s top = true := by
  by_cases hb : wkB a s top = true
  ·exact hb
  ·rw [stopE, if_neg hb] at h; cases h
 have h1 := h
 rw [stopE, if_pos hb, lastS] at h1
 rw [listA, if_pos h] at hz
 have e : stepsA (some (ws.set p.toNat v)) top a = stepsA (some ws) top a := stepsF_set hp _ _ _ h1 hz
 have h2 : stopE (some (ws.set p.toNat v)) a s top = 0 := by rw [stopE, if_pos hb, lastS, e]; exact h1
 exact ⟨h2, by rw [listA, listA, if_pos h, if_pos h2, e]⟩
end
theorem first_all {rs : List Bool} (h : firstZ rs = 0) : ∀ b ∈ rs, b = true := by
 unfold firstZ at h
 split at h
 ·rename_i i _; omega
 ·rename_i h1
  rw [List.findIdx?_eq_none_iff] at h1
  intro b hb
  simpa using h1 b hb
structure AllOk (c0 c1 c2 c3 : Int) (sn : Bool) (ws : List Int) (top : Int) (tb fr : List (Int × Int)) (sl : List (Bool × Int × Int)) : Prop where
 cfg : cfgB c0 c1 c2 c3 = true
 len : decide ((ws.length : Int) = wordsZ c0 c1 c2 c3) = true
 tp : topB c0 c1 c2 c3 sn top = true
 stop : stopE (some ws) (halfA c0 c1 c2 c3 sn) (halfS c0 c1 c2 c3) top = 0
 small : (smallsL c0 c1 c2 c3 sn ws top).all (smallO (some ws) c0 c1 c2 c3) = true
 led : ledR (largeA c0 c1 c2 c3) (largeS c0 c1 c2 c3) tb fr = true
 large : tb.all (largeO (some ws) c0 c1 c2 c3) = true
 slots : slotsB sl c2 = true
 field : (smallsL c0 c1 c2 c3 sn ws top ++ tb.map (·.1)).all (fieldsO (some ws) (startsB (smallsL c0 c1 c2 c3 sn ws top) tb)) = true
 handle : sl.all (handleB (startsB (smallsL c0 c1 c2 c3 sn ws top) tb)) = true
section
variable {c0 c1 c2 c3 : Int} {sn : Bool} {ws : List Int} {top : Int} {tb fr : List (Int × Int)} {sl : List (Bool × Int × Int)}
theorem check_ok (h : checkZ c0 c1 c2 c3 sn ws top tb fr sl = 0) : AllOk c0 c1 c2 c3 sn ws top tb fr sl := by
 have H := first_all h
 simp only [ruleL, List.mem_cons, List.not_mem_nil, or_false, forall_eq_or_imp, forall_eq] at H
 obtain ⟨h1, h2, h3, h4, h5, h6, h7, h8, h9⟩ := H
 rw [Bool.and_eq_true] at h6
 exact ⟨h1, h2, h3, of_decide_eq_true h4, h5, h6.1, h6.2, h7, h8, h9⟩
theorem ok_check (h : AllOk c0 c1 c2 c3 sn ws top tb fr sl) : checkZ c0 c1 c2 c3 sn ws top tb fr sl = 0 := by
 rw [check_led h.led, h.cfg, h.len, h.tp, h.stop, h.small, h.large, h.slots, h.field, h.handle]
 rfl
theorem AllOk.head (h : AllOk c0 c1 c2 c3 sn ws top tb fr sl) {z : Int} (hz : z ∈ smallsL c0 c1 c2 c3 sn ws top ++ tb.map (·.1)) : headE (some ws) z = 0 := by
 rcases List.mem_append.1 hz with hz | hz
 ·obtain ⟨hc, -⟩ := list_chain h.stop
  obtain ⟨k, hk, rfl⟩ := List.getElem_of_mem hz
  have := (chain_at hc k hk).1
  have e : (smallsL c0 c1 c2 c3 sn ws top).getD k 0 = (smallsL c0 c1 c2 c3 sn ws top)[k] := by simp [hk]
  rw [← e]
  exact this
 ·obtain ⟨x, hx, rfl⟩ := List.mem_map.1 hz
  have := List.all_eq_true.1 h.large x hx
  simp only [largeO, Bool.and_eq_true, decide_eq_true_eq] at this
  exact this.1.1.1
theorem check_idle {p v : Int} (h : checkZ c0 c1 c2 c3 sn ws top tb fr sl = 0) (hp : 0 ≤ p) (ho : ∀ z ∈ smallsL c0 c1 c2 c3 sn ws top ++ tb.map (·.1), ¬ (z ≤ p ∧ p < z + 1 + (headH (some ws) z).f + (headH (some ws) z).r)) :
  checkZ c0 c1 c2 c3 sn (ws.set p.toNat v) top tb fr sl = 0 := by
 have H := check_ok h
 have ho2 : ∀ z ∈ smallsL c0 c1 c2 c3 sn ws top ++ tb.map (·.1), headE (some ws) z = 0 ∧ z ≠ p ∧ ¬ (z ≤ p ∧ p < z + hsize (headH (some ws) z)) := fun z hz => by
  have h0 := H.head hz
  have h1 := ho z hz
  obtain ⟨h2, h3, -, h4, -⟩ := head_sum h0
  exact ⟨h0, by omega, by omega⟩
 have hs : ∀ z ∈ smallsL c0 c1 c2 c3 sn ws top, z ≠ p := fun z hz => (ho2 z (List.mem_append_left _ hz)).2.1
 obtain ⟨e1, e2⟩ := stop_set (v := v) hp H.stop hs
 have e3 : smallsL c0 c1 c2 c3 sn (ws.set p.toNat v) top = smallsL c0 c1 c2 c3 sn ws top := e2
 refine ok_check ⟨H.cfg, by simpa using H.len, H.tp, e1, ?_, H.led, ?_, H.slots, ?_, ?_⟩
 ·rw [e3]
  refine List.all_eq_true.2 fun z hz => ?_
  have := List.all_eq_true.1 H.small z hz
  rw [smallO, headH_set hp (hs z hz)]
  exact this
 ·refine List.all_eq_true.2 fun x hx => ?_
  have := List.all_eq_true.1 H.large x hx
  have hne := (ho2 x.1 (List.mem_append_right _ (List.mem_map_of_mem hx))).2.1
  rw [largeO, headE_set hp hne, headH_set hp hne]
  exact this
 ·rw [e3]
  refine List.all_eq_true.2 fun z hz => ?_
  have := List.all_eq_true.1 H.field z hz
  obtain ⟨h0, hne, hout⟩ := ho2 z hz
  rw [fieldsO, headH_set hp hne]
  have e : (fun k : Nat => leadsB (startsB (smallsL c0 c1 c2 c3 sn ws top) tb) (fldZ (some (ws.set p.toNat v)) z k false)) = fun k : Nat => leadsB (startsB (smallsL c0 c1 c2 c3 sn ws top) tb) (fldZ (some ws) z k false) := by
   funext k
   rw [fld_set hp h0 hout]
  rw [e]
  exact this
 ·rw [e3]; exact H.handle
end
section
variable {c0 c1 c2 c3 : Int} {sn : Bool} {wA : Option Addr} {ws : List Int} {wc : Nat} {top : Int} {tA : Option Addr} {tb : List (Int × Int)} {tc : Nat} {fA : Option Addr} {fr : List (Int × Int)} {fc : Nat} {sA : Option Addr} {sl : List (Bool × Int × Int)} {sc : Nat}
set_option maxRecDepth 100000
set_option maxHeartbeats 1000000
theorem sthead_any (V : World) (i : Int) (HW : Pers V (fun w => WordsAt w wA ws)) (hwl : ws.length ≤ 98304) (hwb : ∀ z ∈ ws, 0 ≤ z ∧ z < 18446744073709551616) (hi : -9223372036854775808 ≤ i ∧ i ≤ 9223372036854775807) :
  Calls Tryz.prog 60 #[.agg #[.int .i64 c0, .int .i64 c1, .int .i64 c2, .int .i64 c3, .bool sn, .slice wA ws.length wc, .int .i64 top, .slice tA tb.length tc, .slice fA fr.length fc, .slice sA sl.length sc], .int .i64 i] V fun e w' => e = .returned (.tuple #[.agg #[.int .i64 (headH (some ws) i).k, .int .i64 (headH (some ws) i).f, .int .i64 (headH (some ws) i).r, .bool (headH (some ws) i).m, .int .i64 (headH (some ws) i).c], .int .i64 (headE (some ws) i)]) ∧ Ext V w' := by
 have hS := pers_new2 V #[.int .i64 c0, .int .i64 c1, .int .i64 c2, .int .i64 c3, .bool sn, .slice wA ws.length wc, .int .i64 top, .slice tA tb.length tc, .slice fA fr.length fc, .slice sA sl.length sc] 34 _ rfl (.cells #[.int .i64 0, .int .i64 0, .int .i64 0, .bool false, .int .i64 0] 85)
 have hR := pers_new (V.alloc (.cells #[.int .i64 c0, .int .i64 c1, .int .i64 c2, .int .i64 c3, .bool sn, .slice wA ws.length wc, .int .i64 top, .slice tA tb.length tc, .slice fA fr.length fc, .slice sA sl.length sc] 34)) #[.int .i64 0, .int .i64 0, .int .i64 0, .bool false, .int .i64 0] 85 (V.heap.size + 1) (by simp)
 have hx := ((Ext.refl V).alloc (.cells #[.int .i64 c0, .int .i64 c1, .int .i64 c2, .int .i64 c3, .bool sn, .slice wA ws.length wc, .int .i64 top, .slice tA tb.length tc, .slice fA fr.length fc, .slice sA sl.length sc] 34)).alloc (.cells #[.int .i64 0, .int .i64 0, .int .i64 0, .bool false, .int .i64 0] 85)
 have HVR : Hid (V.heap.size ≤ V.heap.size + 1) := zH (by omega)
 have hwb' := hwb
 replace HW := HW.re hx
 have HX := zH hx
 clear hx hwb
 by_cases h0 : i < 0
 ·have d0 : decide (i < 0) = true := by simpa using h0
  have HR : Hid (headE (some ws) i = 2) := zH (by simp [headE, atA, h0])
  have HH := zH (headH_bad HR.out (by decide))
  clear h0
  go_enter Tryz.func60, Tryz.ntmps60
  go_wp2_with fail
  generalize (V.alloc (.cells #[.int .i64 c0, .int .i64 c1, .int .i64 c2, .int .i64 c3, .bool sn, .slice wA ws.length wc, .int .i64 top, .slice tA tb.length tc, .slice fA fr.length fc, .slice sA sl.length sc] 34)).alloc (.cells #[.int .i64 0, .int .i64 0, .int .i64 0, .bool false, .int .i64 0] 85) = W at *
  generalize V.heap.size + 1 = R at *
  have hrr := hR.here
  have p0 : W.cell? ⟨R, 0, none⟩ = some (.int .i64 0) := by simp [World.cell?, hrr]
  have p1 : W.cell? ⟨R, 1, none⟩ = some (.int .i64 0) := by simp [World.cell?, hrr]
  have p2 : W.cell? ⟨R, 2, none⟩ = some (.int .i64 0) := by simp [World.cell?, hrr]
  have p3 : W.cell? ⟨R, 3, none⟩ = some (.bool false) := by simp [World.cell?, hrr]
  have p4 : W.cell? ⟨R, 4, none⟩ = some (.int .i64 0) := by simp [World.cell?, hrr]
  have p5 : ∀ o, W.frozen? ⟨R, o, none⟩ = false := fun o => frozen_of_row _ _ _ _ _ hrr
  ((try simp only [Exit.inBlock, Exit.then]); refine bodyPost_ret (v := .tuple #[.agg #[.int .i64 0, .int .i64 0, .int .i64 0, .bool false, .int .i64 0], .int .i64 2]) (by simp only [results, Tryz.results60]; go_simp) rfl ?_)
  exact ⟨by rw [HH.out, HR.out]; rfl, HX.out⟩
 have d0 : decide (i < 0) = false := by simpa using h0
 obtain ⟨k, rfl⟩ := Int.eq_ofNat_of_zero_le (Int.not_lt.1 h0)
 clear h0
 by_cases h1 : k < ws.length
 rotate_left
 ·have d1 : decide (ws.length ≤ k) = true := by simpa using h1
  have HR : Hid (headE (some ws) k = 2) := zH (by have : (ws.length : Int) ≤ (k : Int) := (by omega); simp [headE, atA, this])
  have HH := zH (headH_bad HR.out (by decide))
  clear h1
  go_enter Tryz.func60, Tryz.ntmps60
  go_wp2_with fail
  generalize (V.alloc (.cells #[.int .i64 c0, .int .i64 c1, .int .i64 c2, .int .i64 c3, .bool sn, .slice wA ws.length wc, .int .i64 top, .slice tA tb.length tc, .slice fA fr.length fc, .slice sA sl.length sc] 34)).alloc (.cells #[.int .i64 0, .int .i64 0, .int .i64 0, .bool false, .int .i64 0] 85) = W at *
  generalize V.heap.size + 1 = R at *
  have hrr := hR.here
  have p0 : W.cell? ⟨R, 0, none⟩ = some (.int .i64 0) := by simp [World.cell?, hrr]
  have p1 : W.cell? ⟨R, 1, none⟩ = some (.int .i64 0) := by simp [World.cell?, hrr]
  have p2 : W.cell? ⟨R, 2, none⟩ = some (.int .i64 0) := by simp [World.cell?, hrr]
  have p3 : W.cell? ⟨R, 3, none⟩ = some (.bool false) := by simp [World.cell?, hrr]
  have p4 : W.cell? ⟨R, 4, none⟩ = some (.int .i64 0) := by simp [World.cell?, hrr]
  have p5 : ∀ o, W.frozen? ⟨R, o, none⟩ = false := fun o => frozen_of_row _ _ _ _ _ hrr
  ((try simp only [Exit.inBlock, Exit.then]); refine bodyPost_ret (v := .tuple #[.agg #[.int .i64 0, .int .i64 0, .int .i64 0, .bool false, .int .i64 0], .int .i64 2]) (by simp only [results, Tryz.results60]; go_simp) rfl ?_)
  exact ⟨by rw [HH.out, HR.out]; rfl, HX.out⟩
 have d1 : decide (ws.length ≤ k) = false := by simpa using h1
 obtain ⟨lb, off, rfl, hc⟩ := HW.here.get (by omega)
 have cz := words_cell hc h1
 have hzb := hwb' _ (getD_mem (d := 0) h1)
 have HAT : Hid (atA (some ws) k = 0) := zH (by simp only [atA]; rw [if_neg (by omega)])
 have HRD : Hid (rdA (some ws) k = ws.getD k 0) := zH (by rw [rdA, if_pos HAT.out]; simp)
 have hsub : wrap64 ((ws.length : Int) - (k : Int)) = (ws.length : Int) - (k : Int) := IntWalk.wrap64_in _ ⟨by omega, by omega⟩
 have ib1 : (k : Int) < (ws.length : Int) := by omega
 clear hc h1
 generalize ws.getD k 0 = z at *
 obtain ⟨b, hb⟩ : ∃ b, hdecB z.toNat = b := ⟨_, rfl⟩
 have HB := zH hb
 clear hb
 go_enter Tryz.func60, Tryz.ntmps60
 go_wp2_with fail
 generalize (V.alloc (.cells #[.int .i64 c0, .int .i64 c1, .int .i64 c2, .int .i64 c3, .bool sn, .slice (some ⟨lb, off, none⟩) ws.length wc, .int .i64 top, .slice tA tb.length tc, .slice fA fr.length fc, .slice sA sl.length sc] 34)).alloc (.cells #[.int .i64 0, .int .i64 0, .int .i64 0, .bool false, .int .i64 0] 85) = W at *
 generalize V.heap.size + 1 = R at *
 have gS := hS.cells
 have gR := hR.cells
 have fR := hR.frees
 have lR := hR.lt
 clear cz
 cases b
 ·have HR : Hid (headE (some ws) k = 3) := zH (by rw [headE, HAT.out, if_pos rfl, HRD.out, HB.out]; rfl)
  have HH := zH (headH_bad HR.out (by decide))
  ((first | refine at_baseC (W := W) ?_ | refine at_base (W := W) ?_); intro uq; (try go_wp2_with fail))
  (refine (hdec_is z hd0 3 hzb (by rw [hdecH, HB.out]; rfl) (by rw [hdecE, HB.out]; rfl) _).mono ?_; rintro e wq ⟨rfl, hx⟩; replace hx := Ext.trans (a := W) zE hx; obtain ⟨uq, rfl⟩ : ∃ u : ExtOf W, wq = u.1 := ⟨⟨wq, hx⟩, rfl⟩; clear hx; go_wp2_with fail)
  ((try simp only [Exit.inBlock, Exit.then]); refine bodyPost_ret (v := .tuple #[.agg #[.int .i64 0, .int .i64 0, .int .i64 0, .bool false, .int .i64 0], .int .i64 3]) (by simp only [results, Tryz.results60]; go_simp) rfl ?_)
  exact ⟨by rw [HH.out, HR.out]; rfl, (ext5x (HX.out.trans uq.2) HVR.out _ _ _ _ _).alloc _⟩
 ·have HHE : Hid (headE (some ws) k = if (ws.length : Int) - k < hsize (decH z.toNat) then 2 else 0) := zH (by rw [headE, HAT.out, if_pos rfl, HRD.out, HB.out, if_pos rfl]; rfl)
  have HHH : Hid (headE (some ws) k = 0 → headH (some ws) k = decH z.toNat) := zH (fun h => by rw [headH, if_pos h, HRD.out])
  have HD1 : Hid (hdecH z.toNat = decH z.toNat) := zH (by rw [hdecH, HB.out]; rfl)
  have HD2 : Hid (hdecE z.toNat = 0) := zH (by rw [hdecE, HB.out]; rfl)
  generalize decH z.toNat = h at *
  obtain ⟨n, hn⟩ : ∃ n, hsize h = n := ⟨_, rfl⟩
  have HN := zH hn
  clear hn gS gR fR lR
  ((first | refine at_baseC (W := W) ?_ | refine at_base (W := W) ?_); intro uq; (try go_wp2_with fail))
  (refine (hdec_is z h 0 hzb HD1.out HD2.out _).mono ?_; rintro e w2 ⟨rfl, hx⟩; replace hx := Ext.trans (a := W) zE hx)
  have HBH := pers_new w2 #[.int .i64 h.k, .int .i64 h.f, .int .i64 h.r, .bool h.m, .int .i64 h.c] 85 _ rfl
  replace hx := hx.alloc (.cells #[.int .i64 h.k, .int .i64 h.f, .int .i64 h.r, .bool h.m, .int .i64 h.c] 85)
  replace hS := hS.re hx
  replace hR := hR.re hx
  replace HX := zH (HX.out.trans hx)
  clear hx
  go_wp2_with fail
  generalize w2.alloc (.cells #[.int .i64 h.k, .int .i64 h.f, .int .i64 h.r, .bool h.m, .int .i64 h.c] 85) = W3 at *
  generalize w2.heap.size = X at *
  have gS := hS.cells
  have gR := hR.cells
  have fR := hR.frees
  have lR := hR.lt
  have g1 := HBH.cells
  have hx3 := Ext.refl W3
  by_cases hc : (ws.length : Int) - (k : Int) < n
  ·have hd : decide ((ws.length : Int) - (k : Int) < n) = true := by simpa using hc
   have HR : Hid (headE (some ws) k = 2) := zH (by rw [HHE.out, HN.out, if_pos hc])
   have HH := zH (headH_bad HR.out (by decide))
   clear hc
   (refine wp_region_ext (W := W3) (by kernel_rfl) (by kernel_rfl) (by with_reducible assumption) ?_; (repeat (go_big_quiet_step (first | (go_at_call 104; with_reducible exact Calls.ext_of (hsize_is h n HN.out _))))); refine wpQuiet_nil ?_; intro w1 hx)
   (obtain ⟨uq, rfl⟩ : ∃ u : ExtOf W3, w1 = u.1 := ⟨⟨w1, hx⟩, rfl⟩; clear hx; go_wp2_with fail)
   ((try simp only [Exit.inBlock, Exit.then]); refine bodyPost_ret (v := .tuple #[.agg #[.int .i64 0, .int .i64 0, .int .i64 0, .bool false, .int .i64 0], .int .i64 2]) (by simp only [results, Tryz.results60]; go_simp) rfl ?_)
   exact ⟨by rw [HH.out, HR.out]; rfl, ext5x (HX.out.trans (ExtOf.ext _)) HVR.out _ _ _ _ _⟩
  ·have hd : decide ((ws.length : Int) - (k : Int) < n) = false := by simpa using hc
   have HR : Hid (headE (some ws) k = 0) := zH (by rw [HHE.out, HN.out, if_neg hc])
   have HH := zH (HHH.out HR.out)
   clear hc
   (refine wp_region_ext (W := W3) (by kernel_rfl) (by kernel_rfl) (by with_reducible assumption) ?_; (repeat (go_big_quiet_step (first | (go_at_call 104; with_reducible exact Calls.ext_of (hsize_is h n HN.out _))))); refine wpQuiet_nil ?_; intro w1 hx)
   (obtain ⟨uq, rfl⟩ : ∃ u : ExtOf W3, w1 = u.1 := ⟨⟨w1, hx⟩, rfl⟩; clear hx; go_wp2_with fail)
   ((try simp only [Exit.inBlock, Exit.then]); refine bodyPost_ret (v := .tuple #[.agg #[.int .i64 h.k, .int .i64 h.f, .int .i64 h.r, .bool h.m, .int .i64 h.c], .int .i64 0]) (by simp only [results, Tryz.results60]; go_simp) rfl ?_)
   exact ⟨by rw [HH.out, HR.out], ext5x (HX.out.trans (ExtOf.ext _)) HVR.out _ _ _ _ _⟩
end
end Go.Proofs.YtphpppjfogpohaaGreat
namespace Go.Proofs.YtphpppjfogpohaaGreat
open Go.RowKit Go.Shelf
theorem flat_setAt {α : Type} {n : Nat} {f : α → List Value} (hf : Cells n f) (y : α) (j : Nat) (hj : j < n) (u : Value) : ∀ (xs : List α) (k : Nat) (hk : k < xs.length), f y = (f xs[k]).set j u → (xs.set k y).flatMap f = (xs.flatMap f).set (k * n + j) u := by
 intro xs
 induction xs with
 | nil => intro k hk; simp at hk
 | cons x xs ih =>
  intro k hk h
  have hl : (f x).length = n := hf.1 x
  cases k with
  | zero =>
   simp only [List.set_cons_zero, List.flatMap_cons, Nat.zero_mul, Nat.zero_add]
   rw [List.set_append_left _ _ (by omega)]
   simp only [List.getElem_cons_zero] at h
   rw [h]
  | succ k =>
   simp only [List.set_cons_succ, List.flatMap_cons]
   have e : (k + 1) * n + j = n + (k * n + j) := by rw [Nat.succ_mul]; omega
   rw [List.set_append_right _ _ (by rw [hl, e]; omega), hl, e, Nat.add_sub_cancel_left]
   congr 1
   exact ih k (by simpa using hk) (by simpa using h)
theorem own_setAt {α : Type} {e : TypeId} {n : Nat} {f : α → List Value} {w : World} {B g N cap : Nat} {xs : List α} (hf : Cells n f) (h : Own e n f w B (.slice (some ⟨g, 0, none⟩) N cap) xs) (hn : xs.length = N) (k j : Nat) (hk : k < xs.length) (hj : j < n) (y : α) (u : Value) (hy : f y = (f xs[k]).set j u) :
  Own e n f (w.setCell ⟨g, k * n + j, none⟩ u) B (.slice (some ⟨g, 0, none⟩) N cap) (xs.set k y) := by
 unfold Own at h ⊢
 rw [List.length_set, flat_setAt hf y j hj u xs k hk hy, hn]
 rw [hn] at h
 exact (World.ownsRow.stored h (k * n + j) u).1
structure StB (s : StD) : Prop where
 wb : ∀ z ∈ s.ws, 0 ≤ z ∧ z < 18446744073709551616
 tbb : ∀ x ∈ s.tb, (-9223372036854775808 ≤ x.1 ∧ x.1 ≤ 9223372036854775807)
 sb : ∀ x ∈ s.sl, 0 ≤ x.2.2 ∧ x.2.2 < 18446744073709551616
theorem stcheck_s (s : StD) (k : Int) (hk : checkZ s.c0 s.c1 s.c2 s.c3 s.snd s.ws s.top s.tb s.fr s.sl = k) (V : World) (h : StAt V s) (hl : StLe s) (hb : StB s) : Calls Tryz.prog 19 #[.agg #[.int .i64 s.c0, .int .i64 s.c1, .int .i64 s.c2, .int .i64 s.c3, .bool s.snd, .slice s.wA s.ws.length s.wc, .int .i64 s.top, .slice s.tA s.tb.length s.tc, .slice s.fA s.fr.length s.fc, .slice s.sA s.sl.length s.sc]] V fun e w' => e = .returned (.int .i64 k) ∧ Ext V w' := by
 subst hk
 exact stcheck_any V (pers_row h.w) (pers_row h.t) (pers_row h.f) (pers_row h.s) hl.w hl.t hl.f hl.s hb.wb hb.tbb hb.sb
end Go.Proofs.YtphpppjfogpohaaGreat
namespace Go.Proofs.YtphpppjfogpohaaGreat
open Go.RowKit Go.Shelf
set_option maxRecDepth 100000
set_option maxHeartbeats 1000000
end Go.Proofs.YtphpppjfogpohaaGreat
namespace Go.Proofs.YtphpppjfogpohaaGreat
open Go.RowKit Go.Shelf
section
variable {α : Type} {e : TypeId} {n : Nat} {f : α → List Value} {w : World} {B g N cap : Nat} {xs : List α}
theorem own_cellAt (hf : Cells n f) (h0 : 0 < n) (h : Own e n f w B (.slice (some ⟨g, 0, none⟩) N cap) xs) (hn : xs.length = N) (k j : Nat) (hk : k < xs.length) (v : Value) (hv : (f xs[k])[j]? = some v) : w.cell? ⟨g, k * n + j, none⟩ = some v := by
 subst hn
 have hr := (own_row h hf h0).1
 obtain ⟨b, off, e1, hc⟩ := RowAt.get hr (by omega)
 injection e1 with e1
 injection e1 with e1 e2 _
 subst e1 e2
 have := hc k xs[k] (by simp [hk]) j v hv
 simpa using this
theorem own_frozen (h : Own e n f w B (.slice (some ⟨g, 0, none⟩) N cap) xs) (i : Nat) : w.frozen? ⟨g, i, none⟩ = false := by
 obtain ⟨cur, hc⟩ := own_heap h
 exact (cells_of hc).2 i
end
section
variable {B g : Nat} {w : World} {s : StD}
theorem StOwn.setW (h : StOwn B w s) (hA : s.wA = some ⟨g, 0, none⟩) (k : Nat) (z : Int) : StOwn B (w.setCell ⟨g, k, none⟩ (.int .u64 z)) { s with ws := s.ws.set k z } := by
 have hw := h.w
 rw [hA] at hw
 obtain ⟨cur, hc⟩ := own_heap hw
 refine ⟨?_, h.t.setOther hc (by decide), h.f.setOther hc (by decide), h.s.setOther hc (by decide)⟩
 simp only [List.length_set, hA]
 exact own_setU hw rfl k z
theorem StOwn.setS (h : StOwn B w s) (hA : s.sA = some ⟨g, 0, none⟩) (k j : Nat) (hk : k < s.sl.length) (hj : j < 3) (y : Bool × Int × Int) (u : Value) (hy : slotC y = (slotC s.sl[k]).set j u) : StOwn B (w.setCell ⟨g, k * 3 + j, none⟩ u) { s with sl := s.sl.set k y } := by
 have hs := h.s
 rw [hA] at hs
 obtain ⟨cur, hc⟩ := own_heap hs
 refine ⟨h.w.setOther hc (by decide), h.t.setOther hc (by decide), h.f.setOther hc (by decide), ?_⟩
 simp only [List.length_set, hA]
 exact own_setAt slotCells hs rfl k j hk hj y u hy
end
end Go.Proofs.YtphpppjfogpohaaGreat
namespace Go.Proofs.YtphpppjfogpohaaGreat
open Go.RowKit Go.Shelf
set_option maxRecDepth 100000
set_option maxHeartbeats 1000000
end Go.Proofs.YtphpppjfogpohaaGreat
