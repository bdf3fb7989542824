/- Merged by program (merge.py) out of: LfP, LfA, LfB, LrP. -/
import Derived.Test.YtphpppjfogpohaaGreatMl30
import Derived.Test.YtphpppjfogpohaaGreatMl37
import Derived.Test.YtphpppjfogpohaaGreatMl41
import Derived.Test.YtphpppjfogpohaaGreatMl35
import Derived.Test.YtphpppjfogpohaaGreatMl2
import Derived.Test.YtphpppjfogpohaaGreatMl4
import Derived.Test.YtphpppjfogpohaaGreatMl7
set_option linter.unusedSimpArgs false
set_option linter.unusedVariables false
namespace Go.Proofs.YtphpppjfogpohaaGreat
open Go.RowKit Go.Shelf
def objsL (s : StD) : List Int := smallsL s.c0 s.c1 s.c2 s.c3 s.snd s.ws s.top ++ s.tb.map (·.1)
noncomputable def chkS (s : StD) : Int := checkZ s.c0 s.c1 s.c2 s.c3 s.snd s.ws s.top s.tb s.fr s.sl
def turnZ (os : List Int) (w : Int) : Int × Int := if decT w = 2 then (2, if placeZ os (decX w) < 0 then decX w else placeZ os (decX w)) else (decT w, decX w)
def wdZ (ws : List Int) (i : Int) : Int := ws.getD i.toNat 0
def nodeL (ws os : List Int) (at_ : Int) : NodV :=
 ((headH (some ws) at_).k, (List.range (headH (some ws) at_).f.toNat).map (fun (k : Nat) => turnZ os (wdZ ws (at_ + 1 + k))), (List.range (headH (some ws) at_).r.toNat).map fun (k : Nat) => wdZ ws (at_ + 1 + (headH (some ws) at_).f + k))
def usedL (sl : List (Bool × Int × Int)) : List Int := (sl.filter fun x => x.1).map fun x => x.2.2
noncomputable def liftV (s : StD) : List NodV := if chkS s = 0 then (objsL s).map (nodeL s.ws (objsL s)) else []
noncomputable def liftQ (s : StD) : List (Int × Int) := if chkS s = 0 then (usedL s.sl).map (turnZ (objsL s)) else []
noncomputable def liftE (s : StD) : Int := if chkS s = 0 then 0 else 4
noncomputable def liftO (s : StD) : List Int := if chkS s = 0 then objsL s else []
structure LfOk (s : StD) : Prop where
 ok : AllOk s.c0 s.c1 s.c2 s.c3 s.snd s.ws s.top s.tb s.fr s.sl
 nd : (objsL s).Nodup
 head : ∀ z ∈ objsL s, headE (some s.ws) z = 0
 at_ : ∀ z ∈ objsL s, 0 ≤ z ∧ z + 1 + (headH (some s.ws) z).f + (headH (some s.ws) z).r ≤ s.ws.length
 bd : ∀ z ∈ objsL s, (0 ≤ (headH (some s.ws) z).k ∧ (headH (some s.ws) z).k ≤ 31) ∧ (0 ≤ (headH (some s.ws) z).f ∧ (headH (some s.ws) z).f ≤ 4096) ∧ (0 ≤ (headH (some s.ws) z).r ∧ (headH (some s.ws) z).r ≤ 4096)
 fld : ∀ z ∈ objsL s, ∀ k : Nat, (k : Int) < (headH (some s.ws) z).f → decE (wdZ s.ws (z + 1 + k)) = 0 ∧ (decT (wdZ s.ws (z + 1 + k)) = 2 → decX (wdZ s.ws (z + 1 + k)) ∈ objsL s)
 slt : ∀ w ∈ usedL s.sl, decE w = 0 ∧ (decT w = 2 → decX w ∈ objsL s)
theorem head_at {ws : List Int} {z : Int} (h : headE (some ws) z = 0) : 0 ≤ z ∧ z + hsize (headH (some ws) z) ≤ ws.length ∧ hmayB (headH (some ws) z) = true := by
 have h2 := h
 rw [headH, if_pos h]
 unfold headE at h2
 split at h2
 ·rename_i h0
  split at h2
  ·rename_i h1
   split at h2
   ·cases h2
   ·rename_i h3
    have h4 : atA (some ws) z = 0 := h0
    simp only [atA] at h4
    split at h4
    ·cases h4
    ·rename_i h5
     have h6 : lenA (some ws) = ws.length := rfl
     have h7 : hmayB (decH (rdA (some ws) z).toNat) = true := by
      unfold hdecB at h1
      rw [Bool.and_eq_true] at h1
      exact h1.2
     exact ⟨by omega, by omega, h7⟩
  ·cases h2
 ·rename_i h0
  exact absurd h2 h0
theorem chain_sorted {l : Option (List Int)} {top : Int} {i : Int} {zs : List Int} (h : Chain l top i zs) : zs.Pairwise (· < ·) ∧ ∀ z ∈ zs, i ≤ z ∧ z < top := by
 induction h with
 | nil => exact ⟨List.Pairwise.nil, by simp⟩
 | @cons i zs h1 h2 h3 h4 ih =>
  obtain ⟨a, b⟩ := ih
  have hs := (head_size h2).1
  refine ⟨List.pairwise_cons.2 ⟨fun z hz => by have := (b z hz).1; omega, a⟩, fun z hz => ?_⟩
  rcases List.mem_cons.1 hz with rfl | hz
  ·omega
  ·have := b z hz; omega
theorem led_parts {a n : Int} {xs fs : List (Int × Int)} (h : ledR a n xs fs = true) : (xs.map (·.1)).Pairwise (· < ·) ∧ ∀ x ∈ xs, a ≤ x.1 ∧ x.1 < a + n := by
 unfold ledR ledB at h
 rw [Bool.and_eq_true, Bool.and_eq_true] at h
 obtain ⟨⟨h1, h2⟩, -⟩ := h
 obtain ⟨h3, h4⟩ := chain_iff.1 h2
 refine ⟨?_, fun x hx => ?_⟩
 ·refine List.Pairwise.map _ (fun x y hxy => ?_) (List.Pairwise.and_mem.1 h4)
  obtain ⟨hx, hy, hle⟩ := hxy
  have := h3 x hx
  simp only [mayB, decide_eq_true_eq] at this
  omega
 ·have h5 := List.all_eq_true.1 h1 x hx
  simp only [withinB, mayB, Bool.and_eq_true, decide_eq_true_eq] at h5
  omega
theorem rd_get {ws : List Int} {i : Int} (h0 : 0 ≤ i) (h1 : i < ws.length) : rdA (some ws) i = wdZ ws i := by
 unfold rdA wdZ
 have : atA (some ws) i = 0 := by
  simp only [atA]
  rw [if_neg (by omega)]
 rw [if_pos this]
 rfl
theorem leads_iff {S : Int → Bool} {z : Int} (h : leadsB S z = true) : decE z = 0 ∧ (decT z = 2 → S (decX z) = true) := by
 simp only [leadsB, Bool.and_eq_true, decide_eq_true_eq, Bool.or_eq_true, Bool.not_eq_true', beq_eq_false_iff_ne] at h
 exact ⟨h.1, fun e => h.2.resolve_left fun hn => hn e⟩
theorem starts_iff {zs : List Int} {tb : List (Int × Int)} {x : Int} (h : startsB zs tb x = true) : x ∈ zs ++ tb.map (·.1) := by
 simp only [startsB, Bool.or_eq_true, decide_eq_true_eq] at h
 exact List.mem_append.2 h
theorem LfOk.of {s : StD} (h : chkS s = 0) : LfOk s := by
 have H := check_ok (show checkZ s.c0 s.c1 s.c2 s.c3 s.snd s.ws s.top s.tb s.fr s.sl = 0 from h)
 have hhd : ∀ z ∈ objsL s, headE (some s.ws) z = 0 := fun z hz => H.head hz
 have hat : ∀ z ∈ objsL s, 0 ≤ z ∧ z + 1 + (headH (some s.ws) z).f + (headH (some s.ws) z).r ≤ s.ws.length := fun z hz => by
  obtain ⟨a, b, -⟩ := head_at (hhd z hz)
  have := (head_sum (hhd z hz)).1
  omega
 refine ⟨H, ?_, hhd, hat, fun z hz => ?_, fun z hz k hk => ?_, fun w hw => ?_⟩
 ·obtain ⟨hc, -⟩ := list_chain H.stop
  obtain ⟨c1, c2⟩ := chain_sorted hc
  obtain ⟨l1, l2⟩ := led_parts H.led
  have ht := H.tp
  simp only [topB, decide_eq_true_eq] at ht
  unfold objsL
  rw [List.nodup_append]
  refine ⟨c1.imp fun hab => by omega, l1.imp fun hab => by omega, fun a ha b hb e => ?_⟩
  subst e
  have h1 := c2 a ha
  obtain ⟨x, hx, e2⟩ := List.mem_map.1 hb
  have h2 := l2 x hx
  have hcf := H.cfg
  have hcf2 := hcf
  simp only [cfgB, decide_eq_true_eq] at hcf2
  simp only [halfA, halfS, largeA, largeS, hcf, if_true] at h1 h2 ht
  split at h2 <;> split at ht <;> omega
 ·obtain ⟨-, -, hm⟩ := head_at (hhd z hz)
  simp only [hmayB, decide_eq_true_eq] at hm
  omega
 ·have hf := List.all_eq_true.1 H.field z hz
  rw [fieldsO, List.all_eq_true] at hf
  have hz2 := hat z hz
  obtain ⟨-, hf0, -, hr0, -⟩ := head_sum (hhd z hz)
  have h1 := hf k (List.mem_range.2 (by omega))
  have hpe : placeE (some s.ws) z k false = 0 := by
   rw [placeE, if_pos (hhd z hz), if_pos ⟨by omega, by simpa [placeN] using hk⟩]
  have hpz : oplZ (some s.ws) z k false = z + 1 + k := by
   rw [oplZ, if_pos hpe]
   simp [placeO]
  have hfz : fldZ (some s.ws) z k false = wdZ s.ws (z + 1 + k) := by
   rw [fldZ, if_pos hpe, hpz, rd_get (by omega) (by omega)]
  rw [hfz] at h1
  obtain ⟨a, b⟩ := leads_iff h1
  exact ⟨a, fun e => starts_iff (b e)⟩
 ·unfold usedL at hw
  obtain ⟨x, hx, rfl⟩ := List.mem_map.1 hw
  obtain ⟨hx1, hx2⟩ := List.mem_filter.1 hx
  have h1 := List.all_eq_true.1 H.handle x hx1
  simp only [handleB, hx2, Bool.not_true, Bool.false_or] at h1
  obtain ⟨a, b⟩ := leads_iff h1
  exact ⟨a, fun e => starts_iff (b e)⟩
theorem objs_len {s : StD} (h : LfOk s) : (objsL s).length ≤ s.ws.length := by
 have := nodup_le s.ws.length ((objsL s).map Int.toNat) (by
  refine List.Pairwise.map _ (fun a b hab => ?_) (List.Pairwise.and_mem.1 h.nd)
  obtain ⟨ha, hb, hne⟩ := hab
  have := (h.at_ a ha).1
  have := (h.at_ b hb).1
  omega) (fun i hi => by
  obtain ⟨z, hz, rfl⟩ := List.mem_map.1 hi
  have h1 := h.at_ z hz
  have h2 := h.bd z hz
  omega)
 simpa using this
theorem turn_ok {os : List Int} {w : Int} (hl : os.length ≤ 1000000) (hw : 0 ≤ w ∧ w < 18446744073709551616) (h : decE w = 0) (h2 : decT w = 2 → decX w ∈ os) : okV os.length (turnZ os w) = true := by
 unfold turnZ
 by_cases e : decT w = 2
 ·rw [if_pos e]
  have hm := h2 e
  rcases place_cases os (decX w) with ⟨h3, h4⟩ | ⟨k, hk, h3, h4, h5⟩
  ·exact absurd rfl (h4 _ hm)
  ·rw [h3, if_neg (by omega), okV_ref (by simp [vmayB]; omega)]
   simp
   omega
 ·rw [if_neg e]
  refine okV_val ?_ e
  simp only [vmayB, decide_eq_true_eq]
  unfold decT at e ⊢
  unfold decE at h
  unfold decX
  split at h
  ·rename_i h3
   by_cases c1 : w % 4 = 1
   ·rw [if_pos c1, if_pos c1]
    split <;> omega
   ·rw [if_neg c1] at e ⊢
    rw [if_neg c1]
    by_cases c2 : w % 4 = 2 ∧ w / 4 ≤ 1099511627776
    ·rw [if_pos c2] at e
     exact absurd rfl e
    ·rw [if_neg c2, if_neg c2]
     omega
  ·cases h
theorem okV_bd {n : Nat} {v : Int × Int} (h : okV n v = true) : (-9223372036854775808 ≤ v.1 ∧ v.1 ≤ 9223372036854775807) ∧ (-9223372036854775808 ≤ v.2 ∧ v.2 ≤ 9223372036854775807) := by
 simp [okV, vmayB] at h
 omega
theorem lift_ok {s : StD} {H : GraphD} (h : chkS s = 0) (hws : s.ws.length ≤ 1000) (hsl : s.sl.length ≤ 1000) (hwb : ∀ z ∈ s.ws, 0 ≤ z ∧ z < 18446744073709551616) (hsb : ∀ x ∈ s.sl, 0 ≤ x.2.2 ∧ x.2.2 < 18446744073709551616)
  (h1 : H.ns.map nodeV = liftV s) (h2 : H.rs = liftQ s) (hs : Shp H) : GOk H ∧ rightG H = true := by
 have F := LfOk.of h
 rw [liftV, if_pos h] at h1
 rw [liftQ, if_pos h] at h2
 have hol := objs_len F
 have hl : H.ns.length = (objsL s).length := by have := congrArg List.length h1; simpa using this
 have hrl : H.rs.length ≤ 1000 := by
  rw [h2, List.length_map]
  unfold usedL
  rw [List.length_map]
  exact Nat.le_trans (List.length_filter_le _ _) hsl
 have hwd : ∀ i : Int, 0 ≤ i → i < s.ws.length → 0 ≤ wdZ s.ws i ∧ wdZ s.ws i < 18446744073709551616 := fun i a b => hwb _ (by
  unfold wdZ
  exact getD_mem (by omega))
 have hev : ∀ y ∈ H.ns, ∃ z ∈ objsL s, nodeV y = nodeL s.ws (objsL s) z := fun y hy => by
  have : nodeV y ∈ (objsL s).map (nodeL s.ws (objsL s)) := by rw [← h1]; exact List.mem_map.2 ⟨y, hy, rfl⟩
  obtain ⟨z, hz, e⟩ := List.mem_map.1 this
  exact ⟨z, hz, e.symm⟩
 have hpt : ∀ y ∈ H.ns, okN y = true ∧ (∀ v ∈ y.fields, okV H.ns.length v = true) ∧ ∀ v ∈ y.raws, 0 ≤ v ∧ v < 18446744073709551616 := fun y hy => by
  obtain ⟨z, hz, e⟩ := hev y hy
  have hb := F.bd z hz
  have ha := F.at_ z hz
  simp only [nodeV, nodeL, Prod.mk.injEq] at e
  obtain ⟨e1, e2, e3⟩ := e
  refine ⟨?_, fun v hv => ?_, fun v hv => ?_⟩
  ·simp only [okN, e1, e2, e3, List.length_map, List.length_range, decide_eq_true_eq]
   omega
  ·rw [e2] at hv
   obtain ⟨k, hk, rfl⟩ := List.mem_map.1 hv
   have hk2 := List.mem_range.1 hk
   obtain ⟨f1, f2⟩ := F.fld z hz k (by omega)
   rw [hl]
   exact turn_ok (by omega) (hwd _ (by omega) (by omega)) f1 f2
  ·rw [e3] at hv
   obtain ⟨k, hk, rfl⟩ := List.mem_map.1 hv
   have hk2 := List.mem_range.1 hk
   exact hwd _ (by omega) (by omega)
 have hrt : ∀ v ∈ H.rs, okV H.ns.length v = true := fun v hv => by
  rw [h2] at hv
  obtain ⟨w, hw, rfl⟩ := List.mem_map.1 hv
  obtain ⟨f1, f2⟩ := F.slt w hw
  rw [hl]
  refine turn_ok (by omega) ?_ f1 f2
  unfold usedL at hw
  obtain ⟨x, hx, rfl⟩ := List.mem_map.1 hw
  exact hsb x (List.mem_filter.1 hx).1
 refine ⟨⟨⟨by omega, by omega, hs.a, hs.b, hs.c, hs.d, fun y hy => ?_, fun v hv => okV_bd (hrt v hv)⟩, by omega, hrl⟩, ?_⟩
 ·obtain ⟨a, b, c⟩ := hpt y hy
  simp only [okN, decide_eq_true_eq] at a
  obtain ⟨p, q, u, v⟩ := hs.each y hy
  exact ⟨by omega, by omega, by omega, p, q, u, v, fun w hw => okV_bd (b w hw), c⟩
 ·simp only [rightG, Bool.and_eq_true, List.all_eq_true]
  exact ⟨fun y hy => ⟨(hpt y hy).1, (hpt y hy).2.1⟩, hrt⟩
end Go.Proofs.YtphpppjfogpohaaGreat
namespace Go.Proofs.YtphpppjfogpohaaGreat
open Go.RowKit Go.Shelf Go.Maps
set_option maxRecDepth 100000
set_option maxHeartbeats 2000000
theorem MapOf.look0 {w : World} {b n : Nat} {f : Int → Option Int} (h : MapOf w b n f) {x : Int} (hk : (Lit.int .i64 x).wf = true) : (Instr.lookup 100 (.map (some b)) (.int .i64 x) false).run Tryz.prog w = .ok (.int .i64 ((f x).getD 0)) w := by
 obtain ⟨D, h1, h2, h3⟩ := h
 obtain ⟨c, hrun, hat, hwc⟩ := h1.lookup_int intKeyed Tryz.underlying100 Tryz.underlying3 (zeroInt w) (key := .int .i64 x) (kl := keyI x) (keyOf_int_mk Tryz.underlying3 hk)
 rw [(h3 x).2] at hat
 injection hat with hat
 injection hat with _ hat
 rw [← hat] at hrun
 exact hrun
theorem decX_bd {w : Int} (h : 0 ≤ w ∧ w < 18446744073709551616) (h2 : decT w = 2) : 0 ≤ decX w ∧ decX w ≤ 1099511627776 := by
 unfold decT at h2
 unfold decX
 split at h2
 ·cases h2
 ·rename_i h3
  rw [if_neg h3]
  split at h2
  ·rename_i h4
   rw [if_pos h4]
   omega
  ·cases h2
theorem lt_of_cell {w : World} {b i : Nat} {v : Value} (h : w.cell? ⟨b, i, none⟩ = some v) : b < w.heap.size := by
 rcases Nat.lt_or_ge b w.heap.size with h1 | h1
 ·exact h1
 ·have h2 : w.heap[b]? = none := Array.getElem?_eq_none h1
  unfold World.cell? at h
  simp only at h
  rw [h2] at h
  cases h
theorem lturn_any (f : Int → Option Int) (n mb B : Nat) (w : Int) (W : World) (hw : 0 ≤ w ∧ w < 18446744073709551616) (hm : MapOf W mb n f) (hc : W.cell? ⟨B, 0, none⟩ = some (.map (some mb))) :
  Calls Tryz.prog 58 #[.int .u64 w, .pointer (some ⟨B, 0, none⟩)] W fun e w' => e = .returned (.agg #[.int .i64 (decT w), .int .i64 (if decT w = 2 then (f (decX w)).getD 0 else decX w)]) ∧ Ext W w' := by
 have HBX := zH (pers_new W #[.int .i64 0, .int .i64 0] 71 _ rfl)
 have hx0 := (Ext.refl W).alloc (.cells #[.int .i64 0, .int .i64 0] 71)
 have HX := zH hx0
 have HM := zH (hm.ext hx0)
 have HC := zH (hx0.cell hc)
 have HWS : Hid (W.heap.size ≤ W.heap.size) := zH (Nat.le_refl _)
 have HD := zH (fun V => dec_any w V hw.1 hw.2)
 clear hx0 hm hc
 by_cases h2 : decT w = 2
 ·have HBD := zH (decX_bd hw h2)
  rw [if_pos h2]
  replace HD := zH (by have h := HD.out; rw [h2] at h; exact h)
  rw [h2]
  generalize decX w = x at *
  generalize decE w = er at *
  have HWF : Hid ((Lit.int .i64 x).wf = true) := zH (by have := HBD.out; simp [Lit.wf, IntKind.min, IntKind.max, IntKind.signed, IntKind.bits]; omega)
  clear h2
  generalize hz : (f x).getD 0 = z at *
  have HZ := zH hz
  clear hz
  go_enter Tryz.func58, Tryz.ntmps58
  go_wp2_with fail
  refine (HD.out _).mono ?_
  rintro e w1 ⟨rfl, hx⟩
  replace HX := zH (HX.out.trans hx)
  replace HM := zH (HM.out.ext hx)
  replace HC := zH (hx.cell HC.out)
  replace HBX := zH (HBX.out.re hx)
  have hlt := lt_of_heap HBX.out.here
  have kR := (cells_of HBX.out.here).1
  have fR := (cells_of HBX.out.here).2
  have hy := (Ext.refl w1).alloc (.cells #[.int .i64 2, .int .i64 x] 71)
  have hlk := (HM.out.ext hy).look0 (x := x) HWF.out
  rw [HZ.out] at hlk
  have c0 := HC.out
  have c1 := hy.cell HC.out
  have hB := lt_of_cell c0
  clear hx hy
  go_wp2_with fail
  ((try simp only [Exit.inBlock, Exit.then]); refine bodyPost_ret (v := .agg #[.int .i64 2, .int .i64 z]) (by simp only [results, Tryz.results58]; go_simp) rfl ?_)
  exact ⟨rfl, ((HX.out.setCell HWS.out _).setCell HWS.out _).alloc _⟩
 ·have d2 : (decT w == 2) = false := by rw [beq_eq_false_iff_ne]; exact h2
  rw [if_neg h2]
  generalize decX w = x at *
  generalize decE w = er at *
  generalize decT w = t at *
  clear h2
  go_enter Tryz.func58, Tryz.ntmps58
  go_wp2_with fail
  refine (HD.out _).mono ?_
  rintro e w1 ⟨rfl, hx⟩
  replace HX := zH (HX.out.trans hx)
  replace HM := zH (HM.out.ext hx)
  replace HC := zH (hx.cell HC.out)
  replace HBX := zH (HBX.out.re hx)
  have hlt := lt_of_heap HBX.out.here
  have kR := (cells_of HBX.out.here).1
  have fR := (cells_of HBX.out.here).2
  have hy := (Ext.refl w1).alloc (.cells #[.int .i64 t, .int .i64 x] 71)
  have c0 := HC.out
  have c1 := hy.cell HC.out
  have hB := lt_of_cell c0
  clear hx hy
  go_wp2_with fail
  ((try simp only [Exit.inBlock, Exit.then]); refine bodyPost_ret (v := .agg #[.int .i64 t, .int .i64 x]) (by simp only [results, Tryz.results58]; go_simp) rfl ?_)
  exact ⟨rfl, ((HX.out.setCell HWS.out _).setCell HWS.out _).alloc _⟩
end Go.Proofs.YtphpppjfogpohaaGreat
namespace Go.Proofs.YtphpppjfogpohaaGreat
open Go.RowKit Go.Shelf
def RetLf (V : World) (vs : List NodV) (rs : List (Int × Int)) (os : List Int) (c : Int) (e : Ending) (w' : World) : Prop :=
 ∃ (H : GraphD) (A : Option Addr) (cap : Nat), e = .returned (.tuple #[.agg #[.slice H.nA H.ns.length H.ncap, .slice H.rA H.rs.length H.rcap], .slice A os.length cap, .int .i64 c]) ∧ GraphAt w' H ∧ H.ns.map nodeV = vs ∧ H.rs = rs ∧ Shp H ∧ IntsAt w' A os ∧ Ext V w'
structure LfI (W : World) (Bg : Nat) (u : Value) (v : Value) (cs : List NodeD) (wr : World) : Prop where
 g : wr.heap[Bg]? = some (.cells #[v, u] 27 (0, 0))
 own : Own 66 3 nodeC wr W.heap.size v cs
 each : ∀ c ∈ cs, OwnN wr W.heap.size c
 ext : Ext W wr
 lo : W.heap.size ≤ Bg
section
variable {W wk wr w' : World} {Bg : Nat} {u v : Value} {cs : List NodeD}
theorem LfI.grow (h : LfI W Bg u v cs wr) (hx : Ext wr w') : LfI W Bg u v cs w' :=
 ⟨(hx.block (lt_of_heap h.g)).trans h.g, h.own.ext hx, fun c hc => (h.each c hc).ext hx, h.ext.trans hx, h.lo⟩
theorem LfI.blk (h : LfI W Bg u v cs wr) (hg : wr.grownBy w' v.ownBlock) : w'.heap[Bg]? = some (.cells #[v, u] 27 (0, 0)) :=
 (hg.block Bg (lt_of_heap h.g) (h.own.ne_block h.g (by decide))).trans h.g
theorem LfI.app (h : LfI W Bg u v cs wr) {x : NodeD} (hx : OwnN wr W.heap.size x) {v' : Value} (hown : Own 66 3 nodeC w' W.heap.size v' (cs ++ [x])) (hg : wr.grownBy w' v.ownBlock) :
  LfI W Bg u v' (cs ++ [x]) (w'.setCell ⟨Bg, 0, none⟩ v') := by
 have hb : w'.heap[Bg]? = _ := (hg.block Bg (lt_of_heap h.g) (h.own.ne_block h.g (by decide))).trans h.g
 refine ⟨blk_set hb _, hown.setOther hb (by decide), fun c hc => ?_, (h.own.grown hg (Nat.le_refl _) h.ext).setCell h.lo _, h.lo⟩
 have hk : ∀ y : NodeD, OwnN wr W.heap.size y → OwnN (w'.setCell ⟨Bg, 0, none⟩ v') W.heap.size y := fun y hy =>
  ⟨((hy.kept h.own hg).f).setOther hb (by decide), ((hy.kept h.own hg).r).setOther hb (by decide)⟩
 rcases List.mem_append.1 hc with hc | hc
 ·exact hk c (h.each c hc)
 ·rw [List.mem_singleton.1 hc]
  exact hk x hx
end
structure NdI (W : World) (X : Nat) (kd : Int) (v r : Value) (fs : List (Int × Int)) (ys : List Int) (wr : World) : Prop where
 g : wr.heap[X]? = some (.cells #[.int .i64 kd, v, r] 66 (0, 0))
 f : Own 71 2 spanC wr W.heap.size v fs
 r : Own 61 1 u64C wr W.heap.size r ys
 ext : Ext W wr
 lo : W.heap.size ≤ X
section
variable {W wr w' : World} {X : Nat} {kd : Int} {v r : Value} {fs : List (Int × Int)} {ys : List Int}
theorem NdI.start (W : World) (kd : Int) : NdI W W.heap.size kd (.slice none 0 0) (.slice none 0 0) [] [] (W.alloc (.cells #[.int .i64 kd, .slice none 0 0, .slice none 0 0] 66)) :=
 ⟨blk_new _ _ _ _ rfl, Own.nil _ _ _ _ _, Own.nil _ _ _ _ _, (Ext.refl _).alloc _, Nat.le_refl _⟩
theorem NdI.grow (h : NdI W X kd v r fs ys wr) (hx : Ext wr w') : NdI W X kd v r fs ys w' :=
 ⟨(hx.block (lt_of_heap h.g)).trans h.g, h.f.ext hx, h.r.ext hx, h.ext.trans hx, h.lo⟩
theorem NdI.appF (h : NdI W X kd v r fs ys wr) {v' : Value} {fs' : List (Int × Int)} (hown : Own 71 2 spanC w' W.heap.size v' fs') (hg : wr.grownBy w' v.ownBlock) :
  NdI W X kd v' r fs' ys (w'.setCell ⟨X, 1, none⟩ v') := by
 have hb : w'.heap[X]? = _ := (hg.block X (lt_of_heap h.g) (h.f.ne_block h.g (by decide))).trans h.g
 exact ⟨blk_set hb _, hown.setOther hb (by decide), (h.r.keep2 h.f (by decide) hg).setOther hb (by decide), (h.f.grown hg (Nat.le_refl _) h.ext).setCell h.lo _, h.lo⟩
theorem NdI.blkF (h : NdI W X kd v r fs ys wr) (hg : wr.grownBy w' v.ownBlock) : w'.heap[X]? = some (.cells #[.int .i64 kd, v, r] 66 (0, 0)) :=
 (hg.block X (lt_of_heap h.g) (h.f.ne_block h.g (by decide))).trans h.g
theorem NdI.setR (h : NdI W X kd v r fs ys wr) {r' : Value} {ys' : List Int} (hown : Own 61 1 u64C wr W.heap.size r' ys') :
  NdI W X kd v r' fs ys' (wr.setCell ⟨X, 2, none⟩ r') :=
 ⟨blk_set h.g _, h.f.setOther h.g (by decide), hown.setOther h.g (by decide), h.ext.setCell h.lo _, h.lo⟩
end
theorem used_succ (l : List (Bool × Int × Int)) (k : Nat) (h : k < l.length) : usedL (l.take (k + 1)) = usedL (l.take k) ++ (if (l.getD k (false, 0, 0)).1 then [(l.getD k (false, 0, 0)).2.2] else []) := by
 rw [List.take_add_one, List.getElem?_eq_getElem h, getD_get h]
 unfold usedL
 rw [Option.toList_some, List.filter_append, List.map_append]
 congr 1
 cases hb : (l[k]).1
 ·simp [List.filter_cons, hb]
 ·simp [List.filter_cons, hb]
theorem used_len (l : List (Bool × Int × Int)) : (usedL l).length ≤ l.length := by
 unfold usedL
 rw [List.length_map]
 exact List.length_filter_le _ _
theorem OwnG.shp {w : World} {B : Nat} {G : GraphD} (h : OwnG w B G) : Shp G := by
 refine ⟨fun x hx => ?_, ?_, ?_, ?_, ?_⟩
 ·have a := (own_row (h.each x hx).f spanCells (by decide)).2
  have b := (own_row (h.each x hx).r u64Cells (by decide)).2
  exact ⟨a.1, b.1, a.2, b.2⟩
 ·exact (own_row h.nodes nodeCells (by decide)).2.1
 ·exact (own_row h.roots spanCells (by decide)).2.1
 ·exact (own_row h.nodes nodeCells (by decide)).2.2
 ·exact (own_row h.roots spanCells (by decide)).2.2
theorem words_sub {w : World} {b off : Nat} {ws : List Int} (hc : ∀ i x, ws[i]? = some x → ∀ j v, (u64C x)[j]? = some v → w.cell? ⟨b, off + i * 1 + j, none⟩ = some v) (n m : Nat) (h : n + m ≤ ws.length) :
  RowAt 1 u64C w (some ⟨b, off + n, none⟩) ((List.range m).map fun (k : Nat) => wdZ ws ((n : Int) + k)) :=
 ⟨b, off + n, fun _ => rfl, fun i x hx j v hv => by
  rw [List.getElem?_map] at hx
  by_cases hi : i < m
  ·rw [List.getElem?_range hi] at hx
   simp only [Option.map_some, Option.some.injEq] at hx
   have h1 := hc (n + i) x (by
    rw [← hx, List.getElem?_eq_getElem (by omega)]
    unfold wdZ
    rw [show ((n : Int) + (i : Int)).toNat = n + i by omega, getD_get (by omega)]) j v hv
   rw [show off + n + i * 1 + j = off + (n + i) * 1 + j by omega]
   exact h1
  ·rw [List.getElem?_eq_none (by simp; omega)] at hx
   cases hx⟩
structure LfR (W W2 : World) (Bg : Nat) (v : Value) (cs : List NodeD) (r : Value) (rs : List (Int × Int)) (wr : World) : Prop where
 g : wr.heap[Bg]? = some (.cells #[v, r] 27 (0, 0))
 own : Own 66 3 nodeC wr W.heap.size v cs
 each : ∀ c ∈ cs, OwnN wr W.heap.size c
 roots : Own 71 2 spanC wr W2.heap.size r rs
 sep : ∀ c ∈ cs, ∀ b, (Value.slice c.fA c.fields.length c.fcap).ownBlock = some b → b < W2.heap.size
 ext : Ext W wr
 lo : W.heap.size ≤ Bg
 le : W.heap.size ≤ W2.heap.size
section
variable {W W2 wr w' : World} {Bg : Nat} {v r : Value} {cs : List NodeD} {rs : List (Int × Int)}
theorem LfR.start (h : LfI W Bg (.slice none 0 0) v cs wr) : LfR W wr Bg v cs (.slice none 0 0) [] wr :=
 ⟨h.g, h.own, h.each, Own.nil _ _ _ _ _, fun c hc b hb => (own_below (h.each c hc).f hb).2, h.ext, h.lo, h.ext.size⟩
theorem LfR.grow (h : LfR W W2 Bg v cs r rs wr) (hx : Ext wr w') : LfR W W2 Bg v cs r rs w' :=
 ⟨(hx.block (lt_of_heap h.g)).trans h.g, h.own.ext hx, fun c hc => (h.each c hc).ext hx, h.roots.ext hx, h.sep, h.ext.trans hx, h.lo, h.le⟩
theorem LfR.blk (h : LfR W W2 Bg v cs r rs wr) (hg : wr.grownBy w' r.ownBlock) : w'.heap[Bg]? = some (.cells #[v, r] 27 (0, 0)) :=
 (hg.block Bg (lt_of_heap h.g) (h.roots.ne_block h.g (by decide))).trans h.g
theorem LfR.fin (h : LfR W W2 Bg v cs r rs wr) {A A2 : Option Addr} {cap cap2 : Nat} (hv : v = .slice A cs.length cap) (hr : r = .slice A2 rs.length cap2) : OwnG wr W.heap.size ⟨A, cap, cs, A2, cap2, rs⟩ := by
 subst hv
 subst hr
 exact ⟨h.own, h.each, h.roots.mono h.le⟩
theorem LfR.app (h : LfR W W2 Bg v cs r rs wr) (hW2 : W2.heap.size ≤ wr.heap.size) {r' : Value} {x : Int × Int} (hown : Own 71 2 spanC w' W2.heap.size r' (rs ++ [x])) (hg : wr.grownBy w' r.ownBlock) :
  LfR W W2 Bg v cs r' (rs ++ [x]) (w'.setCell ⟨Bg, 1, none⟩ r') := by
 have hb : w'.heap[Bg]? = _ := (hg.block Bg (lt_of_heap h.g) (h.roots.ne_block h.g (by decide))).trans h.g
 refine ⟨blk_set hb _, (h.own.keep2 h.roots (by decide) hg).setOther hb (by decide), fun c hc => ⟨?_, ((h.each c hc).r.keep2 h.roots (by decide) hg).setOther hb (by decide)⟩, hown.setOther hb (by decide), h.sep, (h.roots.grown hg h.le h.ext).setCell h.lo _, h.lo, h.le⟩
 refine Own.setOther ((h.each c hc).f.kept hg ?_) hb (by decide)
 cases hA : (Value.slice c.fA c.fields.length c.fcap).ownBlock with
 | none => exact .inl rfl
 | some b =>
  refine .inr fun e => ?_
  have h1 := h.sep c hc b hA
  have h2 := (own_below h.roots e.symm).1
  omega
end
def szZ (ws : List Int) (z : Int) : Int := hsize (headH (some ws) z)
theorem chain_sum {l : Option (List Int)} {top i : Int} {zs : List Int} (h : Chain l top i zs) : (zs.map fun z => hsize (headH l z)).sum = top - i := by
 induction h with
 | nil => simp
 | cons h1 h2 h3 h4 ih =>
  rw [List.map_cons, List.sum_cons, ih]
  omega
theorem tb_sum {ws : List Int} {c0 c1 c2 c3 : Int} : ∀ {tb : List (Int × Int)}, tb.all (largeO (some ws) c0 c1 c2 c3) = true → ((tb.map (·.1)).map fun z => hsize (headH (some ws) z)).sum = (tb.map (·.2)).sum
 | [], _ => rfl
 | x :: tb, h => by
  rw [List.all_cons, Bool.and_eq_true] at h
  have ih := tb_sum h.2
  have h1 := h.1
  simp only [largeO, Bool.and_eq_true, decide_eq_true_eq, beq_iff_eq] at h1
  rw [List.map_cons, List.map_cons, List.sum_cons, List.map_cons, List.sum_cons, ih, h1.1.1.2]
theorem words_total {s : StD} (F : LfOk s) : ((objsL s).map (szZ s.ws)).sum = usedZ s.c0 s.c1 s.c2 s.c3 s.snd s.top + (s.tb.map (·.2)).sum := by
 obtain ⟨hc, -⟩ := list_chain F.ok.stop
 have h1 := chain_sum hc
 have h2 := tb_sum F.ok.large
 unfold objsL usedZ
 rw [F.ok.cfg, F.ok.tp, List.map_append, List.sum_append]
 show ((smallsL s.c0 s.c1 s.c2 s.c3 s.snd s.ws s.top).map fun z => hsize (headH (some s.ws) z)).sum + ((s.tb.map (·.1)).map fun z => hsize (headH (some s.ws) z)).sum = _
 rw [h2]
 unfold smallsL
 rw [h1]
 simp
theorem size_bd {s : StD} (F : LfOk s) {z : Int} (hz : z ∈ objsL s) : szZ s.ws z = 1 + (headH (some s.ws) z).f + (headH (some s.ws) z).r ∧ 1 ≤ szZ s.ws z ∧ szZ s.ws z ≤ 8193 := by
 have h := head_sum (F.head z hz)
 unfold szZ
 omega
theorem sum_bd : ∀ (l : List Int), (∀ x ∈ l, 0 ≤ x ∧ x ≤ 8193) → 0 ≤ l.sum ∧ l.sum ≤ 8193 * l.length
 | [], _ => by simp
 | x :: l, h => by
  have ih := sum_bd l (fun y hy => h y (List.mem_cons_of_mem _ hy))
  have h1 := h x List.mem_cons_self
  rw [List.sum_cons, List.length_cons]
  omega
theorem node_size {ws os : List Int} {x : NodeD} {z : Int} (h : nodeV x = nodeL ws os z) (hb : (0 ≤ (headH (some ws) z).f ∧ (headH (some ws) z).f ≤ 4096) ∧ (0 ≤ (headH (some ws) z).r ∧ (headH (some ws) z).r ≤ 4096)) :
  sizeN x = 1 + (headH (some ws) z).f + (headH (some ws) z).r := by
 simp only [nodeV, nodeL, Prod.mk.injEq] at h
 obtain ⟨-, h2, h3⟩ := h
 have e2 := congrArg List.length h2
 have e3 := congrArg List.length h3
 simp only [List.length_map, List.length_range] at e2 e3
 unfold sizeN
 rw [e2, e3]
 unfold wrap64
 omega
theorem adds_objs {s : StD} {H : GraphD} (F : LfOk s) (hl : s.ws.length ≤ 1000) (h : H.ns.map nodeV = (objsL s).map (nodeL s.ws (objsL s))) :
  ∀ k, k ≤ (objsL s).length → addS sizeN H.ns (((List.range (objsL s).length).map fun (i : Nat) => (i : Int)).take k) = (((objsL s).take k).map (szZ s.ws)).sum := by
 have hol := objs_len F
 have hn : H.ns.length = (objsL s).length := by have := congrArg List.length h; simpa using this
 intro k
 induction k with
 | zero => intro _; rfl
 | succ k ih =>
  intro hk
  have hk' : k < (objsL s).length := by omega
  have hm := getD_mem (d := (0 : Int)) hk'
  rw [addS_snoc (by simp; omega), ih (by omega)]
  have e : (((List.range (objsL s).length).map fun (i : Nat) => (i : Int))).getD k 0 = (k : Int) := by simp [List.getD, hk']
  rw [e, if_pos ⟨by omega, by omega⟩, Int.toNat_natCast]
  have hv : nodeV (H.ns.getD k default) = nodeL s.ws (objsL s) ((objsL s).getD k 0) := by
   have h1 := congrArg (fun l => l[k]?) h
   simp only [List.getElem?_map] at h1
   rw [List.getElem?_eq_getElem (by omega), List.getElem?_eq_getElem hk'] at h1
   simp only [Option.map_some, Option.some.injEq] at h1
   rw [getD_get (by omega), getD_get hk']
   exact h1
  obtain ⟨b1, b2, b3⟩ := size_bd F hm
  have hb := F.bd _ hm
  rw [node_size hv hb.2, ← b1, List.take_add_one, List.getElem?_eq_getElem hk', Option.toList_some, List.map_append, List.sum_append, ← getD_get hk' (d := 0)]
  have hs := sum_bd (((objsL s).take k).map (szZ s.ws)) (fun x hx => by
   obtain ⟨z, hz, rfl⟩ := List.mem_map.1 hx
   have := size_bd F (List.mem_of_mem_take hz)
   omega)
  rw [List.length_map, List.length_take] at hs
  simp only [List.map_cons, List.map_nil, List.sum_cons, List.sum_nil, Int.add_zero]
  unfold wrap64
  omega
theorem many_bd {s : StD} (F : LfOk s) (hl : s.ws.length ≤ 1000) : (∀ x ∈ s.tb, 1 ≤ x.2 ∧ x.2 ≤ 8193) ∧ ∀ k, 0 ≤ usedZ s.c0 s.c1 s.c2 s.c3 s.snd s.top + ((s.tb.take k).map (·.2)).sum ∧ usedZ s.c0 s.c1 s.c2 s.c3 s.snd s.top + ((s.tb.take k).map (·.2)).sum ≤ 8193000 := by
 have hx : ∀ x ∈ s.tb, 1 ≤ x.2 ∧ x.2 ≤ 8193 := fun x hx => by
  have h1 := List.all_eq_true.1 F.ok.large x hx
  simp only [largeO, Bool.and_eq_true, decide_eq_true_eq, beq_iff_eq] at h1
  have h2 := size_bd F (z := x.1) (List.mem_append_right _ (List.mem_map.2 ⟨x, hx, rfl⟩))
  unfold szZ at h2
  omega
 refine ⟨hx, fun k => ?_⟩
 have ht := words_total F
 have hol := objs_len F
 have hs := sum_bd ((objsL s).map (szZ s.ws)) (fun x hx => by
  obtain ⟨z, hz, rfl⟩ := List.mem_map.1 hx
  have := size_bd F hz
  omega)
 rw [List.length_map] at hs
 have e : (s.tb.map (·.2)).sum = ((s.tb.take k).map (·.2)).sum + ((s.tb.drop k).map (·.2)).sum := by rw [← List.sum_append, ← List.map_append, List.take_append_drop]
 have h1 := sum_bd ((s.tb.take k).map (·.2)) (fun y hy => by
  obtain ⟨x, hx1, rfl⟩ := List.mem_map.1 hy
  have := hx x (List.mem_of_mem_take hx1)
  omega)
 have h2 := sum_bd ((s.tb.drop k).map (·.2)) (fun y hy => by
  obtain ⟨x, hx1, rfl⟩ := List.mem_map.1 hy
  have := hx x (List.mem_of_mem_drop hx1)
  omega)
 have hu : 0 ≤ usedZ s.c0 s.c1 s.c2 s.c3 s.snd s.top := by
  obtain ⟨hc, -⟩ := list_chain F.ok.stop
  have h3 := chain_sum hc
  have h4 := sum_bd ((listA (some s.ws) (halfA s.c0 s.c1 s.c2 s.c3 s.snd) (halfS s.c0 s.c1 s.c2 s.c3) s.top).map fun z => hsize (headH (some s.ws) z)) (fun x hx => by
   obtain ⟨z, hz, rfl⟩ := List.mem_map.1 hx
   have := size_bd F (z := z) (List.mem_append_left _ hz)
   unfold szZ at this
   omega)
  unfold usedZ
  rw [F.ok.cfg, F.ok.tp]
  simp only [Bool.and_true, if_true]
  omega
 omega
def ownZ (n : Nat) (ws os : List Int) (p : Int) (k : Nat) : Bool := (decide (p < 0) || decide ((n : Int) ≤ p)) || (os.take k).any fun z => decide (z ≤ p) && decide (p < z + szZ ws z)
theorem own_succ {n : Nat} {ws os : List Int} {p : Int} {k : Nat} (hk : k < os.length) : ownZ n ws os p (k + 1) = (ownZ n ws os p k || (decide (os.getD k 0 ≤ p) && decide (p < os.getD k 0 + szZ ws (os.getD k 0)))) := by
 unfold ownZ
 rw [List.take_add_one, List.getElem?_eq_getElem hk, Option.toList_some, List.any_append, getD_get hk]
 simp [Bool.or_assoc]
theorem wd_set {ws : List Int} {p i v : Int} (hp : 0 ≤ p) (hi : 0 ≤ i) (h : i ≠ p) : wdZ (ws.set p.toNat v) i = wdZ ws i := by
 unfold wdZ
 rw [List.getD_eq_getElem?_getD, List.getD_eq_getElem?_getD, List.getElem?_set_ne (by omega)]
theorem lift_idle {s t : StD} {p v : Int} (h : chkS s = 0) (ho : ownZ s.ws.length s.ws (objsL s) p (objsL s).length = false)
  (ht : t.c0 = s.c0 ∧ t.c1 = s.c1 ∧ t.c2 = s.c2 ∧ t.c3 = s.c3 ∧ t.snd = s.snd ∧ t.ws = s.ws.set p.toNat v ∧ t.top = s.top ∧ t.tb = s.tb ∧ t.fr = s.fr ∧ t.sl = s.sl) :
  (0 ≤ p ∧ p < s.ws.length) ∧ chkS t = 0 ∧ liftV t = liftV s ∧ liftQ t = liftQ s := by
 obtain ⟨a0, a1, a2, a3, a4, a5, a6, a7, a8, a9⟩ := ht
 have F := LfOk.of h
 simp only [ownZ, Bool.or_eq_false_iff, decide_eq_false_iff_not, List.take_length, List.any_eq_false, Bool.and_eq_true, decide_eq_true_eq] at ho
 obtain ⟨⟨h1, h2⟩, h3⟩ := ho
 have hp : 0 ≤ p := by omega
 have hno : ∀ z ∈ objsL s, ¬ (z ≤ p ∧ p < z + 1 + (headH (some s.ws) z).f + (headH (some s.ws) z).r) := fun z hz => by
  have b := (size_bd F hz).1
  have := h3 z hz
  omega
 have hc : chkS t = 0 := by
  unfold chkS
  rw [a0, a1, a2, a3, a4, a5, a6, a7, a8, a9]
  exact check_idle h hp hno
 have hne : ∀ z ∈ objsL s, z ≠ p := fun z hz e => by
  have b := F.bd z hz
  exact hno z hz ⟨by omega, by omega⟩
 have hos : objsL t = objsL s := by
  unfold objsL
  rw [a0, a1, a2, a3, a4, a5, a6, a7]
  congr 1
  exact (stop_set (v := v) hp F.ok.stop fun z hz => hne z (List.mem_append_left _ hz)).2
 refine ⟨⟨hp, by omega⟩, hc, ?_, ?_⟩
 ·rw [liftV, if_pos hc, liftV, if_pos h, hos, a5]
  refine List.map_congr_left fun z hz => ?_
  have b := F.bd z hz
  have a := F.at_ z hz
  have n := hno z hz
  unfold nodeL
  rw [headH_set hp (hne z hz)]
  refine congrArg (Prod.mk _) (congr (congrArg Prod.mk ?_) ?_)
  ·refine List.map_congr_left fun k hk => ?_
   have := List.mem_range.1 hk
   rw [wd_set hp (by omega) (by omega)]
  ·refine List.map_congr_left fun k hk => ?_
   have := List.mem_range.1 hk
   rw [wd_set hp (by omega) (by omega)]
 ·rw [liftQ, if_pos hc, liftQ, if_pos h, hos, a9]
end Go.Proofs.YtphpppjfogpohaaGreat
