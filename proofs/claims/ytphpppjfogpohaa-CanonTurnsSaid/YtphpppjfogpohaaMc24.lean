/- Merged by program (merge.py) out of: CnR, CnS, AwS, AwT. -/
import Derived.Laws.CopyOwn
import Derived.Test.YtphpppjfogpohaaMc23
import Derived.Test.YtphpppjfogpohaaMc21
import Derived.Test.YtphpppjfogpohaaMc6
/- slices.Repeat at one number. -/
set_option linter.unusedSimpArgs false
set_option linter.unusedVariables false
namespace Go.Proofs.Ytphpppjfogpohaa
open Go.RowKit Go.Shelf
set_option maxRecDepth 100000
set_option maxHeartbeats 2000000
theorem mask_fin : ∀ n : Fin 1001, bits BinOp.and IntKind.u64 ((n : Nat) : Int) 4294967295 = ((n : Nat) : Int) ∧ IntKind.u64.wrap ((n : Nat) : Int) = ((n : Nat) : Int) := by decide +kernel
theorem mul64_any (n : Nat) (hn : n ≤ 1000) (V : World) : Calls Try.prog 80 #[.int .u64 1, .int .u64 n] V fun e w' => e = .returned (.tuple #[.int .u64 0, .int .u64 n]) ∧ w' = V := by
  have h1 : bits BinOp.and IntKind.u64 1 4294967295 = 1 := by decide +kernel
  have h2 : bits BinOp.and IntKind.u64 0 4294967295 = 0 := by decide +kernel
  have h3 := (mask_fin ⟨n, by omega⟩).1
  have h4 := (mask_fin ⟨n, by omega⟩).2
  have h5 : ((n : Int) / 4294967296) = 0 := by omega
  simp only at h3 h4
  go_enter Try.func80, Try.ntmps80
  go_wp2_with fail
  go_returns
  simp [h1, h2, h3, h4, h5]
theorem mul_any (n : Nat) (hn : n ≤ 1000) (V : World) : Calls Try.prog 56 #[.int .u64 1, .int .u64 n] V fun e w' => e = .returned (.tuple #[.int .u64 0, .int .u64 n]) ∧ w' = V := by
  have h4 := (mask_fin ⟨n, by omega⟩).2
  simp only at h4
  go_enter Try.func56, Try.ntmps56
  go_wp2_with fail
  refine (mul64_any n hn _).mono ?_
  rintro e w1 ⟨rfl, rfl⟩
  go_wp2_with fail
  go_returns
  exact ⟨rfl, rfl⟩
def noneV (n k : Nat) : List Value := (noneK n k).map (Value.int .i64)
theorem noneV_len {n k : Nat} (h : k ≤ n) : (noneV n k).length = n := by simp [noneV, noneK_len h]
def negV (c : Nat) : List Value := List.replicate c (Value.int .i64 (-1))
theorem negV_len {c : Nat} : (negV c).length = c := by simp [negV]
theorem splice_none {n k c : Nat} (h : k + c ≤ n) : splice (noneV n k) k (negV c) = noneV n (k + c) := by
  unfold splice noneV noneK negV
  rw [List.length_replicate, List.map_append, List.map_append, List.map_replicate, List.map_replicate, List.map_replicate, List.map_replicate]
  rw [List.take_append_of_le_length (by simp), List.take_of_length_le (by simp), List.drop_append, List.drop_of_length_le (by simp)]
  rw [List.nil_append, List.drop_replicate, List.length_replicate, ← List.append_assoc, List.replicate_append_replicate]
  congr 2
  omega
theorem intInfo1 : (Try.prog.info? 3).map (·.size) = some 1 := by kernel_rfl
theorem full_own {w : World} {B g n : Nat} {xs : List Int} (hg : w.heap[g]? = some (.cells (xs.map (Value.int .i64)).toArray 3 (0, 0))) (hB : B ≤ g) (hn : xs.length = n) (hm : n ≤ maxLen) : Own 3 1 intC w B (.slice (some ⟨g, 0, none⟩) n n) xs := by
  subst hn
  refine ⟨by rw [← map_flatC]; simp, .inr ⟨g, xs.length, _, rfl, hB, hg, Nat.le_refl _, hm, by simp, ?_⟩⟩
  rw [← map_flatC]
  exact List.take_of_length_le (by simp)
theorem own_full {w : World} {B g n : Nat} {xs : List Int} (h : Own 3 1 intC w B (.slice (some ⟨g, 0, none⟩) n n) xs) (hn : xs.length = n) : w.heap[g]? = some (.cells (xs.map (Value.int .i64)).toArray 3 (0, 0)) := by
  subst hn
  rcases h.2 with ⟨hn, _⟩ | ⟨g', cap', cur, hv, hb, hg, hc, hcm, hcs, ht⟩
  · cases hn
  injection hv with e1 e2 e3
  injection e1 with e1
  injection e1 with e1
  subst e1 e3
  rw [hg, map_flatC, ← ht, List.take_of_length_le (by rw [Array.length_toList, hcs]; omega)]
theorem neg_one {c : Nat} : ∀ v ∈ negV c, v.oneCell' = true := by
  intro v hv
  rw [List.eq_of_mem_replicate hv]
  rfl
theorem neg_src {c n b j : Nat} {v : Value} {w : World} (hv : (negV c)[j]? = some v) (hc : (negV c).length = Nat.min 1 n) (hb : w.cell? ⟨b, 0, none⟩ = some (.int .i64 (-1))) : w.cell? ((⟨b, 0, none⟩ : Addr).add j) = some v := by
  have hj : j < (negV c).length := by
    rcases Nat.lt_or_ge j (negV c).length with h | h
    · exact h
    · rw [List.getElem?_eq_none h] at hv; cases hv
  have h1 : (negV c).length ≤ 1 := by rw [hc]; exact Nat.min_le_left _ _
  have h0 : j = 0 := by omega
  subst h0
  have h2 : v = Value.int .i64 (-1) := List.eq_of_mem_replicate (List.mem_of_getElem? hv)
  rw [h2]
  exact hb
theorem wp_copy_splice {P : Program} {o : Oper} {a : Act} {w : World} {K : Act → World → Prop} {Q : Exit → Act → World → Prop} (hgd : o.guard = none) (d s : Operand) (dT sT : TypeId)
    (ho : o.op = .call { callee := .builtin .copy, args := #[d, s], argTypes := #[dT, sT] }) (elem : TypeId) (hu : P.underlying dT = some (.slice elem)) (hsz : (P.info? elem).map (·.size) = some 1)
    (dp sp : Option Addr) (dLen dCap sLen sCap : Nat) (hd : a.eval d = .slice dp dLen dCap) (hs : a.eval s = .slice sp sLen sCap)
    (g off : Nat) (cur : List Value) (t : TypeId) (hg : w.heap[g]? = some (.cells cur.toArray t (0, 0))) (cs : List Value) (hn : cs.length = Nat.min sLen dLen)
    (hpos : 0 < cs.length → dp = some ⟨g, off, none⟩ ∧ ∃ ad, sp = some ad ∧ ∀ j v, cs[j]? = some v → w.cell? (ad.add j) = some v)
    (hfit : off + cs.length ≤ cur.length) (h1 : ∀ v ∈ cs, v.oneCell' = true) (B : Nat) (w0 : World) (hb : RowKit.Below B w0 w) (hBg : B ≤ g)
    (h : ∀ w', RowKit.Hid (w'.heap[g]? = some (.cells (splice cur off cs).toArray t (0, 0))) → RowKit.Below B w0 w' → K (a.put o.dst (goInt cs.length)) w') : Oper.wp P o a w K Q := by
  have hw : Region.wanted o (yielded #[] a.tmps) = true := by simp [Region.wanted, hgd]
  have := step_copy_splice (ops := #[]) (E := False) (Q := Q) hgd d s dT sT ho elem hu hsz dp sp dLen dCap sLen sCap hd hs g off cur t hg cs hn hpos hfit h1 B w0 hb hBg h
  rwa [if_pos hw] at this
theorem neg_row {n k c j g : Nat} {v : Value} {w : World} (hv : (negV c)[j]? = some v) (hc : (negV c).length ≤ k) (hk : k ≤ n) (hb : w.heap[g]? = some (.cells (noneV n k).toArray 3 (0, 0))) : w.cell? ((⟨g, 0, none⟩ : Addr).add j) = some v := by
  have hj : j < (negV c).length := by
    rcases Nat.lt_or_ge j (negV c).length with h | h
    · exact h
    · rw [List.getElem?_eq_none h] at hv; cases hv
  have h2 : v = Value.int .i64 (-1) := List.eq_of_mem_replicate (List.mem_of_getElem? hv)
  have e : (⟨g, 0, none⟩ : Addr).add j = ⟨g, j, none⟩ := by
    unfold Addr.add
    split <;> simp_all
  rw [e, (cells_of hb).1, h2]
  have hl : j < (noneV n k).length := by rw [noneV_len hk]; omega
  rw [List.getElem?_toArray, List.getElem?_eq_getElem hl]
  simp only [noneV, noneK, List.getElem_map]
  rw [List.getElem_append_left (by simp; omega)]
  simp
theorem repeat_any (n : Nat) (hn : n ≤ 1000) (b : Nat) (V : World) (hb : V.cell? ⟨b, 0, none⟩ = some (.int .i64 (-1))) :
    Calls Try.prog 33 #[.slice (some ⟨b, 0, none⟩) 1 1, .int .i64 n] V fun e w' => ∃ g, e = .returned (.slice (some ⟨g, 0, none⟩) n n) ∧ Own 3 1 intC w' V.heap.size (.slice (some ⟨g, 0, none⟩) n n) (List.replicate n (-1)) ∧ Ext V w' := by
  have HB := Lib.hid hb
  clear hb
  have h4 := (mask_fin ⟨n, by omega⟩).2
  simp only at h4
  go_enter Try.func33, Try.ntmps33
  go_wp2_with fail
  refine (mul_any n hn _).mono ?_
  rintro e w1 ⟨rfl, rfl⟩
  have hmin : (negV (if n = 0 then 0 else 1)).length = Nat.min 1 n := by
    rw [negV_len]
    simp only [Nat.min_def]
    split <;> split <;> omega
  have HMIN := Lib.hid hmin
  clear hmin
  obtain ⟨c0, hc0⟩ : ∃ c, (if n = 0 then 0 else 1) = c := ⟨_, rfl⟩
  rw [hc0] at HMIN
  have HC0 := Lib.hid hc0
  have hsz : w1.heap.size = w1.heap.size := rfl
  generalize hX : w1.heap.size = X at hsz
  have HXX := Lib.hid hX
  clear hc0 hsz hX
  go_wp2_with (at_make; refine wpList_makeI rfl (.tmp 29) rfl n rfl (by omega) ?_; intro w2 hown hx; have HO := Lib.hid (own_full hown (by simp)); have HX := Lib.hid hx; clear hown hx; refine Hid.out ?_)
  refine Lib.hid ?_
  go_wp2_with (refine wpList_copy_splice rfl (.tmp 31) (.tmp 32) 28 28 rfl 3 Try.underlying28 intInfo1 (some ⟨w1.heap.size, 0, none⟩) (some ⟨b, 0, none⟩) n n 1 1 (by rfl) (by rfl) w1.heap.size 0 ((List.replicate n (0 : Int)).map (Value.int .i64)) 3 HO.out (negV c0) HMIN.out (fun _ => ⟨rfl, _, rfl, fun j v hv => (neg_src hv HMIN.out (HX.out.cell HB.out))⟩) (by rw [HMIN.out]; simp; exact Nat.min_le_right _ _) neg_one w1.heap.size w1 HX.out (Nat.le_refl _) ?_; intro w3 hg3 hb3; have HO3 := hg3; have HX3 := Lib.hid (show Ext w1 w3 from hb3); clear hg3 hb3)
  have HO4 : Hid (w3.heap[w1.heap.size]? = some (.cells (noneV n c0).toArray 3 (0, 0))) := Lib.hid (by
    have h := HO3.out
    have e : (List.replicate n (0 : Int)).map (Value.int .i64) = noneV n 0 := by simp [noneV, noneK]
    rw [e, splice_none (by have := HC0.out; split at this <;> omega), Nat.zero_add] at h
    exact h)
  have HLE : Hid (c0 ≤ n ∧ (0 < n → 0 < c0)) := Lib.hid (by have := HC0.out; split at this <;> omega)
  rw [negV_len]
  clear HO3 HO HX HMIN HC0 HB
  go_loopw [8] (fun i wr => ∃ k : Nat, k ≤ n ∧ (0 < n → 0 < k) ∧ i = .int .i64 k ∧ Hid (Ext w1 wr) ∧ Hid (wr.heap[w1.heap.size]? = some (.cells (noneV n k).toArray 3 (0, 0)))) (fun i _ => n - (intOf i).toNat)
  case atStart => exact ⟨c0, HLE.out.1, HLE.out.2, rfl, HX3, HO4⟩
  case round =>
    obtain ⟨k, hk, hk0, rfl, hxk, hO⟩ := hrel
    clear HX3 HO4 HLE
    by_cases hlt : k < n
    rotate_left
    · obtain rfl : k = n := by omega
      clear hlt
      go_wp2_with fail
      go_returns
      refine ⟨w1.heap.size, rfl, ?_, hxk.out⟩
      have e : noneK k k = List.replicate k (-1) := by simp [noneK]
      rw [← e]
      exact full_own hO.out (Nat.le_refl _) (noneK_len (Nat.le_refl _)) (by simp [maxLen]; omega)
    go_wp2_with fail
    have hyd := (Ext.refl wr).drew
    have hGP : BoxK w1.heap.size (noneV n k).toArray 3 wr.drew := BoxK.ext hO.out hyd
    have ib0 : (0 : Int) ≤ (k : Int) := by omega
    have ib1 : (k : Int) ≤ (n : Int) := by omega
    have hmin : (negV (min k (n - k))).length = Nat.min k (n - k) := negV_len
    have hcl : k + min k (n - k) ≤ n := by omega
    have hcp : 0 < min k (n - k) := by have := hk0 (by omega); omega
    have hck : min k (n - k) ≤ k := by omega
    generalize hc : min k (n - k) = c at *
    have HMIN := Lib.hid hmin
    have HCL := Lib.hid hcl
    have HCP := Lib.hid hcp
    have HCK := Lib.hid hck
    have HGP := Lib.hid hGP
    have HXK := Lib.hid (hxk.out.trans hyd)
    clear hmin hc hcl hcp hck hO hxk hk0
    (refine wp_region_gp (w := wr) (fun _ => True) (.rd [0] (.wk [7, 8, 9] (.rd [1, 2, 3, 4, 5, 6] (.bar [] (.one 7 (.rd [8, 9] .tl)))))) [] (by kernel_rfl) (by kernel_rfl) (by intro c a d v w h; first | exact h | (cases d <;> first | exact h | (cases h; done) | cases h.1.1 | cases h.1)) trivial ?_; (refine gp_rd ?_; (try simp only [opsOf, List.map_cons, List.map_nil, List.getD_cons_zero, List.getD_cons_succ]); (repeat (go_big_quiet_step (fail))); refine wpQuiet_nil ?_); refine gp_wk (fun _ => trivial) (fun w' => ∃ u : KeptOf (wr).drew (BoxK w1.heap.size (noneV n k).toArray 3), w' = u.1) (kept_mk hGP) ?_)
    (refine gp_rd ?_; (try simp only [opsOf, List.map_cons, List.map_nil, List.getD_cons_zero, List.getD_cons_succ]); (repeat (go_big_quiet_step (fail))); refine wpQuiet_nil ?_)
    (refine gp_bar (fun _ => True) trivial ?_)
    clear hGP hyd
    generalize wr.drew = wd at *
    refine gp_one (by (try simp only [List.getD_cons_succ, List.getD_cons_zero]); rfl) (by rfl) ?_
    intro K hK
    refine wp_copy_splice rfl (.tmp 41) (.tmp 44) 28 28 rfl 3 Try.underlying28 intInfo1 (some ⟨w1.heap.size, k, none⟩) (some ⟨w1.heap.size, 0, none⟩) (n - k) (n - k) k n (by rfl) (by rfl) w1.heap.size k (noneV n k) 3 HGP.out (negV c) HMIN.out (fun _ => ⟨rfl, _, rfl, fun j v hv => neg_row hv (by rw [negV_len]; exact HCK.out) hk HGP.out⟩) (by rw [negV_len, noneV_len hk]; exact HCL.out) neg_one w1.heap.size w1 HXK.out (Nat.le_refl _) ?_
    intro w5 hg5 hb5
    rw [splice_none HCL.out] at hg5
    have HO5 := hg5
    have HX5 := Lib.hid (show Ext w1 w5 from hb5)
    refine hK _ _ _ (fun _ h => h) trivial ?_
    clear hK K hg5 hb5 HGP HXK HMIN
    have hwr : wrap64 ((k : Int) + ((negV c).length : Int)) = ((k + c : Nat) : Int) := by
      rw [negV_len, IntWalk.wrap64_in _ ⟨by omega, by have := HCL.out; omega⟩]
      rfl
    rw [negV_len] at hwr
    have HWR2 := Lib.hid hwr
    clear hwr
    rw [negV_len]
    show GpWalk _ _ _ _ _ _ (Act.put _ (some 45) (.int .i64 (c : Int))) _
    go_simp
    (refine gp_rd ?_; (try simp only [opsOf, List.map_cons, List.map_nil, List.getD_cons_zero, List.getD_cons_succ]); (repeat (go_big_quiet_step (fail))); refine wpQuiet_nil ?_)
    (refine gp_tl ?_; (try simp only [opsOf, List.map_cons, List.map_nil, List.getD_cons_zero, List.getD_cons_succ]))
    go_wp2_with fail
    rw [HWR2.out]
    go_roundw
    case rel => exact ⟨k + c, HCL.out, fun _ => by have := HCP.out; omega, rfl, HX5, HO5⟩
    case measure => have := HCL.out; have := HCP.out; simp [intOf]; omega
end Go.Proofs.Ytphpppjfogpohaa

/- canon.Match. -/
set_option linter.unusedSimpArgs false
set_option linter.unusedVariables false
namespace Go.Proofs.Ytphpppjfogpohaa
open Go.RowKit Go.Shelf
set_option maxRecDepth 100000
set_option maxHeartbeats 2000000
/-- The partners, so many pairs written. -/
def partK (n : Nat) (o p : List Nat) (k : Nat) : List Int := (List.range n).map fun (x : Nat) => if 0 ≤ placeZ (ordZ o) x ∧ placeZ (ordZ o) x < k then ((p.getD (placeZ (ordZ o) x).toNat 0 : Nat) : Int) else -1
theorem partK_len {n k : Nat} {o p : List Nat} : (partK n o p k).length = n := by simp [partK]
theorem partK_zero {n : Nat} {o p : List Nat} : partK n o p 0 = List.replicate n (-1) := by
  refine List.ext_getElem (by simp [partK]) fun i h1 h2 => ?_
  simp only [partK, List.getElem_map, List.getElem_range, List.getElem_replicate]
  rw [if_neg (by omega)]
theorem partK_all {n : Nat} {o p : List Nat} : partK n o p o.length = partP n o p := by
  refine List.ext_getElem (by simp [partK, partP]) fun i h1 h2 => ?_
  simp only [partK, partP, List.getElem_map, List.getElem_range]
  have := place_ge (ordZ o) i
  rw [ordZ_len] at this
  by_cases h : placeZ (ordZ o) i < 0
  · rw [if_neg (by omega), if_pos h]
  · rw [if_pos (by omega), if_neg h]
theorem partK_step {n k : Nat} {o p : List Nat} (hd : o.Nodup) (hk : k < o.length) : (partK n o p k).set (o.getD k 0) ((p.getD k 0 : Nat) : Int) = partK n o p (k + 1) := by
  refine List.ext_getElem (by simp [partK]) fun i h1 h2 => ?_
  rw [List.getElem_set]
  simp only [partK, List.getElem_map, List.getElem_range]
  by_cases he : o.getD k 0 = i
  · rw [if_pos he]
    obtain ⟨j, hj, e1, e2⟩ := ord_place hd (x := (i : Int)) (by omega) (by rw [Int.toNat_natCast, ← he]; exact getD_mem' hk)
    rw [Int.toNat_natCast] at e2
    have : j = k := nodup_inj hd hj hk (by rw [e2, he])
    subst this
    rw [e1, if_pos (by omega), Int.toNat_natCast]
  · rw [if_neg he]
    have : placeZ (ordZ o) i ≠ k := by
      rcases place_cases (ordZ o) (i : Int) with ⟨e, _⟩ | ⟨j, hj, e, e2, _⟩
      · omega
      · intro e3
        have : j = k := by omega
        subst this
        rw [ordZ_len] at hj
        rw [ordZ_get hj] at e2
        omega
    by_cases h : 0 ≤ placeZ (ordZ o) i ∧ placeZ (ordZ o) i < k
    · rw [if_pos h, if_pos (by omega)]
    · rw [if_neg h, if_neg (by omega)]
theorem match_any (A B : GraphD) (V : World) (hA : GraphAt V A) (hB : GraphAt V B) (oA : GOk A) (oB : GOk B) :
    Calls Try.prog 11 #[.agg #[.slice A.nA A.ns.length A.ncap, .slice A.rA A.rs.length A.rcap], .agg #[.slice B.nA B.ns.length B.ncap, .slice B.rA B.rs.length B.rcap]] V (RetMt V A B) := by
  have hx0 := ((Ext.refl V).alloc (.cells #[.slice A.nA A.ns.length A.ncap, .slice A.rA A.rs.length A.rcap] 25)).alloc (.cells #[.slice B.nA B.ns.length B.ncap, .slice B.rA B.rs.length B.rcap] 25)
  have hba := (pers_new V #[.slice A.nA A.ns.length A.ncap, .slice A.rA A.rs.length A.rcap] 25 _ rfl).re ((Ext.refl _).alloc (.cells #[.slice B.nA B.ns.length B.ncap, .slice B.rA B.rs.length B.rcap] 25))
  have hbb := pers_new (V.alloc (.cells #[.slice A.nA A.ns.length A.ncap, .slice A.rA A.rs.length A.rcap] 25)) #[.slice B.nA B.ns.length B.ncap, .slice B.rA B.rs.length B.rcap] 25 (V.heap.size + 1) (by simp)
  have HX := Lib.hid hx0
  have HA := Lib.hid (hA.ext hx0)
  have HB := Lib.hid (hB.ext hx0)
  have HBA := Lib.hid hba
  have HBB := Lib.hid hbb
  have HOA := Lib.hid oA
  have HOB := Lib.hid oB
  have ka := (cells_of hba.here).1
  have kb := (cells_of hbb.here).1
  clear hx0 hA hB oA oB hba hbb
  cases hal : alikeG A B with
  | false =>
    have HN := Lib.hid hal
    clear hal
    go_enter Try.func11, Try.ntmps11
    go_wp2_with fail
    refine (alike_is A B false HN.out _ HA.out HB.out HOA.out HOB.out).mono ?_
    rintro e w1 ⟨rfl, hx⟩
    replace HX := Lib.hid (HX.out.trans hx)
    clear hx ka kb
    go_wp2_with fail
    go_returns
    exact retMt_none HN.out HX.out
  | true =>
  have HN := Lib.hid hal
  obtain ⟨ra, rb, -, -⟩ := alikeG_iff.1 hal
  have HLL := Lib.hid ((match_alike HOA.out HOB.out ra rb).2 hal).2
  have HO := Lib.hid (ordOk_of HOA.out ra)
  have HP := Lib.hid (ordOk_of HOB.out rb)
  have hn60 : A.ns.length ≤ 60 := by have := HOA.out.2; simp [largeG] at this; omega
  have hol : (ordG A).length ≤ 60 := by have := ordG_len HOA.out ra; omega
  have HFA : Hid (∀ W, GraphAt W A → Calls Try.prog 23 #[.agg #[.slice A.nA A.ns.length A.ncap, .slice A.rA A.rs.length A.rcap]] W (RetFl W (ordZ (ordG A)) 0)) := Lib.hid (fun W h => breadth_is A _ 0 (by rw [(plan_great HOA.out 0).2.1, (flat_eq A).2, flatG, ra]; rfl) (by rw [(plan_great HOA.out 0).1, (flat_eq A).1, canE, ra]; rfl) W h HOA.out)
  have HFB : Hid (∀ W, GraphAt W B → Calls Try.prog 23 #[.agg #[.slice B.nA B.ns.length B.ncap, .slice B.rA B.rs.length B.rcap]] W (RetFl W (ordZ (ordG B)) 0)) := Lib.hid (fun W h => breadth_is B _ 0 (by rw [(plan_great HOB.out 0).2.1, (flat_eq B).2, flatG, rb]; rfl) (by rw [(plan_great HOB.out 0).1, (flat_eq B).1, canE, rb]; rfl) W h HOB.out)
  have HLT : Hid (∀ k, k < (ordG A).length → (ordG A).getD k 0 < A.ns.length) := Lib.hid (fun k hk => valN_mem (HO.out.lt _ (getD_mem' hk)))
  have HMT : Hid (mtS A B = partP A.ns.length (ordG A) (ordG B)) := Lib.hid (by rw [mtS, if_pos hal])
  unfold RetMt
  rw [hal, HMT.out, partP_len]
  clear hal ra rb
  generalize ordG A = o at *
  generalize ordG B = p at *
  go_enter Try.func11, Try.ntmps11
  go_wp2_with fail
  refine (alike_is A B true HN.out _ HA.out HB.out HOA.out HOB.out).mono ?_
  rintro e w1 ⟨rfl, hx⟩
  replace HX := Lib.hid (HX.out.trans hx)
  replace HA := Lib.hid (HA.out.ext hx)
  replace HB := Lib.hid (HB.out.ext hx)
  replace HBA := Lib.hid (HBA.out.re hx)
  replace HBB := Lib.hid (HBB.out.re hx)
  have ka := (cells_of HBA.out.here).1
  have hla := lt_of_heap HBA.out.here
  have HXV : Hid (V.heap.size ≤ w1.heap.size) := Lib.hid HX.out.size
  clear hx kb
  go_wp2_with fail
  clear ka hla
  refine (repeat_any A.ns.length (by omega) w1.heap.size _ ((cells_of (blk_new w1 #[.int .i64 (-1)] 3 _ rfl)).1 0)).mono ?_
  rintro e w2 ⟨g, rfl, ho, hx⟩
  replace hx := ((Ext.refl w1).alloc (.cells #[.int .i64 (-1)] 3)).trans hx
  replace ho := ho.mono (B' := w1.heap.size) (by simp)
  replace HX := Lib.hid (HX.out.trans hx)
  replace HA := Lib.hid (HA.out.ext hx)
  replace HB := Lib.hid (HB.out.ext hx)
  replace HBA := Lib.hid (HBA.out.re hx)
  replace HBB := Lib.hid (HBB.out.re hx)
  have HO2 := Lib.hid (ho.mono (B' := V.heap.size) HXV.out)
  have HG2 : Hid (g < w2.heap.size) := Lib.hid (own_below ho rfl).2
  have ka := (cells_of HBA.out.here).1
  clear hx ho
  go_wp2_with fail
  clear ka
  refine (HFA.out _ HA.out).mono ?_
  rintro e w3 ⟨A1, c1, rfl, h1, hx⟩
  replace HX := Lib.hid (HX.out.trans hx)
  replace HB := Lib.hid (HB.out.ext hx)
  replace HBB := Lib.hid (HBB.out.re hx)
  replace HO2 := Lib.hid (HO2.out.ext hx)
  have I1 := Lib.hid h1
  have HG3 : Hid (g < w3.heap.size) := Lib.hid (by have := HG2.out; have := hx.size; omega)
  have kb := (cells_of HBB.out.here).1
  clear hx h1
  go_wp2_with fail
  clear kb
  refine (HFB.out _ HB.out).mono ?_
  rintro e w4 ⟨A2, c2, rfl, h2, hx⟩
  replace HX := Lib.hid (HX.out.trans hx)
  replace HO2 := Lib.hid (HO2.out.ext hx)
  replace I1 := Lib.hid (I1.out.ext hx)
  have I2 := Lib.hid h2
  have HPZ : Hid (Own 3 1 intC w4 V.heap.size (.slice (some ⟨g, 0, none⟩) A.ns.length A.ns.length) (partK A.ns.length o p 0)) := Lib.hid (by rw [partK_zero]; exact HO2.out)
  have HOZ : Hid ((ordZ o).length = o.length ∧ (ordZ p).length = o.length) := Lib.hid ⟨ordZ_len, by rw [ordZ_len]; exact HLL.out.symm⟩
  rw [HOZ.out.1] at I1 ⊢
  rw [HOZ.out.2] at I2 ⊢
  have HXZ := Lib.hid (Ext.refl V)
  clear hx h2 HO2 HB HA HBB HBA
  go_wp2_with fail
  go_loopw [34] (fun i wr => ∃ k : Nat, k ≤ o.length ∧ i = .int .i64 k ∧ Hid (Ext V wr) ∧ Hid (Own 3 1 intC wr w2.heap.size (.slice A1 o.length c1) (ordZ o)) ∧ Hid (Own 3 1 intC wr w3.heap.size (.slice A2 o.length c2) (ordZ p)) ∧ Hid (Own 3 1 intC wr V.heap.size (.slice (some ⟨g, 0, none⟩) A.ns.length A.ns.length) (partK A.ns.length o p k))) (fun i _ => o.length - (intOf i).toNat)
  case atStart => exact ⟨0, by omega, rfl, HX, I1, I2, HPZ⟩
  case round =>
    obtain ⟨k, hk, rfl, hxk, hI1, hI2, hO⟩ := hrel
    clear HPZ I1 I2 HX
    by_cases hlt : k < o.length
    rotate_left
    · obtain rfl : k = o.length := by omega
      clear hlt
      go_wp2_with fail
      go_returns
      refine ⟨some ⟨g, 0, none⟩, A.ns.length, rfl, ?_, hxk.out⟩
      rw [← partK_all]
      exact hO.out
    have hlt2 : k < p.length := by have := HLL.out; omega
    have hm := HLT.out k hlt
    have HS := Lib.hid (partK_step (n := A.ns.length) (p := p) HO.out.nd hlt)
    obtain ⟨b1, rfl, hb1, -⟩ := own_some hI1.out (fun e => by have e2 : o.length = 0 := by { rw [← ordZ_len, e]; rfl }; omega)
    obtain ⟨b2, rfl, hb2, -⟩ := own_some hI2.out (fun e => by have e2 : p.length = 0 := by { rw [← ordZ_len, e]; rfl }; omega)
    have n1 : (Value.slice (some ⟨b1, 0, none⟩) o.length c1).ownBlock ≠ some g := fun e => by
      have e2 : b1 = g := by simpa [Value.ownBlock] using e
      have := HG2.out
      omega
    have n2 : (Value.slice (some ⟨b2, 0, none⟩) o.length c2).ownBlock ≠ some g := fun e => by
      have e2 : b2 = g := by simpa [Value.ownBlock] using e
      have := HG3.out
      omega
    have d1 := own_intAt hI1.out ordZ_len hlt
    have d2 := own_intAt hI2.out (by rw [ordZ_len]; exact HLL.out.symm) hlt
    rw [ordZ_get hlt] at d1
    rw [ordZ_get hlt2] at d2
    have d3 := own_intAt hO.out partK_len hm
    obtain ⟨cur, hh⟩ := own_heap hO.out
    have fz := (cells_of hh).2
    have hS := own_setI hO.out partK_len (o.getD k 0) ((p.getD k 0 : Nat) : Int)
    rw [HS.out] at hS
    have HS2 := Lib.hid hS
    have HJ1 := Lib.hid (hI1.out.setNe (i := o.getD k 0) (u := .int .i64 ((p.getD k 0 : Nat) : Int)) n1)
    have HJ2 := Lib.hid (hI2.out.setNe (i := o.getD k 0) (u := .int .i64 ((p.getD k 0 : Nat) : Int)) n2)
    have HX2 := Lib.hid (hxk.out.setCell (p := ⟨g, o.getD k 0, none⟩) (own_below hO.out rfl).1 (.int .i64 ((p.getD k 0 : Nat) : Int)))
    have ib0 : (0 : Int) ≤ (k : Int) := by omega
    have ib1 : (k : Int) < (o.length : Int) := by omega
    have ib2 : (0 : Int) ≤ ((o.getD k 0 : Nat) : Int) := by omega
    have ib3 : ((o.getD k 0 : Nat) : Int) < (A.ns.length : Int) := by omega
    clear hS hh hO hxk hI1 hI2 n1 n2 hm HS hb1 hb2
    generalize o.getD k 0 = m at *
    generalize p.getD k 0 = q at *
    go_wp2_with fail
    go_roundw
    case rel => exact ⟨k + 1, by omega, by go_num, HX2, HJ1, HJ2, HS2⟩
    case measure => simp [intOf]; omega
end Go.Proofs.Ytphpppjfogpohaa

/- The example of chapter 18: its values. -/
set_option linter.unusedSimpArgs false
set_option linter.unusedVariables false
namespace Go.Proofs.Ytphpppjfogpohaa
open Go.RowKit Go.Shelf
set_option maxRecDepth 100000
set_option maxHeartbeats 1000000
def aw18 (a0 a1 a2 a3 a4 : Nat) : GraphD := ⟨some ⟨a3, 0, none⟩, 3, [⟨0, some ⟨a0, 0, none⟩, 1, [(2, 1)], none, 0, []⟩, ⟨1, some ⟨a1, 0, none⟩, 1, [(2, 2)], none, 0, []⟩, ⟨0, some ⟨a2, 0, none⟩, 1, [(2, 0)], none, 0, []⟩], some ⟨a4, 0, none⟩, 1, [(2, 1)]⟩
def aw18v : List NodV := [(0, [(2, 1)], []), (1, [(2, 2)], []), (0, [(2, 0)], [])]
def aw18t : List NodV := [(0, [(2, 1)], []), (0, [(2, 2)], []), (1, [(2, 0)], [])]
def aw18d : List NodV := [(0, [(2, 1)], []), (1, [(2, 2)], []), (5, [(2, 0)], [])]
section
variable (a0 a1 a2 a3 a4 : Nat)
theorem aw18_ok : GOk (aw18 a0 a1 a2 a3 a4) := by
  refine ⟨⟨by simp [aw18], by simp [aw18], (fun h => by cases h), (fun h => by cases h), by simp [aw18], by simp [aw18], fun n hn => ?_, by simp [aw18]⟩, rfl⟩
  simp only [aw18, List.mem_cons, List.not_mem_nil, or_false] at hn
  rcases hn with rfl | rfl | rfl
  all_goals exact ⟨by simp, by simp, by simp, by simp, by simp, by simp, by simp, by simp, by simp⟩
theorem aw18_v : valN (aw18 a0 a1 a2 a3 a4) = aw18v := rfl
theorem aw18_r : rightG (aw18 a0 a1 a2 a3 a4) = true := by kernel_rfl
theorem aw18_e : renE (aw18 a0 a1 a2 a3 a4) [2, 0, 1] = 0 := by kernel_rfl
theorem aw18_n : renN (aw18 a0 a1 a2 a3 a4) [2, 0, 1] = aw18t := by kernel_rfl
theorem aw18_q : renR (aw18 a0 a1 a2 a3 a4) [2, 0, 1] = [(2, 2)] := by kernel_rfl
end
theorem bfs18 : bfsN aw18v [(2, 1)] 1000000 1 = [1, 2, 0] := by kernel_rfl
theorem bfs18t : bfsN aw18t [(2, 2)] 1000000 1 = [2, 0, 1] := by kernel_rfl
theorem bfs18d : bfsN aw18d [(2, 1)] 1000000 1 = [1, 2, 0] := by kernel_rfl
theorem part18 : partP 3 [1, 2, 0] [2, 0, 1] = [1, 2, 0] := by kernel_rfl
theorem can18 : canN aw18v [1, 2, 0] = canN aw18t [2, 0, 1] := by kernel_rfl
theorem can18q : canR [(2, 1)] [1, 2, 0] = canR [(2, 2)] [2, 0, 1] := by kernel_rfl
theorem can18d : canN aw18v [1, 2, 0] ≠ canN aw18d [1, 2, 0] := by decide +kernel
theorem can18t : canN aw18t [2, 0, 1] = [(1, [(2, 1)], []), (0, [(2, 2)], []), (0, [(2, 0)], [])] := by kernel_rfl
theorem can18r : canR [(2, 2)] [2, 0, 1] = [(2, 0)] := by kernel_rfl
/-- What hangs on the nodes' values alone. -/
theorem right_vals {G H : GraphD} (h : valN G = valN H) (h2 : G.rs = H.rs) : rightG G = rightG H := by
  have e : ∀ (K : GraphD), rightG K = ((valN K).all (fun x => decide (0 ≤ x.1 ∧ x.1 ≤ 31 ∧ x.2.1.length ≤ 4096 ∧ x.2.2.length ≤ 4096) && x.2.1.all (okV (valN K).length)) && K.rs.all (okV (valN K).length)) := fun K => by
    rw [valN_len]
    unfold rightG valN
    rw [List.all_map]
    rfl
  rw [e, e, h, h2]
theorem awT_alike {G H : GraphD} (hG : valN G = aw18v) (hq : G.rs = [(2, 1)]) (rG : rightG G = true) (hH : valN H = aw18t) (hr : H.rs = [(2, 2)]) (rH : rightG H = true) : alikeG G H = true ∧ mtS G H = [1, 2, 0] := by
  have h1 : alikeG G H = true := by
    rw [alikeG_iff]
    refine ⟨rG, rH, ?_, ?_⟩
    · rw [canQ, canQ, if_pos rG, if_pos rH, ordG, ordG, hG, hH, hq, hr, bfs18, bfs18t, can18q]
    · rw [canV, canV, if_pos rG, if_pos rH, ordG, ordG, hG, hH, hq, hr, bfs18, bfs18t, can18]
  refine ⟨h1, ?_⟩
  rw [mtS, if_pos h1, ordG, ordG, hG, hH, hq, hr, bfs18, bfs18t, ← valN_len, hG]
  exact part18
theorem awD_alike {G H : GraphD} (hG : valN G = aw18v) (hq : G.rs = [(2, 1)]) (hH : valN H = aw18d) (hr : H.rs = [(2, 1)]) : alikeG G H = false := by
  cases h : alikeG G H with
  | false => rfl
  | true =>
    obtain ⟨rG, rH, -, h2⟩ := alikeG_iff.1 h
    rw [canV, canV, if_pos rG, if_pos rH, ordG, ordG, hG, hH, hq, hr, bfs18, bfs18d] at h2
    exact absurd h2 can18d
theorem awT_can {H : GraphD} (hH : valN H = aw18t) (hr : H.rs = [(2, 2)]) (rH : rightG H = true) : canE H = 0 ∧ canV H = [(1, [(2, 1)], []), (0, [(2, 2)], []), (0, [(2, 0)], [])] ∧ canQ H = [(2, 0)] := by
  refine ⟨by rw [canE, if_pos rH], ?_, ?_⟩
  · rw [canV, if_pos rH, ordG, hH, hr, bfs18t, can18t]
  · rw [canQ, if_pos rH, ordG, hH, hr, bfs18t, can18r]
/-- A node's kind is stored. -/
theorem OwnG.kind {w : World} {B : Nat} {G : GraphD} (h : OwnG w B G) {g : Nat} (hA : G.nA = some ⟨g, 0, none⟩) {k : Nat} (hk : k < G.ns.length) (z : Int) : OwnG (w.setCell ⟨g, k * 3, none⟩ (.int .i64 z)) B ⟨G.nA, G.ncap, G.ns.set k { G.ns[k] with kind := z }, G.rA, G.rcap, G.rs⟩ := by
  have hn := h.nodes
  rw [hA] at hn
  obtain ⟨cur, hc⟩ := own_heap hn
  have hs := own_setW nodeCells hn rfl k 0 hk (by decide) { G.ns[k] with kind := z } (.int .i64 z) rfl
  refine ⟨?_, fun x hx => ?_, h.roots.setOther hc (by decide)⟩
  · simp only [List.length_set]
    rw [hA]
    exact hs
  · have hm : ∀ y ∈ G.ns, OwnN (w.setCell ⟨g, k * 3, none⟩ (.int .i64 z)) B y := fun y hy => ⟨(h.each y hy).f.setOther hc (by decide), (h.each y hy).r.setOther hc (by decide)⟩
    rcases List.mem_or_eq_of_mem_set hx with h1 | h1
    · exact hm x h1
    · have := hm _ (List.getElem_mem hk)
      rw [h1]
      exact ⟨this.f, this.r⟩
end Go.Proofs.Ytphpppjfogpohaa

/- awake of the laws of Canon, walked. -/
set_option linter.unusedSimpArgs false
set_option linter.unusedVariables false
namespace Go.Proofs.Ytphpppjfogpohaa
open Go.RowKit Go.Shelf
set_option maxRecDepth 100000
set_option maxHeartbeats 4000000
theorem kref_any (x : Int) (V : World) : Calls Try.prog 31 #[.int .i64 x] V fun e w' => e = .returned (.agg #[.int .i64 2, .int .i64 x]) ∧ Ext V w' := by
  have hx := (Ext.refl V).alloc (.cells #[.int .i64 2, .int .i64 x] 53)
  go_enter Try.func31, Try.ntmps31
  go_wp2_with fail
  go_returns
  exact ⟨rfl, hx⟩
/-- A graph in an order that renumbering takes. -/
theorem ren_ok {G H : GraphD} {o : List Int} (oG : GOk G) (he : renE G o = 0) (h1 : H.ns.map nodeV = renN G o) (h2 : H.rs = renR G o) (hs : Shp H) : GOk H ∧ rightG H = true ∧ canV H = canV G ∧ canQ H = canQ G := by
  obtain ⟨rG, p, rfl, hp⟩ := ord_ren he
  obtain ⟨e1, e2⟩ := renN_ord rG hp
  have h1' := h1.trans e1
  have h2' := h2.trans e2
  obtain ⟨a, b⟩ := turned_ok oG rG hp h1' h2' hs
  obtain ⟨c, d⟩ := turned_can oG rG hp h1' h2' hs
  exact ⟨a, b, c, d⟩
theorem large_vals {G H : GraphD} (h : valN G = valN H) (h2 : G.rs = H.rs) : largeG G = largeG H := by
  unfold largeG
  rw [bulk_sum, bulk_sum]
  have e1 : G.ns.map nodeV = H.ns.map nodeV := h
  have e2 : G.ns.length = H.ns.length := by rw [← valN_len, ← valN_len, h]
  rw [e1, e2, h2]
def aw18k (a0 a1 a2 a3 a4 : Nat) : GraphD := ⟨some ⟨a3, 0, none⟩, 3, [⟨0, some ⟨a0, 0, none⟩, 1, [(2, 1)], none, 0, []⟩, ⟨1, some ⟨a1, 0, none⟩, 1, [(2, 2)], none, 0, []⟩, ⟨5, some ⟨a2, 0, none⟩, 1, [(2, 0)], none, 0, []⟩], some ⟨a4, 0, none⟩, 1, [(2, 1)]⟩
theorem aw18k_ok (a0 a1 a2 a3 a4 : Nat) : GOk (aw18k a0 a1 a2 a3 a4) := by
  refine ⟨⟨by simp [aw18k], by simp [aw18k], (fun h => by cases h), (fun h => by cases h), by simp [aw18k], by simp [aw18k], fun n hn => ?_, by simp [aw18k]⟩, rfl⟩
  simp only [aw18k, List.mem_cons, List.not_mem_nil, or_false] at hn
  rcases hn with rfl | rfl | rfl
  all_goals exact ⟨by simp, by simp, by simp, by simp, by simp, by simp, by simp, by simp, by simp⟩
theorem set_kind {D : GraphD} (h : valN D = aw18v) (hk : 2 < D.ns.length) : (D.ns.set 2 { D.ns[2] with kind := 5 }).map nodeV = aw18d := by
  have e : D.ns.map nodeV = aw18v := h
  rw [List.map_set, e]
  have e2 : nodeV D.ns[2] = (0, [(2, 0)], []) := by
    have h2 : (D.ns.map nodeV)[2]? = some (0, [(2, 0)], []) := by rw [e]; rfl
    rw [List.getElem?_map, List.getElem?_eq_getElem hk] at h2
    injection h2
  have e3 : nodeV { D.ns[2] with kind := 5 } = (5, [(2, 0)], []) := by
    unfold nodeV at e2 ⊢
    injection e2 with a b
    injection b with b c
    simp only [b, c]
  rw [e3]
  rfl
theorem awake18_any (V : World) : Calls Try.prog 10 #[] V fun e w' => e = .returned (.bool true) ∧ Ext V w' := by
  go_enter Try.func10, Try.ntmps10
  go_wp2_with fail
  refine (kref_any 1 _).mono ?_
  rintro e w1 ⟨rfl, hx⟩
  have HX := Lib.hid hx
  clear hx
  go_wp2_with fail
  have hy : Ext w1 (w1.alloc (.cells #[.int .i64 2, .int .i64 1] 53)) := (Ext.refl w1).alloc _
  have P0 := Lib.hid ((pers_new w1 #[.int .i64 2, .int .i64 1] 53 (w1.heap.size) rfl))
  replace HX := Lib.hid (HX.out.trans hy)
  clear hy
  generalize (w1.alloc (.cells #[.int .i64 2, .int .i64 1] 53)) = W1 at *
  generalize w1.heap.size = a0 at *
  refine (kref_any 2 _).mono ?_
  rintro e w2 ⟨rfl, hx⟩
  replace P0 := Lib.hid (P0.out.re hx)
  replace HX := Lib.hid (HX.out.trans hx)
  clear hx
  go_wp2_with fail
  have hy : Ext w2 (w2.alloc (.cells #[.int .i64 2, .int .i64 2] 53)) := (Ext.refl w2).alloc _
  have P1 := Lib.hid ((pers_new w2 #[.int .i64 2, .int .i64 2] 53 (w2.heap.size) rfl))
  replace P0 := Lib.hid (P0.out.re hy)
  replace HX := Lib.hid (HX.out.trans hy)
  clear hy
  generalize (w2.alloc (.cells #[.int .i64 2, .int .i64 2] 53)) = W2 at *
  generalize w2.heap.size = a1 at *
  refine (kref_any 0 _).mono ?_
  rintro e w3 ⟨rfl, hx⟩
  replace P0 := Lib.hid (P0.out.re hx)
  replace P1 := Lib.hid (P1.out.re hx)
  replace HX := Lib.hid (HX.out.trans hx)
  clear hx
  go_wp2_with fail
  have hy : Ext w3 ((w3.alloc (.cells #[.int .i64 2, .int .i64 0] 53)).alloc (.cells #[.int .i64 0, .slice (some ⟨a0, 0, none⟩) 1 1, .slice none 0 0, .int .i64 1, .slice (some ⟨a1, 0, none⟩) 1 1, .slice none 0 0, .int .i64 0, .slice (some ⟨w3.heap.size, 0, none⟩) 1 1, .slice none 0 0] 51)) := ((Ext.refl w3).alloc _).alloc _
  have P2 := Lib.hid ((pers_new w3 #[.int .i64 2, .int .i64 0] 53 (w3.heap.size) rfl).re ((Ext.refl _).alloc (.cells #[.int .i64 0, .slice (some ⟨a0, 0, none⟩) 1 1, .slice none 0 0, .int .i64 1, .slice (some ⟨a1, 0, none⟩) 1 1, .slice none 0 0, .int .i64 0, .slice (some ⟨w3.heap.size, 0, none⟩) 1 1, .slice none 0 0] 51)))
  have P3 := Lib.hid ((pers_new (w3.alloc (.cells #[.int .i64 2, .int .i64 0] 53)) #[.int .i64 0, .slice (some ⟨a0, 0, none⟩) 1 1, .slice none 0 0, .int .i64 1, .slice (some ⟨a1, 0, none⟩) 1 1, .slice none 0 0, .int .i64 0, .slice (some ⟨w3.heap.size, 0, none⟩) 1 1, .slice none 0 0] 51 (w3.heap.size + 1) (by simp)))
  replace P0 := Lib.hid (P0.out.re hy)
  replace P1 := Lib.hid (P1.out.re hy)
  replace HX := Lib.hid (HX.out.trans hy)
  clear hy
  generalize ((w3.alloc (.cells #[.int .i64 2, .int .i64 0] 53)).alloc (.cells #[.int .i64 0, .slice (some ⟨a0, 0, none⟩) 1 1, .slice none 0 0, .int .i64 1, .slice (some ⟨a1, 0, none⟩) 1 1, .slice none 0 0, .int .i64 0, .slice (some ⟨w3.heap.size, 0, none⟩) 1 1, .slice none 0 0] 51)) = W3 at *
  generalize w3.heap.size + 1 = a3 at *
  generalize w3.heap.size = a2 at *
  refine (kref_any 1 _).mono ?_
  rintro e w4 ⟨rfl, hx⟩
  replace P0 := Lib.hid (P0.out.re hx)
  replace P1 := Lib.hid (P1.out.re hx)
  replace P2 := Lib.hid (P2.out.re hx)
  replace P3 := Lib.hid (P3.out.re hx)
  replace HX := Lib.hid (HX.out.trans hx)
  clear hx
  go_wp2_with fail
  have hy : Ext w4 (((w4.alloc (.cells #[.int .i64 2, .int .i64 1] 53)).alloc (.cells #[.slice (some ⟨a3, 0, none⟩) 3 3, .slice (some ⟨w4.heap.size, 0, none⟩) 1 1] 25)).alloc (.cells #[.int .i64 2, .int .i64 0, .int .i64 1] 3)) := (((Ext.refl w4).alloc _).alloc _).alloc _
  have P4 := Lib.hid ((pers_new w4 #[.int .i64 2, .int .i64 1] 53 (w4.heap.size) rfl).re (((Ext.refl _).alloc (.cells #[.slice (some ⟨a3, 0, none⟩) 3 3, .slice (some ⟨w4.heap.size, 0, none⟩) 1 1] 25)).alloc (.cells #[.int .i64 2, .int .i64 0, .int .i64 1] 3)))
  have P5 := Lib.hid ((pers_new (w4.alloc (.cells #[.int .i64 2, .int .i64 1] 53)) #[.slice (some ⟨a3, 0, none⟩) 3 3, .slice (some ⟨w4.heap.size, 0, none⟩) 1 1] 25 (w4.heap.size + 1) (by simp)).re ((Ext.refl _).alloc (.cells #[.int .i64 2, .int .i64 0, .int .i64 1] 3)))
  have P6 := Lib.hid ((pers_new ((w4.alloc (.cells #[.int .i64 2, .int .i64 1] 53)).alloc (.cells #[.slice (some ⟨a3, 0, none⟩) 3 3, .slice (some ⟨w4.heap.size, 0, none⟩) 1 1] 25)) #[.int .i64 2, .int .i64 0, .int .i64 1] 3 (w4.heap.size + 1 + 1) (by simp)))
  replace P0 := Lib.hid (P0.out.re hy)
  replace P1 := Lib.hid (P1.out.re hy)
  replace P2 := Lib.hid (P2.out.re hy)
  replace P3 := Lib.hid (P3.out.re hy)
  replace HX := Lib.hid (HX.out.trans hy)
  clear hy
  generalize (((w4.alloc (.cells #[.int .i64 2, .int .i64 1] 53)).alloc (.cells #[.slice (some ⟨a3, 0, none⟩) 3 3, .slice (some ⟨w4.heap.size, 0, none⟩) 1 1] 25)).alloc (.cells #[.int .i64 2, .int .i64 0, .int .i64 1] 3)) = W4 at *
  generalize w4.heap.size + 1 + 1 = a6 at *
  generalize w4.heap.size + 1 = a5 at *
  generalize w4.heap.size = a4 at *
  have HG : Hid (GraphAt W4 (aw18 a0 a1 a2 a3 a4)) := Lib.hid (by
    refine ⟨⟨row_block P3.out.here rfl nodeCells (by decide), fun x hx => ?_⟩, row_block P4.out.here rfl spanCells (by decide)⟩
    simp only [aw18, List.mem_cons, List.not_mem_nil, or_false] at hx
    rcases hx with rfl | rfl | rfl
    · exact ⟨row_block P0.out.here rfl spanCells (by decide), RowAt.none _ _ _⟩
    · exact ⟨row_block P1.out.here rfl spanCells (by decide), RowAt.none _ _ _⟩
    · exact ⟨row_block P2.out.here rfl spanCells (by decide), RowAt.none _ _ _⟩)
  have HK := Lib.hid (aw18_ok a0 a1 a2 a3 a4)
  have HI6 : Hid (IntsAt W4 (some ⟨a6, 0, none⟩) [2, 0, 1]) := Lib.hid (row_block P6.out.here rfl intCells (by decide))
  clear P0 P1 P2 P3 P4 P6
  have Z0 := ren_any (aw18 a0 a1 a2 a3 a4) (some ⟨a6, 0, none⟩) 3 [2, 0, 1] _ HG.out HK.out.1 HI6.out (by simp) (by simp)
  rw [aw18_e, aw18_n, aw18_q] at Z0
  have Z := Z0
  refine Z.mono ?_
  clear Z
  rintro e w5 ⟨H, rfl, g1, g2, g3, g4, g5, g6, g7, g8, hx⟩
  replace P5 := Lib.hid (P5.out.re hx)
  replace HX := Lib.hid (HX.out.trans hx)
  replace HG := Lib.hid (HG.out.ext hx)
  clear hx
  have HGH := Lib.hid g1
  have HVH := Lib.hid g2
  have HQH := Lib.hid g3
  have HSH := Lib.hid (show Shp H from ⟨g4, g5, g6, g7, g8⟩)
  have HRH := Lib.hid (ren_ok HK.out (aw18_e a0 a1 a2 a3 a4) (g2.trans (aw18_n a0 a1 a2 a3 a4).symm) (g3.trans (aw18_q a0 a1 a2 a3 a4).symm) HSH.out)
  have HAL := Lib.hid (awT_alike (aw18_v a0 a1 a2 a3 a4) rfl (aw18_r a0 a1 a2 a3 a4) HVH.out HQH.out HRH.out.2.1)
  clear g1 g2 g3 g4 g5 g6 g7 g8 Z0 HI6
  have k5 := (cells_of P5.out.here).1
  have l5 := lt_of_heap P5.out.here
  go_wp2_with fail
  clear k5 l5
  have hy : Ext w5 (w5.alloc (.cells #[.slice H.nA H.ns.length H.ncap, .slice H.rA H.rs.length H.rcap] 25)) := (Ext.refl w5).alloc _
  have P7 := Lib.hid ((pers_new w5 #[.slice H.nA H.ns.length H.ncap, .slice H.rA H.rs.length H.rcap] 25 (w5.heap.size) rfl))
  replace P5 := Lib.hid (P5.out.re hy)
  replace HX := Lib.hid (HX.out.trans hy)
  replace HG := Lib.hid (HG.out.ext hy)
  replace HGH := Lib.hid (HGH.out.ext hy)
  clear hy
  generalize (w5.alloc (.cells #[.slice H.nA H.ns.length H.ncap, .slice H.rA H.rs.length H.rcap] 25)) = W5 at *
  generalize w5.heap.size = a7 at *
  have Z0 := match_any (aw18 a0 a1 a2 a3 a4) H _ HG.out HGH.out HK.out HRH.out.1
  unfold RetMt at Z0
  rw [HAL.out.1, HAL.out.2] at Z0
  have Z := Z0
  refine Z.mono ?_
  clear Z
  rintro e w6 ⟨A9, c9, rfl, h9, hx⟩
  replace P5 := Lib.hid (P5.out.re hx)
  replace P7 := Lib.hid (P7.out.re hx)
  replace HX := Lib.hid (HX.out.trans hx)
  replace HG := Lib.hid (HG.out.ext hx)
  replace HGH := Lib.hid (HGH.out.ext hx)
  have I9 := Lib.hid (own_ints h9)
  clear hx
  clear h9 Z0
  have k7 := (cells_of P7.out.here).1
  go_wp2_with fail
  clear k7
  have Z0 := canon_any H _ HGH.out HRH.out.1
  obtain ⟨y1, y2, y3⟩ := awT_can HVH.out HQH.out HRH.out.2.1
  rw [y1, y2, y3] at Z0
  have Z := Z0
  refine Z.mono ?_
  clear Z
  rintro e w7 ⟨K, rfl, g1, g2, g3, g4, g5, g6, g7, g8, hx⟩
  replace P5 := Lib.hid (P5.out.re hx)
  replace P7 := Lib.hid (P7.out.re hx)
  replace HX := Lib.hid (HX.out.trans hx)
  replace HG := Lib.hid (HG.out.ext hx)
  replace HGH := Lib.hid (HGH.out.ext hx)
  replace I9 := Lib.hid (I9.out.ext hx)
  clear hx
  have HGK := Lib.hid g1
  have hk3 : K.ns.length = 3 := by have := congrArg List.length g2; simpa using this
  have hk1 : K.rs.length = 1 := by rw [g3]; rfl
  have HVK := Lib.hid g2
  have HQK := Lib.hid g3
  clear g1 g2 g3 g4 g5 g6 g7 g8 Z0 y1 y2 y3
  have k5 := (cells_of P5.out.here).1
  have l5 := lt_of_heap P5.out.here
  simp only [hk3, hk1]
  go_wp2_with fail
  clear k5 l5
  have hy : Ext w7 (w7.alloc (.cells #[.slice K.nA 3 K.ncap, .slice K.rA 1 K.rcap] 25)) := (Ext.refl w7).alloc _
  have P8 := Lib.hid ((pers_new w7 #[.slice K.nA 3 K.ncap, .slice K.rA 1 K.rcap] 25 (w7.heap.size) rfl))
  replace P5 := Lib.hid (P5.out.re hy)
  replace P7 := Lib.hid (P7.out.re hy)
  replace HX := Lib.hid (HX.out.trans hy)
  replace HG := Lib.hid (HG.out.ext hy)
  replace HGH := Lib.hid (HGH.out.ext hy)
  replace I9 := Lib.hid (I9.out.ext hy)
  replace HGK := Lib.hid (HGK.out.ext hy)
  clear hy
  generalize (w7.alloc (.cells #[.slice K.nA 3 K.ncap, .slice K.rA 1 K.rcap] 25)) = W7 at *
  generalize w7.heap.size = a8 at *
  have Z0 := copy_any (aw18 a0 a1 a2 a3 a4) _ HG.out HK.out.1
  refine Z0.mono ?_
  clear Z0
  rintro e w8 ⟨D, rfl, ho, hv, hr, hx8⟩
  have hd3 : D.ns.length = 3 := by have := congrArg List.length hv; simpa [aw18] using this
  have hd1 : D.rs.length = 1 := by rw [hr]; rfl
  have HVD := Lib.hid (show valN D = aw18v from hv)
  have HQD := Lib.hid (show D.rs = [(2, 1)] from hr)
  obtain ⟨g, hg, hgb, hgl⟩ := own_some ho.nodes (fun e => by rw [e] at hd3; simp at hd3)
  have HGA := Lib.hid hg
  have hnn := ho.nodes
  rw [hg] at hnn
  obtain ⟨cur, hc⟩ := own_heap hnn
  have fz := (cells_of hc).2
  have ck := own_getR nodeCells (by decide) hnn rfl 2 0 (by rw [hd3]; decide) (.int .i64 (D.ns[2]'(by rw [hd3]; decide)).kind) rfl
  obtain ⟨kd, hkd⟩ : ∃ z, (D.ns[2]'(by rw [hd3]; decide)).kind = z := ⟨_, rfl⟩
  rw [hkd, show 2 * 3 + 0 = 6 from rfl] at ck
  have HOD := Lib.hid ho
  simp only [hd3, hd1, hg]
  have k5 := (cells_of (P5.out.at hx8)).1
  have l5 := lt_of_heap (P5.out.at hx8)
  have HX8 := Lib.hid hx8
  have hne5 : a5 ≠ g := by have := lt_of_heap P5.out.here; omega
  clear ho hv hr hnn hc hkd hg hx8
  go_wp2_with fail
  clear k5 l5 hne5 ck fz
  have hx9 : Ext W7 ((w8.setCell ⟨g, 6, none⟩ (.int .i64 5)).alloc (.cells #[.slice (some ⟨g, 0, none⟩) 3 D.ncap, .slice D.rA 1 D.rcap] 25)) := (HX8.out.setCell (p := ⟨g, 6, none⟩) hgb _).alloc _
  have hb9 := blk_new (w8.setCell ⟨g, 6, none⟩ (.int .i64 5)) #[.slice (some ⟨g, 0, none⟩) 3 D.ncap, .slice D.rA 1 D.rcap] 25 w8.heap.size (by simp)
  have hog0 := HOD.out.kind HGA.out (k := 2) (by rw [hd3]; decide) 5
  rw [show 2 * 3 = 6 from rfl, HGA.out] at hog0
  have hog := hog0.ext ((Ext.refl _).alloc (.cells #[.slice (some ⟨g, 0, none⟩) 3 D.ncap, .slice D.rA 1 D.rcap] 25))
  clear hog0
  have hvd := set_kind HVD.out (by rw [hd3]; decide)
  have hld : (D.ns.set 2 { D.ns[2]'(by rw [hd3]; decide) with kind := 5 }).length = 3 := by rw [List.length_set]; exact hd3
  generalize D.ns.set 2 { D.ns[2]'(by rw [hd3]; decide) with kind := 5 } = ds at *
  generalize (w8.setCell ⟨g, 6, none⟩ (.int .i64 5)).alloc (.cells #[.slice (some ⟨g, 0, none⟩) 3 D.ncap, .slice D.rA 1 D.rcap] 25) = W8 at *
  generalize w8.heap.size = a9 at *
  have HD1 : Hid (GraphAt W8 ⟨some ⟨g, 0, none⟩, D.ncap, ds, D.rA, D.rcap, D.rs⟩) := Lib.hid hog.at
  have HD2 : Hid (GOk ⟨some ⟨g, 0, none⟩, D.ncap, ds, D.rA, D.rcap, D.rs⟩) := Lib.hid ⟨hog.ok (G := aw18k a0 a1 a2 a3 a4) hvd HQD.out (aw18k_ok a0 a1 a2 a3 a4).1, (large_vals (G := ⟨some ⟨g, 0, none⟩, D.ncap, ds, D.rA, D.rcap, D.rs⟩) (H := aw18k a0 a1 a2 a3 a4) hvd HQD.out).trans (aw18k_ok a0 a1 a2 a3 a4).2⟩
  have HD3 : Hid (alikeG (aw18 a0 a1 a2 a3 a4) ⟨some ⟨g, 0, none⟩, D.ncap, ds, D.rA, D.rcap, D.rs⟩ = false) := Lib.hid (awD_alike (aw18_v a0 a1 a2 a3 a4) rfl hvd HQD.out)
  have P9 := Lib.hid (pers_blk hb9)
  replace HX := Lib.hid (HX.out.trans hx9)

  replace P5 := Lib.hid (P5.out.re hx9)
  replace P7 := Lib.hid (P7.out.re hx9)
  replace P8 := Lib.hid (P8.out.re hx9)
  replace HG := Lib.hid (HG.out.ext hx9)
  replace HGH := Lib.hid (HGH.out.ext hx9)
  replace I9 := Lib.hid (I9.out.ext hx9)
  replace HGK := Lib.hid (HGK.out.ext hx9)
  clear hx9 hb9 hog HOD HX8
  have Z0 := match_any (aw18 a0 a1 a2 a3 a4) ⟨some ⟨g, 0, none⟩, D.ncap, ds, D.rA, D.rcap, D.rs⟩ _ HG.out HD1.out HK.out HD2.out
  have hmt : mtS (aw18 a0 a1 a2 a3 a4) ⟨some ⟨g, 0, none⟩, D.ncap, ds, D.rA, D.rcap, D.rs⟩ = [] := by rw [mtS, HD3.out]; rfl
  unfold RetMt at Z0
  rw [HD3.out, hmt] at Z0
  simp only [hld, hd1] at Z0
  have Z := Z0
  refine Z.mono ?_
  clear Z
  rintro e w9 ⟨A10, c10, rfl, -, hx⟩
  replace P5 := Lib.hid (P5.out.re hx)
  replace P7 := Lib.hid (P7.out.re hx)
  replace P8 := Lib.hid (P8.out.re hx)
  replace P9 := Lib.hid (P9.out.re hx)
  replace HX := Lib.hid (HX.out.trans hx)
  replace HG := Lib.hid (HG.out.ext hx)
  replace HGH := Lib.hid (HGH.out.ext hx)
  replace I9 := Lib.hid (I9.out.ext hx)
  replace HGK := Lib.hid (HGK.out.ext hx)
  replace HD1 := Lib.hid (HD1.out.ext hx)
  clear hx
  clear Z0 hmt
  obtain ⟨kb, koff, hkA, hkc⟩ := HGK.out.nodes.row.get (by omega)
  obtain ⟨kr, kroff, hkR, hkrc⟩ := HGK.out.roots.get (by omega)
  have KC := Lib.hid (nodes_cell hkc (k := 0) (by omega)).1
  have KR := Lib.hid (spans_cell hkrc (k := 0) (by omega)).2
  have hkk : (K.ns.getD 0 default).kind = 1 := by
    have e := HVK.out
    have h0 : (K.ns.map nodeV)[0]? = some (1, [(2, 1)], []) := by rw [e]; rfl
    rw [List.getElem?_map, List.getElem?_eq_getElem (by omega)] at h0
    injection h0 with h0
    rw [getD_get (by omega)]
    exact congrArg Prod.fst h0
  have hkx : (K.rs.getD 0 (0, 0)).2 = 0 := by rw [HQK.out]; rfl
  rw [hkk, Nat.zero_mul, Nat.add_zero] at KC
  rw [hkx, Nat.zero_mul, Nat.add_zero] at KR
  simp only [List.length_nil]
  clear hkc hkrc hkk hkx
  go_wp2_with fail
  have Q10 := Lib.hid (pers_new w9 #[.int .i64 1, .int .i64 2, .int .i64 0] 3 _ rfl)
  have hy := (Ext.refl w9).alloc (.cells #[.int .i64 1, .int .i64 2, .int .i64 0] 3)
  replace P5 := Lib.hid (P5.out.re hy)
  replace P7 := Lib.hid (P7.out.re hy)
  replace P8 := Lib.hid (P8.out.re hy)
  replace P9 := Lib.hid (P9.out.re hy)
  replace HX := Lib.hid (HX.out.trans hy)
  replace HG := Lib.hid (HG.out.ext hy)
  replace HGH := Lib.hid (HGH.out.ext hy)
  replace I9 := Lib.hid (I9.out.ext hy)
  replace HGK := Lib.hid (HGK.out.ext hy)
  replace HD1 := Lib.hid (HD1.out.ext hy)
  replace KC := Lib.hid (hy.cell KC.out)
  replace KR := Lib.hid (hy.cell KR.out)
  clear hy
  generalize w9.alloc (.cells #[.int .i64 1, .int .i64 2, .int .i64 0] 3) = W9 at *
  generalize w9.heap.size = a10 at *
  have Z := ints_is A9 (some ⟨a10, 0, none⟩) c9 3 [1, 2, 0] [1, 2, 0] true (by simp) _ (by simp) (by simp) I9.out (row_block Q10.out.here rfl intCells (by decide))
  refine Z.mono ?_
  clear Z
  rintro e w10 ⟨rfl, hx⟩
  replace P5 := Lib.hid (P5.out.re hx)
  replace P7 := Lib.hid (P7.out.re hx)
  replace P8 := Lib.hid (P8.out.re hx)
  replace P9 := Lib.hid (P9.out.re hx)
  replace HX := Lib.hid (HX.out.trans hx)
  replace HG := Lib.hid (HG.out.ext hx)
  replace HGH := Lib.hid (HGH.out.ext hx)
  replace I9 := Lib.hid (I9.out.ext hx)
  replace HGK := Lib.hid (HGK.out.ext hx)
  replace HD1 := Lib.hid (HD1.out.ext hx)
  have KC2 := Lib.hid (hx.cell KC.out)
  have KR2 := Lib.hid (hx.cell KR.out)
  clear hx
  have c0 := KC2.out
  have c1 := KR2.out
  have k5 := (cells_of P5.out.here).1
  have k7 := (cells_of P7.out.here).1
  have k8 := (cells_of P8.out.here).1
  rw [hkA, hkR] at k8
  go_wp2_with fail
  clear c0 c1 k5 k7 k8
  have Z := alike_is (aw18 a0 a1 a2 a3 a4) H true HAL.out.1 _ HG.out HGH.out HK.out HRH.out.1
  refine Z.mono ?_
  clear Z
  rintro e w11 ⟨rfl, hx⟩
  replace P5 := Lib.hid (P5.out.re hx)
  replace P7 := Lib.hid (P7.out.re hx)
  replace P8 := Lib.hid (P8.out.re hx)
  replace P9 := Lib.hid (P9.out.re hx)
  replace HX := Lib.hid (HX.out.trans hx)
  replace HG := Lib.hid (HG.out.ext hx)
  replace HGH := Lib.hid (HGH.out.ext hx)
  replace I9 := Lib.hid (I9.out.ext hx)
  replace HGK := Lib.hid (HGK.out.ext hx)
  replace HD1 := Lib.hid (HD1.out.ext hx)
  clear hx
  have k5 := (cells_of P5.out.here).1
  have k9 := (cells_of P9.out.here).1
  go_wp2_with fail
  clear k5 k9
  have Z0 := alike_is (aw18 a0 a1 a2 a3 a4) ⟨some ⟨g, 0, none⟩, D.ncap, ds, D.rA, D.rcap, D.rs⟩ false HD3.out _ HG.out HD1.out HK.out HD2.out
  simp only [hld, hd1] at Z0
  have Z := Z0
  refine Z.mono ?_
  clear Z
  rintro e w12 ⟨rfl, hx⟩
  replace P5 := Lib.hid (P5.out.re hx)
  replace P7 := Lib.hid (P7.out.re hx)
  replace P8 := Lib.hid (P8.out.re hx)
  replace P9 := Lib.hid (P9.out.re hx)
  replace HX := Lib.hid (HX.out.trans hx)
  replace HG := Lib.hid (HG.out.ext hx)
  replace HGH := Lib.hid (HGH.out.ext hx)
  replace I9 := Lib.hid (I9.out.ext hx)
  replace HGK := Lib.hid (HGK.out.ext hx)
  replace HD1 := Lib.hid (HD1.out.ext hx)
  clear hx
  clear Z0
  go_wp2_with fail
  go_returns
  exact ⟨rfl, HX.out⟩
end Go.Proofs.Ytphpppjfogpohaa

