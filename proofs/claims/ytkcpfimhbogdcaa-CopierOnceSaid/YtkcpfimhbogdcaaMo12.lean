/- Merged by program (merge.py) out of: RfD. -/
import Derived.Test.YtkcpfimhbogdcaaMo11
import Derived.Test.YtkcpfimhbogdcaaMo7
/- How many words and fields the reference's walk has: ref09.Sums. -/
set_option linter.unusedSimpArgs false
set_option linter.unusedVariables false
namespace Go.Proofs.Ytkcpfimhbogdcaa
open Go.RowKit Go.Shelf

theorem steps_headF (l : Option (List Int)) (top : Int) : ∀ (n : Nat) (i : Int) (x : Stp), x ∈ stepsF l top n i → x.last = false → x.h = headH l x.at_ ∧ i ≤ x.at_ ∧ x.at_ < top := by
  intro n
  induction n with
  | zero => intro i x hx hl; simp only [stepsF, List.mem_singleton] at hx; subst hx; cases hl
  | succ n ih =>
    intro i x hx hl
    rw [stepsF] at hx
    split at hx
    · split at hx
      · rename_i h1 h2
        rcases List.mem_cons.1 hx with rfl | hx
        · exact ⟨rfl, Int.le_refl _, h1⟩
        · obtain ⟨h3, h4, h5⟩ := ih _ _ hx hl
          have := head_size (wkE_head h2).1
          exact ⟨h3, by omega, h5⟩
      · simp only [List.mem_singleton] at hx; subst hx; cases hl
    · simp only [List.mem_singleton] at hx; subst hx; cases hl
/-- How many words and fields the objects at some places have. -/
def rsumP (l : Option (List Int)) (ps : List Int) : Int × Int := ps.foldl (fun t x => (wrap64 (t.1 + hsize (headH l x)), wrap64 (t.2 + (headH l x).f))) (0, 0)
theorem rsumP_snoc (l : Option (List Int)) (ps : List Int) (x : Int) : rsumP l (ps ++ [x]) = (wrap64 ((rsumP l ps).1 + hsize (headH l x)), wrap64 ((rsumP l ps).2 + (headH l x).f)) := by simp [rsumP]
theorem sums_fold (l : Option (List Int)) : ∀ (xs : List Stp) (c a b : Int), (∀ x ∈ xs, x.h = headH l x.at_) → 0 ≤ c → c + xs.length ≤ 9223372036854775807 →
    xs.foldl (fun (t : Int × Int × Int) x => (wrap64 (t.1 + 1), wrap64 (t.2.1 + hsize x.h), wrap64 (t.2.2 + x.h.f))) (c, a, b) =
      (c + xs.length, (xs.map (·.at_)).foldl (fun t x => (wrap64 (t.1 + hsize (headH l x)), wrap64 (t.2 + (headH l x).f))) (a, b)) := by
  intro xs
  induction xs with
  | nil => intro c a b _ _ _; simp
  | cons x xs ih =>
    intro c a b h h0 hn
    simp only [List.length_cons, Int.natCast_add, Int.cast_ofNat_Int] at hn
    have hw : wrap64 (c + 1) = c + 1 := IntWalk.wrap64_in _ ⟨by omega, by omega⟩
    rw [List.foldl_cons, List.map_cons, List.foldl_cons]
    simp only
    rw [hw, ih (c + 1) _ _ (fun y hy => h y (List.mem_cons_of_mem _ hy)) (by omega) (by omega), h x (List.mem_cons_self ..)]
    simp only [List.length_cons, Int.natCast_add, Int.cast_ofNat_Int, Prod.mk.injEq, and_true]
    omega
theorem walk_bd {l : Option (List Int)} {a s top : Int} (h : stopE l a s top = 0) : 0 ≤ a ∧ a ≤ top ∧ top ≤ 2199023255552 := by
  have hk : wkB a s top = true := by
    cases hh : wkB a s top
    · rw [stopE, hh] at h; simp at h
    · rfl
  obtain ⟨hm, ht⟩ : mayB a s = true ∧ (a ≤ top ∧ top ≤ a + s) := by simpa [wkB] using hk
  have := may_bd hm
  omega
theorem list_bd {l : Option (List Int)} {a s top x : Int} (h : x ∈ listA l a s top) : a ≤ x ∧ x < top ∧ 0 ≤ x ∧ x < 2199023255552 := by
  rw [listA] at h
  split at h
  · rename_i h0
    have := walk_bd h0
    rw [placesL] at h
    obtain ⟨y, hy, rfl⟩ := List.mem_map.1 h
    obtain ⟨hy, hl⟩ := List.mem_filter.1 hy
    have := steps_headF _ _ _ _ _ hy (by simpa using hl)
    omega
  · simp at h
theorem list_len (l : Option (List Int)) (a s top : Int) : (listA l a s top).length ≤ 2199023255553 := by
  rw [listA]
  split
  · rename_i h0
    have := walk_bd h0
    have h1 := places_len (stepsA l top a)
    have h2 := steps_len l top (top - a).toNat a
    rw [← stepsA] at h2
    omega
  · simp
/-- A walk's sums are those of its places. -/
theorem wsum_r (l : Option (List Int)) (a s top : Int) : wsumA l a s top = (((listA l a s top).length : Int), rsumP l (listA l a s top)) := by
  rw [wsumA]
  by_cases h0 : stopE l a s top = 0
  · have hb := walk_bd h0
    have hlen := list_len l a s top
    rw [if_pos h0, listA, if_pos h0, placesL, sumsP, rsumP]
    rw [listA, if_pos h0, placesL, List.length_map] at hlen
    rw [sums_fold l ((stepsA l top a).filter fun x => !x.last) 0 0 0 (fun x hx => (steps_headF l top _ a x (List.mem_filter.1 hx).1 (by simpa using (List.mem_filter.1 hx).2)).1) (by omega) (by omega)]
    simp
  · rw [if_neg h0, listA, if_neg h0]; rfl
set_option maxRecDepth 100000
set_option maxHeartbeats 2000000
theorem refsums_any (A : Option Addr) (cap : Nat) (ws : List Int) (a s top : Int) (V : World) (hl : WordsAt V A ws) (hlen : ws.length ≤ 98304) (hbd : ∀ z ∈ ws, 0 ≤ z ∧ z < 18446744073709551616) :
    Calls Try.prog 20 #[.slice A ws.length cap, .agg #[.int .i64 (a), .int .i64 (s)], .int .i64 top] V fun e w' => e = .returned (.tuple #[.int .i64 (wsumA (some ws) a s top).1, .int .i64 (wsumA (some ws) a s top).2.1, .int .i64 (wsumA (some ws) a s top).2.2, .int .i64 (stopE (some ws) a s top)]) ∧ Ext V w' := by
  rw [wsum_r]
  simp only
  have HL := pers_row hl
  have HLN := Lib.hid hlen
  have HBD := Lib.hid hbd
  have hzl := list_len (some ws) a s top
  have HZB := Lib.hid (fun x (h : x ∈ listA (some ws) a s top) => list_bd h)
  obtain ⟨x0, hx0⟩ : ∃ x, stopA (some ws) a s top = x := ⟨_, rfl⟩
  obtain ⟨er, her⟩ : ∃ x, stopE (some ws) a s top = x := ⟨_, rfl⟩
  have Z := refwalk_any A cap ws a s top (V.alloc (.cells #[.int .i64 a, .int .i64 s] 23)) (HL.at ((Ext.refl V).alloc _)) HLN.out HBD.out
  rw [hx0, her] at Z
  rw [her]
  generalize listA (some ws) a s top = zs at *
  have HX := Lib.hid ((Ext.refl V).alloc (.cells #[.int .i64 a, .int .i64 s] 23))
  clear hl hlen hbd hx0 her
  go_enter Try.func20, Try.ntmps20
  go_wp2_with fail
  refine Z.mono ?_
  clear Z
  rintro e W ⟨A1, cap1, rfl, hz, hx⟩
  replace HX := Lib.hid (HX.out.trans hx)
  replace HL := HL.re HX.out
  have HZ := pers_row hz
  have hxw := Ext.refl W
  clear hz hx
  go_wp2_with fail
  go_loopw [13, 14, 15, 16, 17] (fun p q i _ _ wr => ∃ k : Nat, k ≤ zs.length ∧ i = .int .i64 k ∧ p = .int .i64 (rsumP (some ws) (zs.take k)).1 ∧ q = .int .i64 (rsumP (some ws) (zs.take k)).2 ∧ Ext W wr) (fun _ _ i _ _ _ => zs.length - (intOf i).toNat)
  case atStart => exact ⟨0, by omega, rfl, rfl, rfl, hxw⟩
  case round =>
    obtain ⟨k, hk, rfl, rfl, rfl, hxr⟩ := hrel
    by_cases hlt : k < zs.length
    rotate_left
    · have HT : Hid (zs.take k = zs) := Lib.hid (List.take_of_length_le (by omega))
      generalize zs.take k = ys at *
      go_wp2_with fail
      ((try simp only [Exit.inBlock, Exit.then]); refine bodyPost_ret (v := .tuple #[.int .i64 zs.length, .int .i64 (rsumP (some ws) ys).1, .int .i64 (rsumP (some ws) ys).2, .int .i64 er]) (by simp only [results, Try.results20]; go_simp) rfl ?_)
      exact ⟨by rw [HT.out], HX.out.trans hxr⟩
    obtain ⟨lb, off, rfl, hc⟩ := HZ.here.get (by omega)
    have c1 := pers_cell (ints_cell hc hlt)
    have ib1 : (k : Int) < (zs.length : Int) := by omega
    have hzb := HZB.out _ (getD_mem (d := 0) hlt)
    have HSN : Hid (rsumP (some ws) (zs.take (k + 1)) = _) := Lib.hid (by
      rw [List.take_succ_eq_append_getElem hlt, rsumP_snoc])
    have HGE : Hid (zs[k] = zs.getD k 0) := Lib.hid (by simp [hlt])
    rw [HGE.out] at HSN
    generalize zs.getD k 0 = z at *
    clear hc HZ HZB HGE
    obtain ⟨er2, her2⟩ : ∃ e, headE (some ws) z = e := ⟨_, rfl⟩
    obtain ⟨h, hh⟩ : ∃ h, headH (some ws) z = h := ⟨_, rfl⟩
    obtain ⟨n, hn⟩ : ∃ n, hsize h = n := ⟨_, rfl⟩
    rw [hh, hn] at HSN
    have HER := Lib.hid her2
    have HH := Lib.hid hh
    have HN := Lib.hid hn
    clear her2 hh hn
    generalize rsumP (some ws) (zs.take k) = t at *
    obtain ⟨t1, t2⟩ := t
    obtain ⟨u0, rfl⟩ : ∃ u : ExtOf W, wr = u.1 := ⟨⟨wr, hxr⟩, rfl⟩
    clear hxr
    go_wp2_with fail
    (refine (refhead_is A cap ws z er2 h HER.out HH.out _ (HL.at (by repeat (first | (with_reducible exact Ext.refl _) | (with_reducible exact ExtOf.ext _) | (with_reducible assumption) | (with_reducible refine Ext.drew ?_) | (with_reducible refine Ext.alloc ?_ _)))) HLN.out HBD.out ⟨by omega, by omega⟩).mono ?_; rintro e w2 ⟨rfl, hx⟩; replace hx := Ext.trans (a := W) (by repeat (first | (with_reducible exact Ext.refl _) | (with_reducible exact ExtOf.ext _) | (with_reducible assumption) | (with_reducible refine Ext.drew ?_) | (with_reducible refine Ext.alloc ?_ _))) hx)
    have HBH := pers_new w2 #[.int .i64 h.k, .int .i64 h.f, .int .i64 h.r, .bool h.m, .int .i64 h.c] 47 _ rfl
    replace hx := hx.alloc (.cells #[.int .i64 h.k, .int .i64 h.f, .int .i64 h.r, .bool h.m, .int .i64 h.c] 47)
    have HXX := Lib.hid hx
    clear c1 ib1
    go_wp2_with fail
    generalize w2.alloc (.cells #[.int .i64 h.k, .int .i64 h.f, .int .i64 h.r, .bool h.m, .int .i64 h.c] 47) = w3 at *
    generalize w2.heap.size = X at *
    have g1 := HBH.cells
    have hx3 := Ext.refl w3
    (refine (refhsize_is h n HN.out _).mono ?_; rintro e wq ⟨rfl, hx⟩; replace hx := Ext.trans (a := w3) (by repeat (first | (with_reducible exact Ext.refl _) | (with_reducible exact ExtOf.ext _) | (with_reducible assumption) | (with_reducible refine Ext.drew ?_) | (with_reducible refine Ext.alloc ?_ _))) hx; obtain ⟨uq, rfl⟩ : ∃ u : ExtOf w3, wq = u.1 := ⟨⟨wq, hx⟩, rfl⟩; clear hx; go_wp2_with fail)
    go_roundw
    case rel => exact ⟨k + 1, by omega, by go_num, by rw [HSN.out], by rw [HSN.out], HXX.out.trans uq.2⟩
    case measure => simp [intOf]; omega
end Go.Proofs.Ytkcpfimhbogdcaa

