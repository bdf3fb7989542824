/- Merged by program (merge.py) out of: RfC, RfD. -/
import Derived.Test.YtkcpfimhbogdcaaMw13
import Derived.Test.YtkcpfimhbogdcaaMw11
import Derived.Test.YtkcpfimhbogdcaaMw8
/- The reference's Walk. -/
set_option linter.unusedSimpArgs false
set_option linter.unusedVariables false
namespace Go.Proofs.Ytkcpfimhbogdcaa
open Go.RowKit Go.Shelf

theorem refmayS_is (a s : Int) (b : Bool) (h : mayB a s = b) (w : World) : Calls Try.prog 67 #[.agg #[.int .i64 (a), .int .i64 (s)]] w fun e w' => e = .returned (.bool b) ∧ Ext w w' := by
  rw [← h]; exact refmay_any a s w
theorem refhead_is (A : Option Addr) (cap : Nat) (ws : List Int) (i er : Int) (h : Hd) (h1 : headE (some ws) i = er) (h2 : headH (some ws) i = h) (V : World) (hl : WordsAt V A ws) (hlen : ws.length ≤ 98304) (hbd : ∀ z ∈ ws, 0 ≤ z ∧ z < 18446744073709551616) (hi : -9223372036854775808 ≤ i ∧ i ≤ 9223372036854775807) :
    Calls Try.prog 68 #[.slice A ws.length cap, .int .i64 i] V fun e w' => e = .returned (.tuple #[.agg #[.int .i64 h.k, .int .i64 h.f, .int .i64 h.r, .bool h.m, .int .i64 h.c], .int .i64 er]) ∧ Ext V w' := by
  rw [← h1, ← h2]; exact refhead_any A cap ws i V hl hlen hbd hi
/-- What a walk has met ahead of a place. -/
def MetW (l : Option (List Int)) (a top : Int) (out : List Int) (i : Int) : Prop := placesL (stepsA l top a) = out ++ placesL (stepsA l top i) ∧ lastS l top a = lastS l top i ∧ a ≤ i ∧ i ≤ top ∧ (out.length : Int) ≤ i - a
theorem MetW.start {l : Option (List Int)} {a top : Int} (h : a ≤ top) : MetW l a top [] a := ⟨rfl, rfl, Int.le_refl _, h, by simp⟩
theorem MetW.go {l : Option (List Int)} {a top i : Int} {out : List Int} (h : MetW l a top out i) (hi : i < top) (h2 : wkE l top i = 0) (hle : i + hsize (headH l i) ≤ top) : MetW l a top (out ++ [i]) (i + hsize (headH l i)) := by
  obtain ⟨h3, h4, h5, h6, h7⟩ := h
  have hg := steps_go hi h2
  have := head_size (wkE_head h2).1
  obtain ⟨pre, x, e1, -, -, -⟩ := steps_last l top _ (i + hsize (headH l i)) (Nat.le_refl _)
  refine ⟨?_, ?_, by omega, hle, by simp; omega⟩
  · rw [h3, hg]; simp [placesL]
  · rw [h4, lastS, lastS, hg, e1, ← List.cons_append]
    simp only [List.getLastD_eq_getLast?, List.getLast?_append, List.getLast?_singleton, Option.some_or, Option.getD_some]
theorem MetW.stop {l : Option (List Int)} {a top i : Int} {out : List Int} (h : MetW l a top out i) (hi : ¬ i < top) : placesL (stepsA l top a) = out ∧ lastS l top a = ⟨i, hd0, 0, true⟩ ∧ i = top := by
  obtain ⟨h3, h4, h5, h6, h7⟩ := h
  have he := steps_end (l := l) hi
  exact ⟨by rw [h3, he]; simp [placesL], by rw [h4, lastS, he]; rfl, by omega⟩
theorem MetW.err {l : Option (List Int)} {a top i : Int} {out : List Int} (h : MetW l a top out i) (hi : i < top) (h2 : wkE l top i ≠ 0) : lastS l top a = ⟨i, hd0, wkE l top i, true⟩ := by
  rw [h.2.1, lastS, steps_err hi h2]; rfl
/-- What comes back. -/
def RetWk (V : World) (zs : List Int) (x er : Int) (e : Ending) (w' : World) : Prop := ∃ A1 cap1, e = .returned (.tuple #[.slice A1 zs.length cap1, .int .i64 x, .int .i64 er]) ∧ IntsAt w' A1 zs ∧ Ext V w'
set_option maxRecDepth 100000
set_option maxHeartbeats 2000000
theorem refwalk_any (A : Option Addr) (cap : Nat) (ws : List Int) (a s top : Int) (V : World) (hl : WordsAt V A ws) (hlen : ws.length ≤ 98304) (hbd : ∀ z ∈ ws, 0 ≤ z ∧ z < 18446744073709551616) :
    Calls Try.prog 18 #[.slice A ws.length cap, .agg #[.int .i64 (a), .int .i64 (s)], .int .i64 top] V (RetWk V (listA (some ws) a s top) (stopA (some ws) a s top) (stopE (some ws) a s top)) := by
  have HL := Lib.hid hl
  have HLN := Lib.hid hlen
  have HBD := Lib.hid hbd
  have hb5 := blk_new V #[.int .i64 a, .int .i64 s] 23 _ rfl
  have HX := Lib.hid ((Ext.refl V).alloc (.cells #[.int .i64 a, .int .i64 s] 23))
  have HB5 := Lib.hid hb5
  obtain ⟨b, hb⟩ : ∃ b, mayB a s = b := ⟨_, rfl⟩
  have HB := Lib.hid hb
  clear hl hlen hbd hb5 hb
  go_enter Try.func18, Try.ntmps18
  go_wp2_with fail
  generalize V.alloc (.cells #[.int .i64 a, .int .i64 s] 23) = w4 at *
  refine (refmayS_is a s b HB.out w4).mono ?_
  rintro e w1 ⟨rfl, hx⟩
  have HX1 := Lib.hid (HX.out.trans hx)
  have HB6 := Lib.hid ((hx.block (lt_of_heap HB5.out)).trans HB5.out)
  clear hx HX HB5
  have g0 : w1.cell? ⟨V.heap.size, 0, none⟩ = some (.int .i64 a) := by simp [World.cell?, HB6.out]
  have g1 : w1.cell? ⟨V.heap.size, 1, none⟩ = some (.int .i64 s) := by simp [World.cell?, HB6.out]
  by_cases hk : wkB a s top = true
  rotate_left
  · have hk' : wkB a s top = false := by simpa using hk
    have h1 : stopE (some ws) a s top = 1 := by rw [stopE, hk']; rfl
    have HR : Hid (listA (some ws) a s top = [] ∧ stopE (some ws) a s top = 1 ∧ stopA (some ws) a s top = 0) := Lib.hid ⟨by rw [listA, h1]; rfl, h1, by rw [stopA, hk']; rfl⟩
    have HRET : Hid (∀ w', Ext V w' → RetWk V (listA (some ws) a s top) (stopA (some ws) a s top) (stopE (some ws) a s top) (.returned (.tuple #[.slice none 0 0, .int .i64 0, .int .i64 1])) w') := Lib.hid (fun w' hw => by
      rw [HR.out.1, HR.out.2.1, HR.out.2.2]
      exact ⟨none, 0, rfl, RowAt.none _ _ _, hw⟩)
    cases b
    · clear hk hk' h1
      go_wp2_with fail
      ((try simp only [Exit.inBlock, Exit.then]); refine bodyPost_ret (v := .tuple #[.slice none 0 0, .int .i64 0, .int .i64 1]) (by simp only [results, Try.results18]; go_simp) rfl ?_)
      exact HRET.out _ HX1.out
    · obtain ⟨m1, m2, m3, m4⟩ := may_bd HB.out
      have hw : wrap64 (a + s) = a + s := IntWalk.wrap64_in _ ⟨by omega, by omega⟩
      by_cases h2 : top < a
      · have d1 : decide (top < a) = true := by simpa using h2
        clear hk hk' h1
        go_wp2_with fail
        ((try simp only [Exit.inBlock, Exit.then]); refine bodyPost_ret (v := .tuple #[.slice none 0 0, .int .i64 0, .int .i64 1]) (by simp only [results, Try.results18]; go_simp) rfl ?_)
        exact HRET.out _ HX1.out
      · have d1 : decide (top < a) = false := by simpa using h2
        have d2 : decide (a + s < top) = true := by
          have := HB.out
          simp only [wkB, this, Bool.true_and, decide_eq_false_iff_not] at hk'
          simp only [decide_eq_true_eq]
          omega
        clear hk hk' h1
        go_wp2_with fail
        ((try simp only [Exit.inBlock, Exit.then]); refine bodyPost_ret (v := .tuple #[.slice none 0 0, .int .i64 0, .int .i64 1]) (by simp only [results, Try.results18]; go_simp) rfl ?_)
        exact HRET.out _ HX1.out
  obtain rfl : b = true := by
    have := HB.out
    unfold wkB at hk
    rw [this] at hk
    cases b
    · simp at hk
    · rfl
  obtain ⟨m1, m2, m3, m4⟩ := may_bd HB.out
  have hw : wrap64 (a + s) = a + s := IntWalk.wrap64_in _ ⟨by omega, by omega⟩
  obtain ⟨t1, t2⟩ : a ≤ top ∧ top ≤ a + s := by simpa [wkB, HB.out] using hk
  have d1 : decide (top < a) = false := by simp; omega
  have d2 : decide (a + s < top) = false := by simp; omega
  have HK := Lib.hid hk
  clear hk
  have HSA : Hid (stopA (some ws) a s top = (lastS (some ws) top a).at_ ∧ stopE (some ws) a s top = (lastS (some ws) top a).e) := Lib.hid (by rw [stopA, stopE, HK.out]; exact ⟨rfl, rfl⟩)
  have HLS : Hid (listA (some ws) a s top = if (lastS (some ws) top a).e = 0 then placesL (stepsA (some ws) top a) else []) := Lib.hid (by rw [listA, HSA.out.2])
  go_wp2_with fail
  go_loopw [9, 10, 11, 12, 13] (fun v j _ _ _ wr => ∃ (A1 : Option Addr) (cap1 m : Nat) (out : List Int) (i : Int), v = .slice A1 m cap1 ∧ j = .int .i64 i ∧ Hid (out.length = m) ∧ Hid (Own 3 1 intC wr V.heap.size (.slice A1 m cap1) out) ∧ Hid (MetW (some ws) a top out i) ∧ Hid (Ext V wr)) (fun _ j _ _ _ _ => (top - intOf j).toNat)
  case atStart => exact ⟨none, 0, 0, [], a, rfl, rfl, Lib.hid rfl, Lib.hid (Own.nil _ _ _ _ _), Lib.hid (MetW.start t1), HX1⟩
  case round =>
    obtain ⟨A1, cap1, m, out, i, rfl, rfl, HM, HO, HMW, HXR⟩ := hrel
    have hib : a ≤ i ∧ i ≤ top ∧ (m : Int) ≤ i - a := by
      have h := HMW.out
      have h2 := HM.out
      exact ⟨h.2.2.1, h.2.2.2.1, by rw [← h2]; exact h.2.2.2.2⟩
    obtain ⟨hi1, hi2, hi3⟩ := hib
    clear g0 g1 hw d1 d2 HX1 HB6
    by_cases hlt : i < top
    rotate_left
    · have d3 : decide (i < top) = false := by simpa using hlt
      obtain ⟨e1, e2, rfl⟩ := HMW.out.stop hlt
      have HRET : Hid (RetWk V (listA (some ws) a s i) (stopA (some ws) a s i) (stopE (some ws) a s i) (.returned (.tuple #[.slice A1 m cap1, .int .i64 i, .int .i64 0])) wr) := Lib.hid (by
        rw [HLS.out, HSA.out.1, HSA.out.2, e2, e1]
        obtain ⟨A2, cap2, hv, hrow, -⟩ := HO.out.form intCells (by decide)
        injection hv with h1 h2 h3
        subst h1 h3
        exact ⟨A1, cap1, by rw [if_pos rfl, HM.out], hrow, HXR.out⟩)
      clear e1 e2 hlt
      go_wp2_with fail
      ((try simp only [Exit.inBlock, Exit.then]); refine bodyPost_ret (v := .tuple #[.slice A1 m cap1, .int .i64 i, .int .i64 0]) (by simp only [results, Try.results18]; go_simp) rfl ?_)
      exact HRET.out
    have d3 : decide (i < top) = true := by simpa using hlt
    obtain ⟨er, her⟩ : ∃ e, headE (some ws) i = e := ⟨_, rfl⟩
    obtain ⟨h, hh⟩ : ∃ h, headH (some ws) i = h := ⟨_, rfl⟩
    obtain ⟨n, hn⟩ : ∃ n, hsize h = n := ⟨_, rfl⟩
    have HER := Lib.hid her
    have HH := Lib.hid hh
    have HN := Lib.hid hn
    have hnb := hsize_bd h
    rw [hn] at hnb
    have HWK : Hid (wkE (some ws) top i = if er = 0 then (if top - i < n then 2 else 0) else er) := Lib.hid (by rw [wkE, her, hh, hn])
    have HLT := Lib.hid hlt
    have HEE : Hid (∀ x, wkE (some ws) top i = x → x ≠ 0 → ∀ w', Ext V w' → RetWk V (listA (some ws) a s top) (stopA (some ws) a s top) (stopE (some ws) a s top) (.returned (.tuple #[.slice none 0 0, .int .i64 i, .int .i64 x])) w') := Lib.hid (fun x hx h0 w' hw' => by
      have e := HMW.out.err HLT.out (by rw [hx]; exact h0)
      rw [HLS.out, HSA.out.1, HSA.out.2, e, hx, if_neg h0]
      exact ⟨none, 0, rfl, RowAt.none _ _ _, hw'⟩)
    clear her hh hn hlt
    go_wp2_with fail
    have Z := refhead_is A cap ws i er h HER.out HH.out wr (HL.out.ext HXR.out) HLN.out HBD.out ⟨by omega, by omega⟩
    refine Z.mono ?_
    clear Z
    rintro e w2 ⟨rfl, hx⟩
    have HX2 := Lib.hid (HXR.out.trans hx)
    have HO2 := Lib.hid (HO.out.ext hx)
    clear hx HXR HO
    by_cases h0 : er = 0
    rotate_left
    · have hne : (er != 0) = true := by simpa using h0
      have HR := Lib.hid (HEE.out er (HWK.out.trans (if_neg h0)) h0)
      clear h0
      go_wp2_with fail
      ((try simp only [Exit.inBlock, Exit.then]); refine bodyPost_ret (v := .tuple #[.slice none 0 0, .int .i64 i, .int .i64 er]) (by simp only [results, Try.results18]; go_simp) rfl ?_)
      exact HR.out _ (HX2.out.alloc _)
    subst h0
    have HW2 : Hid (wkE (some ws) top i = if top - i < n then 2 else 0) := Lib.hid (HWK.out.trans (if_pos rfl))
    have HBH := Lib.hid (blk_new w2 #[.int .i64 h.k, .int .i64 h.f, .int .i64 h.r, .bool h.m, .int .i64 h.c] 47 _ rfl)
    have HX3 := Lib.hid (HX2.out.alloc (.cells #[.int .i64 h.k, .int .i64 h.f, .int .i64 h.r, .bool h.m, .int .i64 h.c] 47))
    have HO3 := Lib.hid (HO2.out.ext ((Ext.refl w2).alloc (.cells #[.int .i64 h.k, .int .i64 h.f, .int .i64 h.r, .bool h.m, .int .i64 h.c] 47)))
    clear HWK HX2 HO2
    go_wp2_with fail
    generalize w2.alloc (.cells #[.int .i64 h.k, .int .i64 h.f, .int .i64 h.r, .bool h.m, .int .i64 h.c] 47) = w3 at *
    generalize w2.heap.size = X at *
    have Z := refhsize_is h n HN.out w3
    refine Z.mono ?_
    clear Z
    rintro e w5 ⟨rfl, hx⟩
    have HX5 := Lib.hid (HX3.out.trans hx)
    have HO5 := Lib.hid (HO3.out.ext hx)
    clear hx HX3 HO3 HBH
    have hw : wrap64 (i + n) = i + n := IntWalk.wrap64_in _ ⟨by omega, by omega⟩
    by_cases hs : top - i < n
    · have d5 : decide (top < i + n) = true := by simp; omega
      have HR := Lib.hid (HEE.out 2 (HW2.out.trans (if_pos hs)) (by decide))
      clear hs
      go_wp2_with fail
      ((try simp only [Exit.inBlock, Exit.then]); refine bodyPost_ret (v := .tuple #[.slice none 0 0, .int .i64 i, .int .i64 2]) (by simp only [results, Try.results18]; go_simp) rfl ?_)
      exact HR.out _ HX5.out
    · have d5 : decide (top < i + n) = false := by simp; omega
      have hle : i + n ≤ top := by omega
      have HMG : Hid (MetW (some ws) a top (out ++ [i]) (i + n)) := Lib.hid (by
        have h1 := HMW.out.go HLT.out (HW2.out.trans (if_neg hs))
        rw [HH.out, HN.out] at h1
        exact h1 hle)
      have hn1 : 1 ≤ n := by
        have h1 := HMG.out.2.2.2.2
        have h2 := head_size HER.out
        rw [HH.out, HN.out] at h2
        exact h2.1
      have hsz5 := Ext.size HX5.out
      clear hs HEE HW2
      go_wp2_with (at_builtin; refine wpList_app_lit rfl (.tmp 55) (.tmp 57) 24 rfl intInfo intCells rfl (by exact HO5.out) [i] 1 _ rfl (m + 1) 1 (by rw [HM.out]; rfl) rfl _ rfl (by first | rfl | simp) (by omega) (by simp [maxLen]; try omega) (by exact hsz5) ?_; intro A4 cap4 w6 hown4 hgr4 hat4; have HO6 := Lib.hid hown4; have HX6 : Hid (Ext V w6) := Lib.hid (Own.below HO5.out (Below.alloc HX5.out (by exact hsz5) _) hgr4 (by simp; omega)); clear hown4 hgr4 hat4)
      go_roundw
      case rel => exact ⟨A4, cap4, m + 1, out ++ [i], i + n, rfl, rfl, Lib.hid (by rw [List.length_append, HM.out]; rfl), HO6, HMG, HX6⟩
      case measure => simp [intOf]; omega
end Go.Proofs.Ytkcpfimhbogdcaa

/- How many words and fields the reference's walk has: ref09.Sums. -/
set_option linter.unusedSimpArgs false
set_option linter.unusedVariables false
namespace Go.Proofs.Ytkcpfimhbogdcaa
open Go.RowKit Go.Shelf

theorem steps_headF (l : Option (List Int)) (top : Int) : ∀ (n : Nat) (i : Int) (x : Stp), x ∈ stepsF l top n i → x.last = false → x.h = headH l x.at_ ∧ i ≤ x.at_ ∧ x.at_ < top := by
  intro n
  induction n with
  | zero => intro i x hx hl; simp only [stepsF, List.mem_singleton] at hx; subst hx; cases hl
  | succ n ih =>
    intro i x hx hl
    rw [stepsF] at hx
    split at hx
    · split at hx
      · rename_i h1 h2
        rcases List.mem_cons.1 hx with rfl | hx
        · exact ⟨rfl, Int.le_refl _, h1⟩
        · obtain ⟨h3, h4, h5⟩ := ih _ _ hx hl
          have := head_size (wkE_head h2).1
          exact ⟨h3, by omega, h5⟩
      · simp only [List.mem_singleton] at hx; subst hx; cases hl
    · simp only [List.mem_singleton] at hx; subst hx; cases hl
/-- How many words and fields the objects at some places have. -/
def rsumP (l : Option (List Int)) (ps : List Int) : Int × Int := ps.foldl (fun t x => (wrap64 (t.1 + hsize (headH l x)), wrap64 (t.2 + (headH l x).f))) (0, 0)
theorem rsumP_snoc (l : Option (List Int)) (ps : List Int) (x : Int) : rsumP l (ps ++ [x]) = (wrap64 ((rsumP l ps).1 + hsize (headH l x)), wrap64 ((rsumP l ps).2 + (headH l x).f)) := by simp [rsumP]
theorem sums_fold (l : Option (List Int)) : ∀ (xs : List Stp) (c a b : Int), (∀ x ∈ xs, x.h = headH l x.at_) → 0 ≤ c → c + xs.length ≤ 9223372036854775807 →
    xs.foldl (fun (t : Int × Int × Int) x => (wrap64 (t.1 + 1), wrap64 (t.2.1 + hsize x.h), wrap64 (t.2.2 + x.h.f))) (c, a, b) =
      (c + xs.length, (xs.map (·.at_)).foldl (fun t x => (wrap64 (t.1 + hsize (headH l x)), wrap64 (t.2 + (headH l x).f))) (a, b)) := by
  intro xs
  induction xs with
  | nil => intro c a b _ _ _; simp
  | cons x xs ih =>
    intro c a b h h0 hn
    simp only [List.length_cons, Int.natCast_add, Int.cast_ofNat_Int] at hn
    have hw : wrap64 (c + 1) = c + 1 := IntWalk.wrap64_in _ ⟨by omega, by omega⟩
    rw [List.foldl_cons, List.map_cons, List.foldl_cons]
    simp only
    rw [hw, ih (c + 1) _ _ (fun y hy => h y (List.mem_cons_of_mem _ hy)) (by omega) (by omega), h x (List.mem_cons_self ..)]
    simp only [List.length_cons, Int.natCast_add, Int.cast_ofNat_Int, Prod.mk.injEq, and_true]
    omega
theorem walk_bd {l : Option (List Int)} {a s top : Int} (h : stopE l a s top = 0) : 0 ≤ a ∧ a ≤ top ∧ top ≤ 2199023255552 := by
  have hk : wkB a s top = true := by
    cases hh : wkB a s top
    · rw [stopE, hh] at h; simp at h
    · rfl
  obtain ⟨hm, ht⟩ : mayB a s = true ∧ (a ≤ top ∧ top ≤ a + s) := by simpa [wkB] using hk
  have := may_bd hm
  omega
theorem list_bd {l : Option (List Int)} {a s top x : Int} (h : x ∈ listA l a s top) : a ≤ x ∧ x < top ∧ 0 ≤ x ∧ x < 2199023255552 := by
  rw [listA] at h
  split at h
  · rename_i h0
    have := walk_bd h0
    rw [placesL] at h
    obtain ⟨y, hy, rfl⟩ := List.mem_map.1 h
    obtain ⟨hy, hl⟩ := List.mem_filter.1 hy
    have := steps_headF _ _ _ _ _ hy (by simpa using hl)
    omega
  · simp at h
theorem list_len (l : Option (List Int)) (a s top : Int) : (listA l a s top).length ≤ 2199023255553 := by
  rw [listA]
  split
  · rename_i h0
    have := walk_bd h0
    have h1 := places_len (stepsA l top a)
    have h2 := steps_len l top (top - a).toNat a
    rw [← stepsA] at h2
    omega
  · simp
/-- A walk's sums are those of its places. -/
theorem wsum_r (l : Option (List Int)) (a s top : Int) : wsumA l a s top = (((listA l a s top).length : Int), rsumP l (listA l a s top)) := by
  rw [wsumA]
  by_cases h0 : stopE l a s top = 0
  · have hb := walk_bd h0
    have hlen := list_len l a s top
    rw [if_pos h0, listA, if_pos h0, placesL, sumsP, rsumP]
    rw [listA, if_pos h0, placesL, List.length_map] at hlen
    rw [sums_fold l ((stepsA l top a).filter fun x => !x.last) 0 0 0 (fun x hx => (steps_headF l top _ a x (List.mem_filter.1 hx).1 (by simpa using (List.mem_filter.1 hx).2)).1) (by omega) (by omega)]
    simp
  · rw [if_neg h0, listA, if_neg h0]; rfl
set_option maxRecDepth 100000
set_option maxHeartbeats 2000000
theorem refsums_any (A : Option Addr) (cap : Nat) (ws : List Int) (a s top : Int) (V : World) (hl : WordsAt V A ws) (hlen : ws.length ≤ 98304) (hbd : ∀ z ∈ ws, 0 ≤ z ∧ z < 18446744073709551616) :
    Calls Try.prog 20 #[.slice A ws.length cap, .agg #[.int .i64 (a), .int .i64 (s)], .int .i64 top] V fun e w' => e = .returned (.tuple #[.int .i64 (wsumA (some ws) a s top).1, .int .i64 (wsumA (some ws) a s top).2.1, .int .i64 (wsumA (some ws) a s top).2.2, .int .i64 (stopE (some ws) a s top)]) ∧ Ext V w' := by
  rw [wsum_r]
  simp only
  have HL := pers_row hl
  have HLN := Lib.hid hlen
  have HBD := Lib.hid hbd
  have hzl := list_len (some ws) a s top
  have HZB := Lib.hid (fun x (h : x ∈ listA (some ws) a s top) => list_bd h)
  obtain ⟨x0, hx0⟩ : ∃ x, stopA (some ws) a s top = x := ⟨_, rfl⟩
  obtain ⟨er, her⟩ : ∃ x, stopE (some ws) a s top = x := ⟨_, rfl⟩
  have Z := refwalk_any A cap ws a s top (V.alloc (.cells #[.int .i64 a, .int .i64 s] 23)) (HL.at ((Ext.refl V).alloc _)) HLN.out HBD.out
  rw [hx0, her] at Z
  rw [her]
  generalize listA (some ws) a s top = zs at *
  have HX := Lib.hid ((Ext.refl V).alloc (.cells #[.int .i64 a, .int .i64 s] 23))
  clear hl hlen hbd hx0 her
  go_enter Try.func20, Try.ntmps20
  go_wp2_with fail
  refine Z.mono ?_
  clear Z
  rintro e W ⟨A1, cap1, rfl, hz, hx⟩
  replace HX := Lib.hid (HX.out.trans hx)
  replace HL := HL.re HX.out
  have HZ := pers_row hz
  have hxw := Ext.refl W
  clear hz hx
  go_wp2_with fail
  go_loopw [13, 14, 15, 16, 17] (fun p q i _ _ wr => ∃ k : Nat, k ≤ zs.length ∧ i = .int .i64 k ∧ p = .int .i64 (rsumP (some ws) (zs.take k)).1 ∧ q = .int .i64 (rsumP (some ws) (zs.take k)).2 ∧ Ext W wr) (fun _ _ i _ _ _ => zs.length - (intOf i).toNat)
  case atStart => exact ⟨0, by omega, rfl, rfl, rfl, hxw⟩
  case round =>
    obtain ⟨k, hk, rfl, rfl, rfl, hxr⟩ := hrel
    by_cases hlt : k < zs.length
    rotate_left
    · have HT : Hid (zs.take k = zs) := Lib.hid (List.take_of_length_le (by omega))
      generalize zs.take k = ys at *
      go_wp2_with fail
      ((try simp only [Exit.inBlock, Exit.then]); refine bodyPost_ret (v := .tuple #[.int .i64 zs.length, .int .i64 (rsumP (some ws) ys).1, .int .i64 (rsumP (some ws) ys).2, .int .i64 er]) (by simp only [results, Try.results20]; go_simp) rfl ?_)
      exact ⟨by rw [HT.out], HX.out.trans hxr⟩
    obtain ⟨lb, off, rfl, hc⟩ := HZ.here.get (by omega)
    have c1 := pers_cell (ints_cell hc hlt)
    have ib1 : (k : Int) < (zs.length : Int) := by omega
    have hzb := HZB.out _ (getD_mem (d := 0) hlt)
    have HSN : Hid (rsumP (some ws) (zs.take (k + 1)) = _) := Lib.hid (by
      rw [List.take_succ_eq_append_getElem hlt, rsumP_snoc])
    have HGE : Hid (zs[k] = zs.getD k 0) := Lib.hid (by simp [hlt])
    rw [HGE.out] at HSN
    generalize zs.getD k 0 = z at *
    clear hc HZ HZB HGE
    obtain ⟨er2, her2⟩ : ∃ e, headE (some ws) z = e := ⟨_, rfl⟩
    obtain ⟨h, hh⟩ : ∃ h, headH (some ws) z = h := ⟨_, rfl⟩
    obtain ⟨n, hn⟩ : ∃ n, hsize h = n := ⟨_, rfl⟩
    rw [hh, hn] at HSN
    have HER := Lib.hid her2
    have HH := Lib.hid hh
    have HN := Lib.hid hn
    clear her2 hh hn
    generalize rsumP (some ws) (zs.take k) = t at *
    obtain ⟨t1, t2⟩ := t
    obtain ⟨u0, rfl⟩ : ∃ u : ExtOf W, wr = u.1 := ⟨⟨wr, hxr⟩, rfl⟩
    clear hxr
    go_wp2_with fail
    (refine (refhead_is A cap ws z er2 h HER.out HH.out _ (HL.at (by repeat (first | (with_reducible exact Ext.refl _) | (with_reducible exact ExtOf.ext _) | (with_reducible assumption) | (with_reducible refine Ext.drew ?_) | (with_reducible refine Ext.alloc ?_ _)))) HLN.out HBD.out ⟨by omega, by omega⟩).mono ?_; rintro e w2 ⟨rfl, hx⟩; replace hx := Ext.trans (a := W) (by repeat (first | (with_reducible exact Ext.refl _) | (with_reducible exact ExtOf.ext _) | (with_reducible assumption) | (with_reducible refine Ext.drew ?_) | (with_reducible refine Ext.alloc ?_ _))) hx)
    have HBH := pers_new w2 #[.int .i64 h.k, .int .i64 h.f, .int .i64 h.r, .bool h.m, .int .i64 h.c] 47 _ rfl
    replace hx := hx.alloc (.cells #[.int .i64 h.k, .int .i64 h.f, .int .i64 h.r, .bool h.m, .int .i64 h.c] 47)
    have HXX := Lib.hid hx
    clear c1 ib1
    go_wp2_with fail
    generalize w2.alloc (.cells #[.int .i64 h.k, .int .i64 h.f, .int .i64 h.r, .bool h.m, .int .i64 h.c] 47) = w3 at *
    generalize w2.heap.size = X at *
    have g1 := HBH.cells
    have hx3 := Ext.refl w3
    (refine (refhsize_is h n HN.out _).mono ?_; rintro e wq ⟨rfl, hx⟩; replace hx := Ext.trans (a := w3) (by repeat (first | (with_reducible exact Ext.refl _) | (with_reducible exact ExtOf.ext _) | (with_reducible assumption) | (with_reducible refine Ext.drew ?_) | (with_reducible refine Ext.alloc ?_ _))) hx; obtain ⟨uq, rfl⟩ : ∃ u : ExtOf w3, wq = u.1 := ⟨⟨wq, hx⟩, rfl⟩; clear hx; go_wp2_with fail)
    go_roundw
    case rel => exact ⟨k + 1, by omega, by go_num, by rw [HSN.out], by rw [HSN.out], HXX.out.trans uq.2⟩
    case measure => simp [intOf]; omega
end Go.Proofs.Ytkcpfimhbogdcaa

