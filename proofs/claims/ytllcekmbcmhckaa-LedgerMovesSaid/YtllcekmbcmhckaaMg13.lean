/- Merged by program (merge.py) out of: GapsW. -/
import Derived.Test.YtllcekmbcmhckaaMg11
import Derived.Test.YtllcekmbcmhckaaMg8
import Derived.Test.YtllcekmbcmhckaaMg12
/- The walk of span.Gaps. -/
set_option linter.unusedSimpArgs false
set_option linter.unusedVariables false
namespace Go.Proofs.Ytllcekmbcmhckaa
open Go.RowKit Go.Shelf
attribute [local go_sem] Oper.semAt_some

theorem join_may {xs : List (Int × Int)} {x : Int × Int} (h : x ∈ joinL xs) : mayB x.1 x.2 = true := by
  have hj := join_canon xs
  have h1 := hj.pos x h
  obtain ⟨y, _, hy, h2, _⟩ := covered_iff.1 ((hj.mem x.1).1 ⟨x, h, by omega, by omega⟩)
  obtain ⟨z, _, hz, _, h3⟩ := covered_iff.1 ((hj.mem (x.1 + x.2 - 1)).1 ⟨x, h, by omega, by omega⟩)
  have := may_bd hy
  have := may_bd hz
  simp only [mayB, decide_eq_true_eq]
  omega
/-- All begin ahead of b. -/
def Ahead (b : Int) (l : List (Int × Int)) : Prop := ∀ x ∈ l, x.1 < b
theorem foldG_len (a : Int) (l : List (Int × Int)) : (foldG a l).1.length ≤ l.length := by
  have : ∀ (l : List (Int × Int)) st, (l.foldl stepG st).1.length ≤ st.1.length + l.length := by
    intro l
    induction l with
    | nil => intro st; simp
    | cons x l ih =>
      intro st
      refine Nat.le_trans (ih _) ?_
      have : (stepG st x).1.length ≤ st.1.length + 1 := by unfold stepG; split <;> simp
      simp only [List.length_cons]
      omega
  simpa [foldG] using this l ([], a)
theorem foldG_bd (a : Int) {s : Int} {xs pre : List (Int × Int)} (hm : mayB a s = true) (h : pre <+: joinL xs) : a ≤ (foldG a pre).2 ∧ (foldG a pre).2 ≤ 1099511627776 := by
  have hj := join_canon xs
  have hinv := invG a (joinL xs) hj.pos hj.apart pre h
  have := may_bd hm
  refine ⟨hinv.ge, ?_⟩
  rcases hinv.att with h1 | ⟨y, hy, h1⟩
  · omega
  · have := may_bd (join_may (h.subset hy))
    omega
/-- The cells of the caller: what is left so far, from where on, and the whole. -/
structure GapI (V : World) (n0 Bo Ba T2 : Nat) (a s : Int) (st : List (Int × Int) × Int) (W : World) : Prop where
  coll : ∃ v, Coll n0 Bo 29 st.1 W v
  att : W.heap[Ba]? = some (.cells #[.int .i64 st.2] 3 (0, 0))
  all : W.heap[T2]? = some (.cells #[.int .i64 a, .int .i64 s] 23 (0, 0))
  ext : Ext V W
  size : n0 ≤ W.heap.size
theorem GapI.keep {V : World} {n0 Bo Ba T2 : Nat} {a s : Int} {st : List (Int × Int) × Int} {A B : World} (h : GapI V n0 Bo Ba T2 a s st A) (hV : V.heap.size ≤ n0) (ho : Bo < n0) (ha : Ba < n0) (ht : T2 < n0) (hb : Below n0 A B)
    (hk : ∀ (k : Nat) (o : Obj), A.heap[k]? = some o → o.isCells = true → Led A Bo k → B.heap[k]? = some o) : GapI V n0 Bo Ba T2 a s st B :=
  ⟨h.coll.imp fun v hv => hv.abI ho ⟨hb, hk⟩, (hb.block Ba ha).trans h.att, (hb.block T2 ht).trans h.all, Below.trans h.ext (Below.mono hb hV), Nat.le_trans h.size hb.size⟩
theorem gaps_no (a s : Int) (A : Option Addr) (cap : Nat) (xs : List (Int × Int)) (V : World) (hm : mayB a s = false) :
    Calls Try.prog 31 #[.agg #[.int .i64 (a), .int .i64 (s)], .slice A xs.length cap] V (fun e w' => ∃ zs, GapsOf a s xs zs ∧ RetS V V.heap.size zs e w') := by
  have HM := Lib.hid hm
  clear hm
  go_enter Try.func31, Try.ntmps31
  go_wp2_with fail
  refine (may_is a s _ HM.out _).mono ?_
  rintro e w1 ⟨rfl, hx1⟩
  have hx2 := ((Ext.refl V).alloc (.cells #[.int .i64 a, .int .i64 s] 23)).trans hx1
  clear hx1
  go_wp2_with fail
  go_ret
  exact ⟨[], Canon.nil (fun p hp => by have := hp.1; unfold hasB at this; rw [HM.out] at this; cases this), _, rfl, Own.nil _ _ _ _ _, hx2⟩

set_option maxRecDepth 100000 in
set_option maxHeartbeats 8000000 in
theorem gaps_yes (a s : Int) (A : Option Addr) (cap : Nat) (xs : List (Int × Int)) (V : World) (hm : mayB a s = true) (hlen : xs.length ≤ 1000000) (hl : SpansAt V A xs) :
    Calls Try.prog 31 #[.agg #[.int .i64 (a), .int .i64 (s)], .slice A xs.length cap] V (fun e w' => ∃ zs, GapsOf a s xs zs ∧ RetS V V.heap.size zs e w') := by
  have HM := Lib.hid hm
  obtain ⟨q1, q2, q3, q4⟩ := may_bd hm
  clear hm
  refine (callsIn_wide (n := 5)).1 ?_
  have hro : Fence.wide.round = none := rfl
  refine callsIn_of_wp_marks Try.func31 rfl trivial ?_ hro
  simp only [Try.ntmps31, List.size_toArray, List.length_cons, List.length_nil, Nat.reduceAdd, Nat.reduceSub, Array.replicate_succ, Array.replicate_zero, List.push_toArray, List.append_toArray, List.nil_append, List.cons_append]
  have k0 := fun w' => boxed V #[.int .i64 a, .int .i64 s] 23 0 (.int .i64 a) rfl w'
  have k1 := fun w' => boxed V #[.int .i64 a, .int .i64 s] 23 1 (.int .i64 s) rfl w'
  gi_wp2_with (first
    | (refine ⟨trivial, ?_⟩; gi_at_call 13; refine (callsIn_wide.2 (may_is a s _ HM.out _)).mono ?_; rintro e w1 ⟨rfl, hx1⟩; have b0 := k0 w1 hx1; have hz1 : V.heap.size < w1.heap.size := (by have := Ext.size hx1; simp at this; omega))
    | (refine ⟨trivial, ?_⟩; gi_at_call 62; refine (callsIn_wide.2 (rows_any _ _ _ _)).mono ?_; rintro e w' ⟨rfl, rfl⟩))
  have hw0 : Ext V (((w1.alloc (.cells #[.slice none 0 0] 29)).alloc (.cells #[.int .i64 a] 3)).alloc (.cells #[.slice A xs.length cap] 29)) := (((((Ext.refl V).alloc _).trans hx1).alloc _).alloc _).alloc _
  have hws : (((w1.alloc (.cells #[.slice none 0 0] 29)).alloc (.cells #[.int .i64 a] 3)).alloc (.cells #[.slice A xs.length cap] 29)).heap.size = w1.heap.size + 3 := by simp
  have hbo : (((w1.alloc (.cells #[.slice none 0 0] 29)).alloc (.cells #[.int .i64 a] 3)).alloc (.cells #[.slice A xs.length cap] 29)).heap[w1.heap.size]? = some (.cells #[.slice none 0 0] 29 (0, 0)) :=
    (Below.heap_alloc _ _ _ (by simp; omega)).trans ((Below.heap_alloc _ _ _ (by simp)).trans (World.alloc_heap_new _ _))
  have hba : (((w1.alloc (.cells #[.slice none 0 0] 29)).alloc (.cells #[.int .i64 a] 3)).alloc (.cells #[.slice A xs.length cap] 29)).heap[w1.heap.size + 1]? = some (.cells #[.int .i64 a] 3 (0, 0)) := by
    refine (Below.heap_alloc _ _ _ (by simp)).trans ?_
    have := World.alloc_heap_new (w1.alloc (.cells #[.slice none 0 0] 29)) (.cells #[.int .i64 a] 3)
    simpa using this
  have hbl : (((w1.alloc (.cells #[.slice none 0 0] 29)).alloc (.cells #[.int .i64 a] 3)).alloc (.cells #[.slice A xs.length cap] 29)).heap[w1.heap.size + 2]? = some (.cells #[.slice A xs.length cap] 29 (0, 0)) := by
    have := World.alloc_heap_new ((w1.alloc (.cells #[.slice none 0 0] 29)).alloc (.cells #[.int .i64 a] 3)) (.cells #[.slice A xs.length cap] 29)
    simpa using this
  have hbt : (((w1.alloc (.cells #[.slice none 0 0] 29)).alloc (.cells #[.int .i64 a] 3)).alloc (.cells #[.slice A xs.length cap] 29)).heap[V.heap.size]? = some (.cells #[.int .i64 a, .int .i64 s] 23 (0, 0)) := by
    refine (Below.heap_alloc _ _ _ (by simp; omega)).trans ((Below.heap_alloc _ _ _ (by simp; omega)).trans ((Below.heap_alloc _ _ _ hz1).trans ?_))
    exact (hx1.block (by simp)).trans (World.alloc_heap_new _ _)
  generalize ((w1.alloc (.cells #[.slice none 0 0] 29)).alloc (.cells #[.int .i64 a] 3)).alloc (.cells #[.slice A xs.length cap] 29) = w0 at *
  have hws1 := Nat.le_of_eq hws
  have hws2 := Nat.le_of_eq hws.symm
  clear b0 hx1 k0 k1 hws
  generalize w1.heap.size = Bo at *
  have hjl := joinL_length xs
  have hj := join_canon xs
  refine wpIn_range (gf := 82) (lb := #[.pointer (some ⟨Bo + 2, 0, none⟩)]) rfl (enters_of Try.func82 (by kernel_rfl) rfl)
    (rows1_stops V.heap.size (Bo + 2) Bo A cap xs w0 hlen (by omega) (by omega) (by simp [World.cell?, hbl]) (hl.ext hw0) (by omega) (by simp [World.cell?, hbo]))
    (by omega) (fun _ => rfl)
    (fun pre W => GapI V w0.heap.size Bo (Bo + 1) V.heap.size a s (foldG a pre) W ∧ Ahead (a + s) pre)
    (fun c pre W => c = .exit 0 ∧ ∃ pre' x, pre = pre' ++ [x] ∧ a + s ≤ x.1 ∧ Ahead (a + s) pre' ∧ GapI V w0.heap.size Bo (Bo + 1) V.heap.size a s (foldG a pre') W)
    (fun s A B h hab => ⟨h.1.keep (by omega) (by omega) (by omega) (by omega) hab.below hab.kept, h.2⟩)
    (fun c s A B h hab => by
      obtain ⟨hc, pre', x, h1, h2, h3, h4⟩ := h
      exact ⟨hc, pre', x, h1, h2, h3, h4.keep (by omega) (by omega) (by omega) (by omega) hab.below hab.kept⟩)
    ⟨⟨⟨_, hbo, Own.nil _ _ _ _ _⟩, hba, hbt, hw0, Nat.le_refl _⟩, by simp [Ahead]⟩
    (fun pre x a' W => GapI V w0.heap.size Bo (Bo + 1) V.heap.size a s (foldG a pre) W ∧ Ahead (a + s) pre ∧ ∃ X, w0.heap.size ≤ X ∧ W.heap[X]? = some (.cells #[.int .i64 x.1, .int .i64 x.2] 23 (0, 0)) ∧ ¬ Led W Bo X ∧
      a' = { tmps := #[.agg #[.int .i64 (a), .int .i64 (s)], .slice A xs.length cap, .pointer (some ⟨V.heap.size, 0, none⟩), undef, .slice none 0 0, .pointer (some ⟨Bo, 0, none⟩), .pointer (some ⟨Bo + 1, 0, none⟩), .pointer (some ⟨X, 0, none⟩), .agg #[.int .i64 (a), .int .i64 (s)], .bool true, .bool false, .pointer (some ⟨V.heap.size, 0, none⟩), .int .i64 a, .slice A xs.length cap, .func (.func 82) #[] #[.pointer (some ⟨Bo + 2, 0, none⟩)], .agg #[.int .i64 (x.1), .int .i64 (x.2)],
        undef, undef, undef, undef, undef, undef, undef, undef, undef, undef, undef, undef, undef, undef, undef, undef, undef, undef, undef, undef, undef, undef, undef, undef, undef, undef, undef, undef, undef, undef, undef, undef, undef, undef, undef, undef], defers := [] })
    ?hax ?assign ?body ?done ?stop
  case hax =>
    rintro pre x a' A B ⟨h1, h2, X, hX, hbX, hld, rfl⟩ hb hk
    refine ⟨h1.keep (by omega) (by omega) (by omega) (by omega) hb (fun k o ho hc _ => hk k o ho hc), h2, X, hX, hk X _ hbX rfl, fun hl => hld ?_, rfl⟩
    obtain ⟨n, c, hc⟩ := hl
    rw [Below.cell (p := ⟨Bo, 0, none⟩) hb (by simp only; omega)] at hc
    exact ⟨n, c, hc⟩
  case assign =>
    rintro l pre x W K ⟨h1, h2⟩ hK
    obtain ⟨v, hv⟩ := h1.coll
    have hsz := h1.size
    have H1 := Lib.hid h1
    have H2 := Lib.hid h2
    have HV := Lib.hid hv
    clear h1 h2 hv
    gi_wp2
    refine hK _ _ ⟨H1.out.keep (by omega) (by omega) (by omega) (by omega) ((Below.refl _ W).alloc hsz _) (fun k o ho _ _ => (Below.heap_alloc W _ k (lt_of_heap ho)).trans ho), H2.out, W.heap.size, hsz, World.alloc_heap_new _ _, fun hl => ?_, rfl⟩ ((KeepsOthers.alloc _ _).from _) (Kp.ext ((Below.refl _ W).alloc (Nat.le_refl _) _) (by omega) (by omega))
    have h3 := (led_ext (Bout := Bo) ((Ext.refl W).alloc (.cells #[.int .i64 x.1, .int .i64 x.2] 23)) (by omega)).1 hl
    rw [HV.out.led] at h3
    have := (World.ownsRow.lt HV.out.own _ h3).2
    omega
  case body =>
    rintro l pre x a' W ⟨hI, hp, X, hX, hbX, hld, rfl⟩ hgd
    have hxm := join_may (hgd.subset (List.mem_append_right pre (List.mem_singleton_self x)))
    have hinv := invG a (joinL xs) hj.pos hj.apart pre ((List.prefix_append _ _).trans hgd)
    have hat : a ≤ (foldG a pre).2 ∧ (foldG a pre).2 ≤ 1099511627776 := by
      refine ⟨hinv.ge, ?_⟩
      rcases hinv.att with h | ⟨y, hy, h⟩
      · omega
      · have := may_bd (join_may (hgd.subset (List.mem_append_left _ hy)))
        omega
    have hpl : pre.length < xs.length := by have := hgd.length_le; simp at this; omega
    have hol : (foldG a pre).1.length ≤ pre.length := foldG_len a pre
    obtain ⟨v, hv⟩ := hI.coll
    have HSN := Lib.hid (foldG_snoc a pre x)
    have HP := Lib.hid hp
    have HI := Lib.hid hI
    have hca := hI.att
    have hct := hI.all
    have hsz := hI.size
    have hEV := hI.ext
    have HV := Lib.hid hv
    clear hinv hI hgd hv hp
    generalize hst : foldG a pre = st at *
    obtain ⟨out, at0⟩ := st
    have HST := Lib.hid hst
    clear hst
    obtain ⟨x1, x2⟩ := x
    simp only at hat hca hxm hol hbX
    obtain ⟨p1, p2, p3, p4⟩ := may_bd hxm
    obtain ⟨p5, p6⟩ := hat
    have HXM := Lib.hid hxm
    clear hxm
    have hs0 : Ext W W := Ext.refl W
    have c0 : ∀ w', Ext W w' → w'.cell? ⟨X, 0, none⟩ = some (.int .i64 x1) := fun w' h => h.cell (by simp [World.cell?, hbX])
    have c1 : ∀ w', Ext W w' → w'.cell? ⟨X, 1, none⟩ = some (.int .i64 x2) := fun w' h => h.cell (by simp [World.cell?, hbX])
    have c2 : ∀ w', Ext W w' → w'.cell? ⟨Bo + 1, 0, none⟩ = some (.int .i64 at0) := fun w' h => h.cell (by simp [World.cell?, hca])
    have c3 : ∀ w', Ext W w' → w'.cell? ⟨V.heap.size, 0, none⟩ = some (.int .i64 a) := fun w' h => h.cell (by simp [World.cell?, hct])
    have c4 : ∀ w', Ext W w' → w'.cell? ⟨V.heap.size, 1, none⟩ = some (.int .i64 s) := fun w' h => h.cell (by simp [World.cell?, hct])
    have l0 := fun u : ExtOf W => c0 u.1 u.2
    have l1 := fun u : ExtOf W => c1 u.1 u.2
    have l2 := fun u : ExtOf W => c2 u.1 u.2
    have l3 := fun u : ExtOf W => c3 u.1 u.2
    have l4 := fun u : ExtOf W => c4 u.1 u.2
    have HX := Lib.hid hbX
    have HA := Lib.hid hca
    have HT := Lib.hid hct
    clear hbX hca hct
    by_cases hbr : a + s ≤ x1
    · have hbr' : decide (a + s ≤ x1) = true := by simpa using hbr
      gi_wp2
      (refine wpIn_region_ord (W := W) [(0, true), (1, true), (2, true), (3, false), (4, false)] [] [] (by kernel_rfl) (by kernel_rfl) (by kernel_rfl) (by intro a w h; exact h) (by intro c a d v w h; cases d <;> exact h) (by with_reducible assumption) ?_; simp only [opsOf, List.map_cons, List.map_nil, List.getD_cons_zero, List.getD_cons_succ]; (repeat (go_big_quiet_step (first | (go_at_call 58; with_reducible exact Calls.ext_of (end_is a s HM.out _))))); refine wpQuiet_nil ?_; intro w1 hx; refine mid_nil ?_)
      go_wp2_with fail
      gi_wp2
      exact ⟨keeps_ext hx, rfl, pre, (x1, x2), rfl, hbr, HP.out, by rw [HST.out]; exact HI.out.keep (by omega) (by omega) (by omega) (by omega) (Below.mono hx hsz) (fun k o ho _ _ => (hx.block (lt_of_heap ho)).trans ho)⟩
    · have hbr' : decide (a + s ≤ x1) = false := by simpa using hbr
      have HP2 : Hid (Ahead (a + s) (pre ++ [(x1, x2)])) := Lib.hid fun y hy => by
        rw [List.mem_append, List.mem_singleton] at hy
        rcases hy with hy | rfl
        · exact HP.out y hy
        · simp only; omega
      gi_wp2
      (refine wpIn_region_ord (W := W) [(0, true), (1, true), (2, true), (3, false), (4, false)] [] [] (by kernel_rfl) (by kernel_rfl) (by kernel_rfl) (by intro a w h; exact h) (by intro c a d v w h; cases d <;> exact h) (by with_reducible assumption) ?_; simp only [opsOf, List.map_cons, List.map_nil, List.getD_cons_zero, List.getD_cons_succ]; (repeat (go_big_quiet_step (first | (go_at_call 58; with_reducible exact Calls.ext_of (end_is a s HM.out _))))); refine wpQuiet_nil ?_; intro w1 hx; refine mid_nil ?_)
      by_cases ht : at0 < x1
      · -- a piece is left
        have HE := Lib.hid (show stepG (out, at0) (x1, x2) = (out ++ [(at0, x1 - at0)], max at0 (x1 + x2)) by simp [stepG, ht])
        obtain ⟨d1, d2⟩ := (HV.out.ext hx).cell
        have hszw : W.heap.size ≤ w1.heap.size := Ext.size hx
        go_wp2_with fail
        gi_wp2_with (gi_at_builtin; refine wpListIn_app_lit rfl (.tmp 25) (.tmp 32) 29 rfl spanInfo spanCells rfl (by exact (HV.out.ext hx).own) [(at0, x1 - at0)] 1 _ rfl (out.length + 1) 1 (by simp) rfl w1.heap.size rfl rfl (by omega) (by simp [maxLen]; omega) (by omega) ?_; intro A1 cap1 w2 hown1 hgr1 hat1; obtain ⟨⟨d1, d2⟩, hc2, hk2, hf2, ho2⟩ := Coll.app ((HV.out.ext hx).ext ((Ext.refl w1).alloc _)) (by omega) (nV := V.heap.size) (by omega) (by simp; omega) (by simp) hown1 hgr1 hat1; have HC2 := Lib.hid hc2; have HK2 := Lib.hid hk2; have HF2 := Lib.hid hf2; have HO2 := Lib.hid ho2; clear hc2 hk2 hf2 hown1 hgr1 hat1 ho2)
        have hvX : v.ownBlock ≠ some X := fun h => hld ((HV.out.led X).2 h)
        have hlX := lt_of_heap HX.out
        have KA : Hid (Kp V.heap.size w0.heap.size Bo W (w2.setCell ⟨Bo, 0, none⟩ (.slice A1 (out.length + 1) cap1))) := Lib.hid ((Kp.ext hx (by omega) (by omega)).trans ((Kp.ext ((Below.refl _ w1).alloc (Nat.le_refl _) _) (by omega) (by omega)).trans HK2.out))
        have KF : Hid (KeepsFrom w0.heap.size W (w2.setCell ⟨Bo, 0, none⟩ (.slice A1 (out.length + 1) cap1))) := Lib.hid ((keeps_ext hx).trans (((KeepsOthers.alloc _ _).from _).trans HF2.out))
        have CV := Lib.hid (⟨_, HC2.out⟩ : ∃ v', Coll w0.heap.size Bo 29 (out ++ [(at0, x1 - at0)]) (w2.setCell ⟨Bo, 0, none⟩ (.slice A1 (out.length + 1) cap1)) v')
        have hov : ∀ k, k < w0.heap.size → v.ownBlock ≠ some k := fun k hk h => by have := (World.ownsRow.lt HV.out.own k h).1; omega
        have same : ∀ k, k < W.heap.size → k ≠ Bo → v.ownBlock ≠ some k → (w2.setCell ⟨Bo, 0, none⟩ (.slice A1 (out.length + 1) cap1)).heap[k]? = W.heap[k]? := fun k h1 h2 h3 =>
          (HO2.out k (by simp; omega) h2 h3).trans ((Below.heap_alloc w1 _ k (by omega)).trans (hx.block h1))
        have HX3 := Lib.hid ((same X hlX (by omega) hvX).trans HX.out)
        have HA3 := Lib.hid ((same (Bo + 1) (by omega) (by omega) (hov _ (by omega))).trans HA.out)
        have HT3 := Lib.hid ((same V.heap.size (by omega) (by omega) (hov _ (by omega))).trans HT.out)
        clear same hov HC2 HK2 HF2 HO2 d1 d2 hvX hx
        generalize w2.setCell ⟨Bo, 0, none⟩ (.slice A1 (out.length + 1) cap1) = W3 at *
        clear l0 l1 l2 l3 l4 c0 c1 c2 c3 c4
        have hs3 : Ext W3 W3 := Ext.refl W3
        have l0 : ∀ u : ExtOf W3, u.1.cell? ⟨X, 0, none⟩ = some (.int .i64 x1) := fun u => u.2.cell (by simp [World.cell?, HX3.out])
        have l1 : ∀ u : ExtOf W3, u.1.cell? ⟨X, 1, none⟩ = some (.int .i64 x2) := fun u => u.2.cell (by simp [World.cell?, HX3.out])
        have l2 : ∀ u : ExtOf W3, u.1.cell? ⟨Bo + 1, 0, none⟩ = some (.int .i64 at0) := fun u => u.2.cell (by simp [World.cell?, HA3.out])
        have hsz3 : w0.heap.size ≤ W3.heap.size := by have := KA.out.below.size; omega
        (refine wpIn_region_ord (W := W3) [(0, true), (1, true), (2, false), (3, false)] [] [4] (by kernel_rfl) (by kernel_rfl) (by kernel_rfl) (by intro a w h; exact h) (by intro c a d v w h; cases d <;> exact h) (by with_reducible assumption) ?_; simp only [opsOf, List.map_cons, List.map_nil, List.getD_cons_zero, List.getD_cons_succ]; (repeat (go_big_quiet_step (first | (go_at_call 58; with_reducible exact Calls.ext_of (end_is x1 x2 HXM.out _))))); refine wpQuiet_nil ?_; intro w1 hx; refine mid_nil ?_)
        have ha4 := (hx.block (lt_of_heap HA3.out)).trans HA3.out
        have e1 : w1.cell? ⟨Bo + 1, 0, none⟩ = some (.int .i64 at0) := by simp [World.cell?, ha4]
        have e2 : w1.frozen? ⟨Bo + 1, 0, none⟩ = false := by simp [World.frozen?, ha4]
        have HA4 := Lib.hid ha4
        have HX4 := Lib.hid hx
        clear ha4 hx
        go_wp2_with fail
        all_goals (try gi_wp2)
        all_goals
          have hk : ∀ u, Kp V.heap.size w0.heap.size Bo W (w1.setCell ⟨Bo + 1, 0, none⟩ u) := fun u => KA.out.trans ((Kp.ext HX4.out (by omega) (by omega)).trans (Kp.setLow (by omega) (by omega) (by omega)))
          refine ⟨KF.out.trans ((keeps_ext HX4.out).trans ((KeepsOthers.setCell _ _ _).from _)), hk _, ?_, HP2.out⟩
          rw [HSN.out, HE.out]
          obtain ⟨v3, hv3⟩ := CV.out
          refine ⟨⟨v3, (hv3.ext HX4.out).setOther _ (by omega) (by omega)⟩, ?_, ?_, Below.trans hEV (hk _).below, by have := (hk (.int .i64 0)).below.size; simp at this ⊢; omega⟩
          · rw [heap_setCell_same w1 (Bo + 1) 0 _ _ _ HA4.out]
            refine congrArg (fun z => some (Obj.cells #[Value.int IntKind.i64 z] 3 (0, 0))) ?_
            first | (simp only; omega) | (simp only; split <;> omega) | omega | (split <;> omega)
          · exact (Below.heap_setCell w1 ⟨Bo + 1, 0, none⟩ _ V.heap.size (by simp only; omega)).trans ((HX4.out.block (lt_of_heap HT3.out)).trans HT3.out)
      · have HE := Lib.hid (show stepG (out, at0) (x1, x2) = (out, max at0 (x1 + x2)) by simp [stepG, ht])
        have hlX := lt_of_heap HX.out
        go_wp2_with fail
        gi_wp2
        have KA : Hid (Kp V.heap.size w0.heap.size Bo W w1) := Lib.hid (Kp.ext hx (by omega) (by omega))
        have KF : Hid (KeepsFrom w0.heap.size W w1) := Lib.hid (keeps_ext hx)
        have CV := Lib.hid (⟨_, HV.out.ext hx⟩ : ∃ v', Coll w0.heap.size Bo 29 out w1 v')
        have HX3 := Lib.hid ((hx.block hlX).trans HX.out)
        have HA3 := Lib.hid ((hx.block (show Bo + 1 < W.heap.size by omega)).trans HA.out)
        have HT3 := Lib.hid ((hx.block (show V.heap.size < W.heap.size by omega)).trans HT.out)
        clear hx
        generalize w1 = W3 at *
        clear l0 l1 l2 l3 l4 c0 c1 c2 c3 c4
        have hs3 : Ext W3 W3 := Ext.refl W3
        have l0 : ∀ u : ExtOf W3, u.1.cell? ⟨X, 0, none⟩ = some (.int .i64 x1) := fun u => u.2.cell (by simp [World.cell?, HX3.out])
        have l1 : ∀ u : ExtOf W3, u.1.cell? ⟨X, 1, none⟩ = some (.int .i64 x2) := fun u => u.2.cell (by simp [World.cell?, HX3.out])
        have l2 : ∀ u : ExtOf W3, u.1.cell? ⟨Bo + 1, 0, none⟩ = some (.int .i64 at0) := fun u => u.2.cell (by simp [World.cell?, HA3.out])
        have hsz3 : w0.heap.size ≤ W3.heap.size := by have := KA.out.below.size; omega
        (refine wpIn_region_ord (W := W3) [(0, true), (1, true), (2, false), (3, false)] [] [4] (by kernel_rfl) (by kernel_rfl) (by kernel_rfl) (by intro a w h; exact h) (by intro c a d v w h; cases d <;> exact h) (by with_reducible assumption) ?_; simp only [opsOf, List.map_cons, List.map_nil, List.getD_cons_zero, List.getD_cons_succ]; (repeat (go_big_quiet_step (first | (go_at_call 58; with_reducible exact Calls.ext_of (end_is x1 x2 HXM.out _))))); refine wpQuiet_nil ?_; intro w1 hx; refine mid_nil ?_)
        have ha4 := (hx.block (lt_of_heap HA3.out)).trans HA3.out
        have e1 : w1.cell? ⟨Bo + 1, 0, none⟩ = some (.int .i64 at0) := by simp [World.cell?, ha4]
        have e2 : w1.frozen? ⟨Bo + 1, 0, none⟩ = false := by simp [World.frozen?, ha4]
        have HA4 := Lib.hid ha4
        have HX4 := Lib.hid hx
        clear ha4 hx
        go_wp2_with fail
        all_goals (try gi_wp2)
        all_goals
          have hk : ∀ u, Kp V.heap.size w0.heap.size Bo W (w1.setCell ⟨Bo + 1, 0, none⟩ u) := fun u => KA.out.trans ((Kp.ext HX4.out (by omega) (by omega)).trans (Kp.setLow (by omega) (by omega) (by omega)))
          refine ⟨KF.out.trans ((keeps_ext HX4.out).trans ((KeepsOthers.setCell _ _ _).from _)), hk _, ?_, HP2.out⟩
          rw [HSN.out, HE.out]
          obtain ⟨v3, hv3⟩ := CV.out
          refine ⟨⟨v3, (hv3.ext HX4.out).setOther _ (by omega) (by omega)⟩, ?_, ?_, Below.trans hEV (hk _).below, by have := (hk (.int .i64 0)).below.size; simp at this ⊢; omega⟩
          · rw [heap_setCell_same w1 (Bo + 1) 0 _ _ _ HA4.out]
            refine congrArg (fun z => some (Obj.cells #[Value.int IntKind.i64 z] 3 (0, 0))) ?_
            first | (simp only; omega) | (simp only; split <;> omega) | omega | (split <;> omega)
          · exact (Below.heap_setCell w1 ⟨Bo + 1, 0, none⟩ _ V.heap.size (by simp only; omega)).trans ((HX4.out.block (lt_of_heap HT3.out)).trans HT3.out)
  case done =>
    rintro D ys W hD rfl ⟨hI, hp⟩ hK
    have hgx : joinL xs <+: joinL xs := List.prefix_refl _
    have hG := gaps_all HM.out hj hgx hp (.inl rfl)
    have hat := foldG_bd a HM.out hgx
    have hpl := hjl
    obtain ⟨v, hv⟩ := hI.coll
    have hsz := hI.size
    have hEV := hI.ext
    have hca := hI.att
    have hct := hI.all
    have HV := Lib.hid hv
    have HG := Lib.hid hG
    have HK := Lib.hid hK
    have hol := Nat.le_trans (foldG_len a (joinL xs)) hpl
    clear hI hv hG hK hgx
    generalize foldG a (joinL xs) = st at *
    obtain ⟨out, at0⟩ := st
    simp only at hat hca hol
    obtain ⟨p5, p6⟩ := hat
    have hs0 : Ext W W := Ext.refl W
    have l2 : ∀ u : ExtOf W, u.1.cell? ⟨Bo + 1, 0, none⟩ = some (.int .i64 at0) := fun u => u.2.cell (by simp [World.cell?, hca])
    have l3 : ∀ u : ExtOf W, u.1.cell? ⟨V.heap.size, 0, none⟩ = some (.int .i64 a) := fun u => u.2.cell (by simp [World.cell?, hct])
    have l4 : ∀ u : ExtOf W, u.1.cell? ⟨V.heap.size, 1, none⟩ = some (.int .i64 s) := fun u => u.2.cell (by simp [World.cell?, hct])
    have l5 : ∀ u : ExtOf W, u.1.cell? ⟨Bo, 0, none⟩ = some v := fun u => u.2.cell HV.out.cell.1
    clear hca hct
    gi_wp2
    refine (wpIn_wide (n := 5)).2 ?_
    (refine wp_region_noPanic ?_; refine wp_region_ord (W := W) [(0, true), (1, true), (2, false), (3, false)] [] [] (by kernel_rfl) (by kernel_rfl) (by intro c a d v w h; exact h) (by with_reducible assumption) ?_; simp only [opsOf, List.map_cons, List.map_nil, List.getD_cons_zero, List.getD_cons_succ]; (repeat (go_big_quiet_step (first | (go_at_call 58; with_reducible exact Calls.ext_of (end_is a s HM.out _))))); refine wpQuiet_nil ?_; intro w1 hx; refine mid_nil ?_; refine NoPanic.normal ?_)
    by_cases hr : at0 < a + s
    · have HE := Lib.hid (show restG a s (out, at0) = out ++ [(at0, a + s - at0)] by simp [restG, hr])
      go_wp2_with fail
      gi_wp2
      refine (wpIn_wide (n := 5)).2 ?_
      (refine wp_region_noPanic ?_; refine wp_region_ord (W := W) [(0, true), (1, true), (2, true), (4, true), (3, false), (5, false), (6, false)] [7] [8, 9] (by kernel_rfl) (by kernel_rfl) (by intro c a d v w h; exact h) (by with_reducible assumption) ?_; simp only [opsOf, List.map_cons, List.map_nil, List.getD_cons_zero, List.getD_cons_succ]; (repeat (go_big_quiet_step (first | (go_at_call 58; with_reducible exact Calls.ext_of (end_is a s HM.out _))))); refine wpQuiet_nil ?_; intro w1 hx; (repeat (refine mid_step (by rfl) ?_; intro K hK; go_simp; refine hK _ _ (by repeat (first | (with_reducible exact Ext.refl _) | (with_reducible assumption) | (with_reducible refine Ext.drew ?_) | (with_reducible refine Ext.alloc ?_ _))) ?_; clear hK K)); refine mid_nil ?_)
      have hszw : W.heap.size ≤ w1.heap.size := Ext.size hx
      go_wp2_with (at_builtin; refine wpList_app_lit rfl (.tmp 42) (.tmp 49) 29 rfl spanInfo spanCells rfl (by exact (HV.out.ext hx).own) [(at0, a + s - at0)] 1 _ rfl (out.length + 1) 1 (by simp) rfl w1.heap.size rfl rfl (by omega) (by simp [maxLen]; omega) (by omega) ?_; intro A1 cap1 w2 hown1 hgr1 hat1; obtain ⟨⟨d1, d2⟩, hc2, hk2, hf2, -⟩ := Coll.app ((HV.out.ext hx).ext ((Ext.refl w1).alloc _)) (by omega) (nV := V.heap.size) (by omega) (by simp; omega) (by simp) hown1 hgr1 hat1; have HC2 := Lib.hid hc2; have HK2 := Lib.hid hk2; have HF2 := Lib.hid hf2; clear hc2 hk2 hf2 hown1 hgr1 hat1)
      obtain ⟨d1, d2⟩ := HC2.out.cell
      have hD2 := HF2.out.same D _ hD ((Below.heap_alloc w1 _ D (by have := lt_of_heap HK.out; omega)).trans ((hx.block (lt_of_heap HK.out)).trans HK.out)) rfl
      have hkk : Below V.heap.size W (w2.setCell ⟨Bo, 0, none⟩ (.slice A1 (out.length + 1) cap1)) := ((Kp.ext hx (nV := V.heap.size) (n0 := w0.heap.size) (Bout := Bo) (by omega) (by omega)).trans ((Kp.ext ((Below.refl _ w1).alloc (Nat.le_refl _) _) (by omega) (by omega)).trans HK2.out)).below
      have HKK := Lib.hid hkk
      have HD2 := Lib.hid hD2
      clear hkk hD2
      generalize w2.setCell ⟨Bo, 0, none⟩ (.slice A1 (out.length + 1) cap1) = W3 at *
      refine NoPanic.normal ?_
      gi_wp2
      refine ⟨by simp, .inl ⟨_, _, rfl, run_takeDeferred HD2.out, ?_⟩⟩
      have hab : AbI w0.heap.size Bo W3 (W3.putObj D (.deferred none)) := AbI.putObj hD HD2.out rfl
      refine ⟨_, results_tmp rfl _ _ _, _, HG.out, _, rfl, ?_, Below.trans hEV (Below.trans HKK.out (Below.mono hab.below (by omega)))⟩
      rw [HE.out]
      exact (HC2.out.abI (by omega) hab).own.mono (by omega)
    · have HE := Lib.hid (show restG a s (out, at0) = out by simp [restG, hr])
      obtain ⟨d1, d2⟩ := (HV.out.ext hx).cell
      have hD2 := (hx.block (lt_of_heap HK.out)).trans HK.out
      have HD2 := Lib.hid hD2
      have hC1 := Lib.hid (HV.out.ext hx)
      clear hD2
      go_wp2_with fail
      gi_wp2
      refine ⟨by simp, .inl ⟨_, _, rfl, run_takeDeferred HD2.out, ?_⟩⟩
      have hab : AbI w0.heap.size Bo w1 (w1.putObj D (.deferred none)) := AbI.putObj hD HD2.out rfl
      refine ⟨_, results_tmp rfl _ _ _, _, HG.out, _, rfl, ?_, Below.trans (hEV.trans hx) (Below.mono hab.below (by omega))⟩
      rw [HE.out]
      exact (hC1.out.abI (by omega) hab).own.mono (by omega)
  case stop =>
    rintro D c pre W hD hpre ⟨rfl, pre', x, rfl, hxx, hp, hI⟩ hK
    have hgx : pre' <+: joinL xs := (List.prefix_append _ _).trans hpre
    have hG := gaps_all HM.out hj hgx hp (.inr ⟨x, hpre, hxx⟩)
    have hat := foldG_bd a HM.out hgx
    have hpl := Nat.le_trans hgx.length_le hjl
    clear hpre hp hxx
    obtain ⟨v, hv⟩ := hI.coll
    have hsz := hI.size
    have hEV := hI.ext
    have hca := hI.att
    have hct := hI.all
    have HV := Lib.hid hv
    have HG := Lib.hid hG
    have HK := Lib.hid hK
    have hol := Nat.le_trans (foldG_len a pre') hpl
    clear hI hv hG hK hgx
    generalize foldG a pre' = st at *
    obtain ⟨out, at0⟩ := st
    simp only at hat hca hol
    obtain ⟨p5, p6⟩ := hat
    have hs0 : Ext W W := Ext.refl W
    have l2 : ∀ u : ExtOf W, u.1.cell? ⟨Bo + 1, 0, none⟩ = some (.int .i64 at0) := fun u => u.2.cell (by simp [World.cell?, hca])
    have l3 : ∀ u : ExtOf W, u.1.cell? ⟨V.heap.size, 0, none⟩ = some (.int .i64 a) := fun u => u.2.cell (by simp [World.cell?, hct])
    have l4 : ∀ u : ExtOf W, u.1.cell? ⟨V.heap.size, 1, none⟩ = some (.int .i64 s) := fun u => u.2.cell (by simp [World.cell?, hct])
    have l5 : ∀ u : ExtOf W, u.1.cell? ⟨Bo, 0, none⟩ = some v := fun u => u.2.cell HV.out.cell.1
    clear hca hct
    gi_wp2
    refine (wpIn_wide (n := 5)).2 ?_
    (refine wp_region_noPanic ?_; refine wp_region_ord (W := W) [(0, true), (1, true), (2, false), (3, false)] [] [] (by kernel_rfl) (by kernel_rfl) (by intro c a d v w h; exact h) (by with_reducible assumption) ?_; simp only [opsOf, List.map_cons, List.map_nil, List.getD_cons_zero, List.getD_cons_succ]; (repeat (go_big_quiet_step (first | (go_at_call 58; with_reducible exact Calls.ext_of (end_is a s HM.out _))))); refine wpQuiet_nil ?_; intro w1 hx; refine mid_nil ?_; refine NoPanic.normal ?_)
    by_cases hr : at0 < a + s
    · have HE := Lib.hid (show restG a s (out, at0) = out ++ [(at0, a + s - at0)] by simp [restG, hr])
      go_wp2_with fail
      gi_wp2
      refine (wpIn_wide (n := 5)).2 ?_
      (refine wp_region_noPanic ?_; refine wp_region_ord (W := W) [(0, true), (1, true), (2, true), (4, true), (3, false), (5, false), (6, false)] [7] [8, 9] (by kernel_rfl) (by kernel_rfl) (by intro c a d v w h; exact h) (by with_reducible assumption) ?_; simp only [opsOf, List.map_cons, List.map_nil, List.getD_cons_zero, List.getD_cons_succ]; (repeat (go_big_quiet_step (first | (go_at_call 58; with_reducible exact Calls.ext_of (end_is a s HM.out _))))); refine wpQuiet_nil ?_; intro w1 hx; (repeat (refine mid_step (by rfl) ?_; intro K hK; go_simp; refine hK _ _ (by repeat (first | (with_reducible exact Ext.refl _) | (with_reducible assumption) | (with_reducible refine Ext.drew ?_) | (with_reducible refine Ext.alloc ?_ _))) ?_; clear hK K)); refine mid_nil ?_)
      have hszw : W.heap.size ≤ w1.heap.size := Ext.size hx
      go_wp2_with (at_builtin; refine wpList_app_lit rfl (.tmp 42) (.tmp 49) 29 rfl spanInfo spanCells rfl (by exact (HV.out.ext hx).own) [(at0, a + s - at0)] 1 _ rfl (out.length + 1) 1 (by simp) rfl w1.heap.size rfl rfl (by omega) (by simp [maxLen]; omega) (by omega) ?_; intro A1 cap1 w2 hown1 hgr1 hat1; obtain ⟨⟨d1, d2⟩, hc2, hk2, hf2, -⟩ := Coll.app ((HV.out.ext hx).ext ((Ext.refl w1).alloc _)) (by omega) (nV := V.heap.size) (by omega) (by simp; omega) (by simp) hown1 hgr1 hat1; have HC2 := Lib.hid hc2; have HK2 := Lib.hid hk2; have HF2 := Lib.hid hf2; clear hc2 hk2 hf2 hown1 hgr1 hat1)
      obtain ⟨d1, d2⟩ := HC2.out.cell
      have hD2 := HF2.out.same D _ hD ((Below.heap_alloc w1 _ D (by have := lt_of_heap HK.out; omega)).trans ((hx.block (lt_of_heap HK.out)).trans HK.out)) rfl
      have hkk : Below V.heap.size W (w2.setCell ⟨Bo, 0, none⟩ (.slice A1 (out.length + 1) cap1)) := ((Kp.ext hx (nV := V.heap.size) (n0 := w0.heap.size) (Bout := Bo) (by omega) (by omega)).trans ((Kp.ext ((Below.refl _ w1).alloc (Nat.le_refl _) _) (by omega) (by omega)).trans HK2.out)).below
      have HKK := Lib.hid hkk
      have HD2 := Lib.hid hD2
      clear hkk hD2
      generalize w2.setCell ⟨Bo, 0, none⟩ (.slice A1 (out.length + 1) cap1) = W3 at *
      refine NoPanic.normal ?_
      gi_wp2
      refine ⟨by simp, .inl ⟨_, _, rfl, run_takeDeferred HD2.out, ?_⟩⟩
      have hab : AbI w0.heap.size Bo W3 (W3.putObj D (.deferred none)) := AbI.putObj hD HD2.out rfl
      refine ⟨_, results_tmp rfl _ _ _, _, HG.out, _, rfl, ?_, Below.trans hEV (Below.trans HKK.out (Below.mono hab.below (by omega)))⟩
      rw [HE.out]
      exact (HC2.out.abI (by omega) hab).own.mono (by omega)
    · have HE := Lib.hid (show restG a s (out, at0) = out by simp [restG, hr])
      obtain ⟨d1, d2⟩ := (HV.out.ext hx).cell
      have hD2 := (hx.block (lt_of_heap HK.out)).trans HK.out
      have HD2 := Lib.hid hD2
      have hC1 := Lib.hid (HV.out.ext hx)
      clear hD2
      go_wp2_with fail
      gi_wp2
      refine ⟨by simp, .inl ⟨_, _, rfl, run_takeDeferred HD2.out, ?_⟩⟩
      have hab : AbI w0.heap.size Bo w1 (w1.putObj D (.deferred none)) := AbI.putObj hD HD2.out rfl
      refine ⟨_, results_tmp rfl _ _ _, _, HG.out, _, rfl, ?_, Below.trans (hEV.trans hx) (Below.mono hab.below (by omega))⟩
      rw [HE.out]
      exact (hC1.out.abI (by omega) hab).own.mono (by omega)

theorem gaps_any (a s : Int) (A : Option Addr) (cap : Nat) (xs : List (Int × Int)) (V : World) (hlen : xs.length ≤ 1000000) (hl : SpansAt V A xs) :
    Calls Try.prog 31 #[.agg #[.int .i64 (a), .int .i64 (s)], .slice A xs.length cap] V (fun e w' => ∃ zs, GapsOf a s xs zs ∧ RetS V V.heap.size zs e w') := by
  cases hm : mayB a s
  · exact gaps_no a s A cap xs V hm
  · exact gaps_yes a s A cap xs V hm hlen hl
end Go.Proofs.Ytllcekmbcmhckaa

