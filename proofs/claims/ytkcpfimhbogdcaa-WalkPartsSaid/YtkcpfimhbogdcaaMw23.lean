/- Merged by program (merge.py) out of: Iter, JoinW, JoinX. -/
import Derived.Deep.Cut
import Derived.Shelf.Abstract
import Derived.Test.YtkcpfimhbogdcaaMw7
import Derived.Test.YtkcpfimhbogdcaaMw20
import Derived.Test.YtkcpfimhbogdcaaMw22
import Derived.Test.YtkcpfimhbogdcaaMw8
/- The walks of span.rows and of the function that it hands back. -/
set_option linter.unusedSimpArgs false
set_option linter.unusedVariables false
namespace Go.Proofs.Ytkcpfimhbogdcaa
open Go.RowKit

theorem rows_any (A : Option Addr) (n cap : Nat) (w : World) :
    Calls Try.prog 75 #[.slice A n cap] w fun e w' => e = .returned (.func (.func 128) #[] #[.pointer (some ⟨w.heap.size, 0, none⟩)]) ∧ w' = w.alloc (.cells #[.slice A n cap] 45) := by
  go_enter Try.func75, Try.ntmps75
  go_wp2_with fail
  go_ret
  exact ⟨rfl, rfl⟩

/-- The iterator's own cells: the open span's, and the spans in order. -/
structure ItSt (B0 B1 O Bout : Nat) (v : Value) (zs : List (Int × Int)) (o : Int × Int) (wr : World) : Prop where
  opn : wr.heap[O]? = some (.cells #[.int .i64 o.1, .int .i64 o.2] 23 (0, 0))
  own : OwnS wr B0 v zs
  led : ∀ b, Led wr Bout b → B1 ≤ b ∧ b < wr.heap.size
  size : B1 ≤ wr.heap.size
structure ItFix (n0 B0 B1 O Bout : Nat) (v : Value) : Prop where
  o0 : n0 ≤ O
  o1 : O < B1
  b0 : n0 ≤ B0
  g1 : ∀ g, v.ownBlock = some g → g < B1
  out : Bout < n0

section
variable {n0 B0 B1 O Bout : Nat} {v : Value} {zs : List (Int × Int)} {o : Int × Int} {wr w' : World}
theorem ItSt.ext (h : ItSt B0 B1 O Bout v zs o wr) (F : ItFix n0 B0 B1 O Bout v) (hx : Ext wr w') : ItSt B0 B1 O Bout v zs o w' := by
  have h1 := h.size
  have h2 := Ext.size hx
  have h3 := F.o0
  have h4 := F.o1
  have h5 := F.out
  refine ⟨(hx.block (by omega)).trans h.opn, h.own.ext hx, fun b hb => ?_, by omega⟩
  have := h.led b ((led_ext hx (by omega)).1 hb)
  omega
theorem ItSt.round {nV : Nat} (h : ItSt B0 B1 O Bout v zs o wr) (F : ItFix n0 B0 B1 O Bout v) (hk : Kp nV n0 Bout wr w') : ItSt B0 B1 O Bout v zs o w' := by
  have h1 := h.size
  have h2 := hk.below.size
  have h3 := F.o0
  have h4 := F.o1
  have h5 := F.out
  have h6 := F.b0
  refine ⟨hk.cells O _ h3 h.opn rfl (fun hl => by have := h.led O hl; omega), h.own.same fun g cs t r hg hc => hk.cells g _ ?_ hc rfl (fun hl => by have := h.led g hl; have := F.g1 g hg; omega), fun b hb => ?_, by omega⟩
  · have := (World.ownsRow.lt h.own g hg).1
    omega
  · rcases hk.led b hb with h7 | h7
    · have := h.led b h7; omega
    · omega
theorem ItSt.cells (h : ItSt B0 B1 O Bout v zs o wr) : wr.cell? ⟨O, 0, none⟩ = some (.int .i64 o.1) ∧ wr.cell? ⟨O, 1, none⟩ = some (.int .i64 o.2) ∧ wr.frozen? ⟨O, 0, none⟩ = false ∧ wr.frozen? ⟨O, 1, none⟩ = false := by
  have := h.opn
  refine ⟨?_, ?_, ?_, ?_⟩ <;> simp [World.cell?, World.frozen?, this]
theorem ItSt.ab (h : ItSt B0 B1 O Bout v zs o wr) (F : ItFix n0 B0 B1 O Bout v) {n1 : Nat} (hn : n1 ≤ O) (i : Nat) (u : Value) : Ab n1 Bout wr (wr.setCell ⟨O, i, none⟩ u) :=
  Ab.set hn ⟨_, _, _, h.opn⟩ fun hl => by have := h.led O hl; have := F.o1; omega
theorem ItSt.set (h : ItSt B0 B1 O Bout v zs o wr) (F : ItFix n0 B0 B1 O Bout v) (i : Nat) (u : Value) (o' : Int × Int) (hu : (#[.int .i64 o.1, .int .i64 o.2] : Array Value).setIfInBounds i u = #[.int .i64 o'.1, .int .i64 o'.2])
    (hO : v.ownBlock ≠ some O) : ItSt B0 B1 O Bout v zs o' (wr.setCell ⟨O, i, none⟩ u) := by
  have h3 := F.o0
  have h5 := F.out
  refine ⟨?_, h.own.same fun g cs t r hg hc => ?_, fun b hb => ?_, by have := h.size; simpa using this⟩
  · rw [heap_setCell_same wr O i _ _ _ h.opn, hu]
  · rw [Below.heap_setCell wr ⟨O, i, none⟩ u g (fun e => hO ((show g = O from e) ▸ hg))]; exact hc
  · have := h.led b ((led_set (by omega)).1 hb)
    simpa using this
end

set_option maxRecDepth 100000 in
set_option maxHeartbeats 8000000 in
theorem rows1_stops (nV Bl Bout : Nat) (A : Option Addr) (cap : Nat) (xs : List (Int × Int)) (w : World) (hlen : xs.length ≤ 1000000) (hV : nV ≤ w.heap.size) (hBl : Bl < w.heap.size) (hcl : w.cell? ⟨Bl, 0, none⟩ = some (.slice A xs.length cap))
    (hl : SpansAt w A xs) (hBo : Bout < w.heap.size) (hco : w.cell? ⟨Bout, 0, none⟩ = some (.slice none 0 0)) :
    IterStops Try.prog 128 #[.pointer (some ⟨Bl, 0, none⟩)] (fun x : Int × Int => #[.agg #[.int .i64 (x.1), .int .i64 (x.2)]]) nV Bout (fun ys => ys = joinL xs) (fun pre => pre <+: joinL xs) (fun pre => pre <+: joinL xs) w := by
  intro l J Jx U hW hJ hJx hY h0
  refine callsIn_wide.2 ?_
  show Calls Try.prog 128 #[.func (.yield l) #[] #[], .pointer (some ⟨Bl, 0, none⟩)] U _
  have HY := Lib.hid hY
  have HJ := Lib.hid hJ
  have HJX := Lib.hid hJx
  have H0 := Lib.hid h0
  have c0 : U.cell? ⟨Bl, 0, none⟩ = some (.slice A xs.length cap) := (hW.cell (p := ⟨Bl, 0, none⟩) hBl).trans hcl
  have co : U.cell? ⟨Bout, 0, none⟩ = some (.slice none 0 0) := (hW.cell (p := ⟨Bout, 0, none⟩) hBo).trans hco
  have HL := Lib.hid (hl.ext hW)
  have HO := Lib.hid co
  have hsz := hW.size
  have hblt : Bl < U.heap.size := by omega
  have HS := Lib.hid (sortS_sorted xs)
  have HZ := Lib.hid (show joinL xs = joinZ (sortS xs) from rfl)
  have hzl : (sortS xs).length ≤ 1000000 := by rw [sortS_length]; exact hlen
  clear hY hJ hJx h0 hcl hco hl co hW
  generalize hz : sortS xs = zs at HS HZ hzl
  have HQ := Lib.hid hz
  clear hz
  go_enter Try.func128, Try.ntmps128
  go_wp2_with fail
  refine (sort_any A cap xs _ hlen (HL.out.ext ((Ext.refl _).alloc _))).mono ?_
  intro e W1 hret
  rw [HQ.out] at hret
  obtain ⟨v, rfl, hown, hb1⟩ := hret
  have HX1 : Ext (U.alloc (.cells #[.int .i64 0, .int .i64 0] 23)) W1 := hb1
  simp only [World.size_alloc] at hown
  have hx01 : Ext U W1 := ((Ext.refl _).alloc _).trans HX1
  have hs1 := Ext.size HX1
  simp only [World.size_alloc] at hs1
  have hF0 : ItFix w.heap.size (U.heap.size + 1) W1.heap.size U.heap.size Bout v := ⟨hsz, by omega, by omega, fun g hg => (World.ownsRow.lt hown g hg).2, by omega⟩
  have hvO : v.ownBlock ≠ some U.heap.size := fun h => by have := (World.ownsRow.lt hown _ h).1; omega
  have hIT0 : ItSt (U.heap.size + 1) W1.heap.size U.heap.size Bout v zs (0, 0) W1 := by
    refine ⟨(HX1.block (by simp)).trans (World.alloc_heap_new _ _), hown, fun b hb => ?_, Nat.le_refl _⟩
    obtain ⟨n, c, hnc⟩ := (led_ext hx01 (by omega)).1 hb
    rw [HO.out] at hnc
    cases hnc
  obtain ⟨A1, cap1, rfl, _, _⟩ := hown.form spanCells (by decide)
  have HF := Lib.hid hF0
  have HVO := Lib.hid hvO
  have HIT := Lib.hid hIT0
  have HJ1 := Lib.hid (HJ.out _ _ _ H0.out (Ab.ext hx01 (Nat.le_refl _)))
  clear hown hb1 hvO H0 HL HO HQ HX1 hF0 hIT0
  go_wp2_with fail
  go_loopw [9] (fun i wr => ∃ k : Nat, k ≤ zs.length ∧ i = .int .i64 k ∧ Hid (ItSt (U.heap.size + 1) W1.heap.size U.heap.size Bout (.slice A1 zs.length cap1) zs (foldJ (zs.take k)).2 wr) ∧ Hid (J (foldJ (zs.take k)).1 wr)) (fun i _ => zs.length - (intOf i).toNat)
  case atStart => exact ⟨0, by omega, rfl, HIT, HJ1⟩
  case round =>
    obtain ⟨k, hk, rfl, hit, hj⟩ := hrel
    clear HIT HJ1
    have HI := Lib.hid (invJ zs HS.out k hk)
    have hsw := hit.out.size
    by_cases hlt : k < zs.length
    rotate_left
    · obtain rfl : k = zs.length := by omega
      obtain ⟨o1, o2, o3, o4⟩ := hit.out.cells
      have HJZ := Lib.hid (show joinZ zs = flushJ (foldJ (zs.take zs.length)) by rw [List.take_length]; rfl)
      generalize foldJ (zs.take zs.length) = st at *
      obtain ⟨em, ao, so⟩ := st
      simp only at o1 o2
      by_cases h0 : 0 < so
      · have h0' : decide (0 < so) = true := by simpa using h0
        have HE := Lib.hid (show flushJ (em, ao, so) = em ++ [(ao, so)] by simp [flushJ, h0])
        have hml : em ++ [(ao, so)] <+: joinL xs := by
          rw [HZ.out, HJZ.out, HE.out]
          exact List.prefix_refl _
        obtain ⟨fn, tmps, assign, body, hy, hR⟩ := HY.out em (ao, so) wr hj.out hml
        dsimp only at hy
        have hro : Fence.wide.round = none := rfl
        clear hml
        go_upto_region 11 with (fail)
        refine (wpIn_wide (n := 4)).1 ?_
        gi_wp2
        refine hR.mono ?_
        clear hy hR
        rintro e W3 (⟨rfl, hJ3, hk3⟩ | ⟨rfl, hJx3⟩)
        · gi_wp2
          go_wp2_with fail
          go_end0
          exact ⟨⟨_, rfl⟩, .inl ⟨em ++ [(ao, so)], by rw [HZ.out, HJZ.out, HE.out], hJ3⟩⟩
        · gi_wp2
          go_wp2_with fail
          go_end0
          exact ⟨⟨_, rfl⟩, .inr ⟨em ++ [(ao, so)], by rw [HZ.out, HJZ.out, HE.out]; exact List.prefix_refl _, hJx3⟩⟩
      · have h0' : decide (0 < so) = false := by simpa using h0
        have HE := Lib.hid (show flushJ (em, ao, so) = em by simp [flushJ, h0])
        have HJ0 := Lib.hid hj.out
        go_wp2_with fail
        go_end0
        refine ⟨⟨_, rfl⟩, .inl ?_⟩
        rw [HZ.out, HJZ.out, HE.out]
        exact HJ0.out
    obtain ⟨_, _, e0, hrow, _, _⟩ := hit.out.own.form spanCells (by decide)
    obtain ⟨rfl, _, rfl⟩ : _ ∧ _ ∧ _ := by simpa only [Value.slice.injEq] using e0
    obtain ⟨lb, off, rfl, hc⟩ := hrow.get (by omega)
    obtain ⟨c1, c2⟩ := spans_cell hc hlt
    obtain ⟨o1, o2, o3, o4⟩ := hit.out.cells
    have HT := Lib.hid (foldJ_take hlt)
    have HPX := Lib.hid (fold_prefix zs (k + 1))
    have HX := Lib.hid (rfl : zs.getD k (0, 0) = zs.getD k (0, 0))
    rw [HT.out] at HPX
    clear HX e0 hrow hc
    generalize zs.getD k (0, 0) = x at *
    obtain ⟨a, s⟩ := x
    generalize foldJ (zs.take k) = st at *
    obtain ⟨em, ao, so⟩ := st
    simp only at c1 c2 o1 o2
    have ib1 : (k : Int) < (zs.length : Int) := by omega
    have hOlt : U.heap.size < wr.heap.size := by omega
    go_wp2_with fail
    cases hm : mayB a s
    · refine (may_is a s _ hm _).mono ?_
      rintro e w1 ⟨rfl, hx1⟩
      have hx2 : Ext wr w1 := ((Ext.refl _).alloc _).trans hx1
      have HE := Lib.hid (show stepJ (em, ao, so) (a, s) = (em, ao, so) by simp [stepJ, hm])
      go_wp2_with fail
      go_roundw
      case rel => exact ⟨k + 1, by omega, by go_num, by rw [HT.out, HE.out]; exact hit.out.ext HF.out hx2, by rw [HT.out, HE.out]; exact HJ.out _ _ _ hj.out (Ab.ext hx2 (by omega))⟩
      case measure => simp [intOf]; omega
    obtain ⟨q1, q2, q3, q4⟩ := may_bd hm
    refine (may_is a s _ hm _).mono ?_
    rintro e W ⟨rfl, hx1⟩
    have hx2 : Ext wr W := ((Ext.refl _).alloc _).trans hx1
    have k0 := boxed wr #[.int .i64 a, .int .i64 s] 23 0 (.int .i64 a) rfl W hx1
    have k1 := boxed wr #[.int .i64 a, .int .i64 s] 23 1 (.int .i64 s) rfl W hx1
    have HIT := Lib.hid (hit.out.ext HF.out hx2)
    have HJW := Lib.hid (HJ.out _ _ _ hj.out (Ab.ext hx2 (by omega)))
    have hsx : wr.heap.size < W.heap.size := by have := Ext.size hx1; simp at this; omega
    have hbx : W.heap[wr.heap.size]? = some (.cells #[.int .i64 a, .int .i64 s] 23 (0, 0)) := (hx1.block (by simp)).trans (World.alloc_heap_new _ _)
    have HLD := Lib.hid (fun (hl : Led W Bout wr.heap.size) => by
      have h1 := (led_ext hx2 (by have := HF.out.out; omega)).1 hl
      have := hit.out.led _ h1
      omega : ¬ Led W Bout wr.heap.size)
    obtain ⟨o1, o2, o3, o4⟩ := HIT.out.cells
    have HBX := Lib.hid hbx
    clear hx1 hit hj hbx c1 c2
    generalize wr.heap.size = X at *
    have hs0 : Ext W W := Ext.refl W
    have l0 : ∀ u : ExtOf W, u.1.cell? ⟨X, 0, none⟩ = some (.int .i64 a) := fun u => u.2.cell k0
    have l1 : ∀ u : ExtOf W, u.1.cell? ⟨X, 1, none⟩ = some (.int .i64 s) := fun u => u.2.cell k1
    have l2 : ∀ u : ExtOf W, u.1.cell? ⟨U.heap.size, 0, none⟩ = some (.int .i64 ao) := fun u => u.2.cell o1
    have l3 : ∀ u : ExtOf W, u.1.cell? ⟨U.heap.size, 1, none⟩ = some (.int .i64 so) := fun u => u.2.cell o2
    go_wp2_with fail
    by_cases h0 : 0 < so
    · have hmo := HI.out.may h0
      have hmo' := may_bd hmo
      simp only at hmo hmo'
      obtain ⟨r1, r2, r3, r4⟩ := hmo'
      have h0' : decide (0 < so) = true := by simpa using h0
      by_cases hj : a ≤ ao + so
      · have hj' : decide (a ≤ ao + so) = true := by simpa using hj
        have HE := Lib.hid (show stepJ (em, ao, so) (a, s) = (em, (ao, max (ao + so) (a + s) - ao)) by simp [stepJ, hm, h0, hj])
        (refine wp_region_ext (W := W) (by kernel_rfl) (by kernel_rfl) (by with_reducible assumption) ?_; (repeat (go_big_quiet_step (first | (go_at_call 111; with_reducible exact Calls.ext_of (end_is ao so hmo _))))); refine wpQuiet_nil ?_; intro w1 hx)
        go_wp2_with fail
        (refine wp_region_ext_tail (W := W) 9 (by kernel_rfl) (by kernel_rfl) (by with_reducible assumption) ?_; simp only [List.take_succ_cons, List.take_zero, List.drop_succ_cons, List.drop_zero]; (repeat (go_big_quiet_step (first | (go_at_call 111; with_reducible exact Calls.ext_of (end_is ao so hmo _)) | (go_at_call 111; with_reducible exact Calls.ext_of (end_is a s hm _))))); refine wpQuiet_nil ?_; intro w1 hx)
        have it1 := HIT.out.ext HF.out hx
        obtain ⟨p1, p2, p3, p4⟩ := it1.cells
        have IT1 := Lib.hid it1
        have hx3 := Lib.hid hx
        clear it1
        go_wp2_with fail
        go_roundw
        case rel =>
          refine ⟨k + 1, by omega, by go_num, ?_, ?_⟩
          · rw [HT.out, HE.out]
            exact IT1.out.set HF.out 1 _ _ (by simp; split <;> omega) HVO.out
          · rw [HT.out, HE.out]
            exact HJ.out _ _ _ (HJ.out _ _ _ HJW.out (Ab.ext hx3.out (by have := Ext.size hx2; omega))) (IT1.out.ab HF.out (Nat.le_refl _) 1 _)
        case measure => simp [intOf]; omega
      · have hj' : decide (a ≤ ao + so) = false := by simpa using hj
        have HE := Lib.hid (show stepJ (em, ao, so) (a, s) = (em ++ [(ao, so)], (a, s)) by simp only [stepJ, hm, if_true]; rw [if_neg (fun h => hj h.2), if_pos h0])
        (refine wp_region_ext (W := W) (by kernel_rfl) (by kernel_rfl) (by with_reducible assumption) ?_; (repeat (go_big_quiet_step (first | (go_at_call 111; with_reducible exact Calls.ext_of (end_is ao so hmo _))))); refine wpQuiet_nil ?_; intro w1 hx)
        have it1 := HIT.out.ext HF.out hx
        obtain ⟨p1, p2, p3, p4⟩ := it1.cells
        have hxx := Ext.cell hx k0
        have hxy := Ext.cell hx k1
        have IT1 := Lib.hid it1
        have JW1 := Lib.hid (HJ.out _ _ _ HJW.out (Ab.ext hx (by have := Ext.size hx2; omega)))
        clear it1
        go_upto_region 4 with (fail)
        have HPE := HPX.out
        rw [HE.out] at HPE
        have HPE := Lib.hid HPE
        have hml : em ++ [(ao, so)] <+: joinL xs := by
          rw [HZ.out]
          exact HPE.out
        obtain ⟨fn, tmps, assign, body, hy, hR⟩ := HY.out em (ao, so) w1 JW1.out hml
        dsimp only at hy p1 p2
        have hro : Fence.wide.round = none := rfl
        clear hml
        refine (wpIn_wide (n := 4)).1 ?_
        gi_wp2
        refine hR.mono ?_
        clear hy hR
        rintro e W3 (⟨rfl, hJ3, hk3⟩ | ⟨rfl, hJx3⟩)
        · have IT3 := Lib.hid (IT1.out.round HF.out hk3)
          obtain ⟨p1, p2, p3, p4⟩ := IT3.out.cells
          have hb3 : W3.heap[X]? = some (.cells #[.int .i64 a, .int .i64 s] 23 (0, 0)) :=
            hk3.cells X _ (by have := HF.out.o0; omega) ((hx.block (by omega)).trans HBX.out) rfl (fun hl => HLD.out ((led_ext hx (by have := HF.out.out; have := Ext.size hx2; omega)).1 hl))
          have g0 : W3.cell? ⟨X, 0, none⟩ = some (.int .i64 a) := by simp [World.cell?, hb3]
          have g1 : W3.cell? ⟨X, 1, none⟩ = some (.int .i64 s) := by simp [World.cell?, hb3]
          have J3 := Lib.hid hJ3
          clear hb3 hk3 hJ3
          gi_wp2
          go_wp2_with fail
          go_roundw
          case rel =>
            refine ⟨k + 1, by omega, by go_num, ?_, ?_⟩
            · rw [HT.out, HE.out]
              exact (IT3.out.set HF.out 0 (.int .i64 a) (a, so) (by simp) HVO.out).set HF.out 1 (.int .i64 s) (a, s) (by simp) HVO.out
            · rw [HT.out, HE.out]
              exact HJ.out _ _ _ (HJ.out _ _ _ J3.out (IT3.out.ab HF.out (Nat.le_refl _) 0 _)) ((IT3.out.set HF.out 0 (.int .i64 a) (a, so) (by simp) HVO.out).ab HF.out (Nat.le_refl _) 1 _)
          case measure => simp [intOf]; omega
        · gi_wp2
          go_wp2_with fail
          (try simp only [Exit.inBlock, Exit.then])
          refine bodyPost_ret (results_none rfl _ _ _) rfl ?_
          exact ⟨⟨_, rfl⟩, .inr ⟨em ++ [(ao, so)], by rw [HZ.out]; exact HPE.out, hJx3⟩⟩
    · have h0' : decide (0 < so) = false := by simpa using h0
      have hz0 : so = 0 := by have := HI.out.zero; simp only at this; omega
      have he : em = [] := HI.out.none h0
      have HE := Lib.hid (show stepJ (em, ao, so) (a, s) = (em, (a, s)) by simp only [stepJ, hm, if_true]; rw [if_neg (fun h => h0 h.1), if_neg h0])
      clear hz0 he
      (refine wp_region_ext (W := W) (by kernel_rfl) (by kernel_rfl) (by with_reducible assumption) ?_; (repeat (go_big_quiet_step (fail))); refine wpQuiet_nil ?_; intro w1 hx)
      have it1 := HIT.out.ext HF.out hx
      obtain ⟨p1, p2, p3, p4⟩ := it1.cells
      have hxx := Ext.cell hx k0
      have hxy := Ext.cell hx k1
      have IT1 := Lib.hid it1
      have hx3 := Lib.hid hx
      clear it1
      go_wp2_with fail
      go_roundw
      case rel =>
        refine ⟨k + 1, by omega, by go_num, ?_, ?_⟩
        · rw [HT.out, HE.out]
          exact (IT1.out.set HF.out 0 (.int .i64 a) (a, so) (by simp) HVO.out).set HF.out 1 (.int .i64 s) (a, s) (by simp) HVO.out
        · rw [HT.out, HE.out]
          exact HJ.out _ _ _ (HJ.out _ _ _ (HJ.out _ _ _ HJW.out (Ab.ext hx3.out (by have := Ext.size hx2; omega))) (IT1.out.ab HF.out (Nat.le_refl _) 0 _)) ((IT1.out.set HF.out 0 (.int .i64 a) (a, so) (by simp) HVO.out).ab HF.out (Nat.le_refl _) 1 _)
      case measure => simp [intOf]; omega
end Go.Proofs.Ytkcpfimhbogdcaa

/- The walk of span.Join. -/
set_option linter.unusedSimpArgs false
set_option linter.unusedVariables false
namespace Go.Proofs.Ytkcpfimhbogdcaa
open Go.RowKit
attribute [local go_sem] Oper.semAt_some

section
variable {α : Type} {e : TypeId} {n : Nat} {f : α → List Value} {B : Nat} {v : Value} {xs ys : List α} {w w' : World} {P : Program} {t : TypeId} {bytes : Nat} {F : Fence} {m' : Nat}
end

/-- A variable of a loop's caller that collects: its box, and what it leads to. -/
structure Coll (n0 Bout : Nat) (t : TypeId) (pre : List (Int × Int)) (W : World) (v : Value) : Prop where
  box : W.heap[Bout]? = some (.cells #[v] t (0, 0))
  own : OwnS W n0 v pre
section
variable {n0 Bout : Nat} {t : TypeId} {pre : List (Int × Int)} {W W' A B : World} {v : Value}
theorem Coll.cell (h : Coll n0 Bout t pre W v) : W.cell? ⟨Bout, 0, none⟩ = some v ∧ W.frozen? ⟨Bout, 0, none⟩ = false := by
  have := h.box
  constructor <;> simp [World.cell?, World.frozen?, this]
theorem Coll.led (h : Coll n0 Bout t pre W v) (b : Nat) : Led W Bout b ↔ v.ownBlock = some b := by
  unfold Led
  rw [h.cell.1]
  rcases h.own.2 with ⟨rfl, _⟩ | ⟨g, cap, cur, rfl, _⟩
  · simp [Value.ownBlock]
  · simp [Value.ownBlock]
theorem Coll.abI (h : Coll n0 Bout t pre A v) (hB : Bout < n0) (hab : AbI n0 Bout A B) : Coll n0 Bout t pre B v :=
  ⟨(hab.below.block Bout hB).trans h.box, h.own.same fun g cs ty r hg hc => hab.kept g _ hc rfl ((h.led g).2 hg)⟩
theorem Coll.keep (h : Coll n0 Bout t pre A v) (hB : Bout < n0) (hk : ∀ (k : Nat) (o : Obj), A.heap[k]? = some o → o.isCells = true → B.heap[k]? = some o) : Coll n0 Bout t pre B v :=
  ⟨hk Bout _ h.box rfl, h.own.same fun g cs ty r hg hc => hk g _ hc rfl⟩
theorem Coll.ext (h : Coll n0 Bout t pre W v) (hx : Ext W W') : Coll n0 Bout t pre W' v := ⟨(hx.block (lt_of_heap h.box)).trans h.box, h.own.ext hx⟩
theorem Coll.setOther (h : Coll n0 Bout t pre W v) {k i : Nat} (u : Value) (hk : k < n0) (hne : Bout ≠ k) : Coll n0 Bout t pre (W.setCell ⟨k, i, none⟩ u) v :=
  ⟨(Below.heap_setCell W ⟨k, i, none⟩ u Bout hne).trans h.box, h.own.same fun g cs ty r hg hc => (Below.heap_setCell W ⟨k, i, none⟩ u g (fun e => by simp only at e; have := (World.ownsRow.lt h.own g hg).1; omega)).trans hc⟩
/-- What an append and the store behind it do: w1 stands behind the append, W' behind the store. -/
theorem Coll.app (h : Coll n0 Bout t pre W v) (hB : Bout < n0) {nV : Nat} (hV : nV ≤ Bout) {w1 : World} {x : Int × Int} {A1 : Option Addr} {r cap1 H : Nat} (hn : n0 ≤ W.heap.size) (hH : W.heap.size ≤ H)
    (hown : OwnS w1 n0 (.slice A1 r cap1) (pre ++ [x])) (hg : W.grownBy w1 v.ownBlock) (hat : (Value.slice A1 r cap1).ownBlock = v.ownBlock ∨ (Value.slice A1 r cap1).ownBlock = some H) :
    (w1.cell? ⟨Bout, 0, none⟩ = some v ∧ w1.frozen? ⟨Bout, 0, none⟩ = false) ∧ Coll n0 Bout t (pre ++ [x]) (w1.setCell ⟨Bout, 0, none⟩ (.slice A1 r cap1)) (.slice A1 r cap1) ∧
      Kp nV n0 Bout W (w1.setCell ⟨Bout, 0, none⟩ (.slice A1 r cap1)) ∧ KeepsFrom n0 W (w1.setCell ⟨Bout, 0, none⟩ (.slice A1 r cap1)) ∧
      ∀ k, k < W.heap.size → k ≠ Bout → v.ownBlock ≠ some k → (w1.setCell ⟨Bout, 0, none⟩ (.slice A1 r cap1)).heap[k]? = W.heap[k]? := by
  have hlt := lt_of_heap h.box
  have hbo : v.ownBlock ≠ some Bout := fun e => by have := (World.ownsRow.lt h.own _ e).1; omega
  have hb1 : w1.heap[Bout]? = some (.cells #[v] t (0, 0)) := (hg.block Bout hlt (fun e => hbo e.symm)).trans h.box
  have hbo2 : (Value.slice A1 r cap1).ownBlock ≠ some Bout := fun e => by have := (World.ownsRow.lt hown _ e).1; omega
  have hC : Coll n0 Bout t (pre ++ [x]) (w1.setCell ⟨Bout, 0, none⟩ (.slice A1 r cap1)) (.slice A1 r cap1) := by
    refine ⟨?_, hown.same fun g cs ty r' hg' hc => ?_⟩
    · rw [heap_setCell_same w1 Bout 0 _ _ _ hb1]; rfl
    · rw [Below.heap_setCell w1 ⟨Bout, 0, none⟩ _ g (fun e => hbo2 (by rw [hg']; exact congrArg some e))]; exact hc
  refine ⟨⟨by simp [World.cell?, hb1], by simp [World.frozen?, hb1]⟩, hC, ⟨?_, fun k o hk ho hc hl => ?_, fun k hk => ?_⟩, ⟨by simpa using hg.size, fun k o hk ho hc => ?_⟩, fun k hk hne hov => (Below.heap_setCell w1 ⟨Bout, 0, none⟩ _ k hne).trans (hg.block k hk (fun e => hov e.symm))⟩
  · exact ((Below.refl nV W).grown hg (by omega) (fun k e => by have := (World.ownsRow.lt h.own k e).1; omega)).setCell (p := ⟨Bout, 0, none⟩) hV _
  · rw [Below.heap_setCell w1 ⟨Bout, 0, none⟩ _ k (fun e => by simp only at e; omega)]
    exact (hg.block k (lt_of_heap ho) (fun e => hl ((h.led k).2 e.symm))).trans ho
  · rw [hC.led] at hk
    rcases hat with h1 | h1
    · exact .inl ((h.led k).2 (by rw [← h1]; exact hk))
    · rw [h1] at hk
      obtain rfl : H = k := by simpa using hk
      have := (World.ownsRow.lt hC.own H h1).2
      exact .inr ⟨hH, this⟩
  · rw [Below.heap_setCell w1 ⟨Bout, 0, none⟩ _ k (fun e => by simp only at e; omega)]
    refine (hg.block k (lt_of_heap ho) (fun e => ?_)).trans ho
    rcases h.own.2 with ⟨rfl, _⟩ | ⟨g, cap, cur, rfl, _, hgb, _⟩
    · simp [Value.ownBlock] at e
    · obtain rfl : k = g := by simpa [Value.ownBlock] using e
      rw [hgb] at ho; cases ho; cases hc
end
end Go.Proofs.Ytkcpfimhbogdcaa

/- The walk of span.Join. -/
set_option linter.unusedSimpArgs false
set_option linter.unusedVariables false
namespace Go.Proofs.Ytkcpfimhbogdcaa
open Go.RowKit Go.Shelf
attribute [local go_sem] Oper.semAt_some

theorem joinL_length (xs : List (Int × Int)) : (joinL xs).length ≤ xs.length := by
  have := join_length (sortS xs)
  rw [sortS_length] at this
  exact this

set_option maxRecDepth 100000 in
set_option maxHeartbeats 4000000 in
theorem join_any (A : Option Addr) (cap : Nat) (xs : List (Int × Int)) (V : World) (hlen : xs.length ≤ 1000000) (hl : SpansAt V A xs) :
    Calls Try.prog 25 #[.slice A xs.length cap] V (RetS V V.heap.size (joinL xs)) := by
  refine (callsIn_wide (n := 5)).1 ?_
  have hro : Fence.wide.round = none := rfl
  refine callsIn_of_wp_marks Try.func25 rfl trivial ?_ hro
  simp only [Try.ntmps25, List.size_toArray, List.length_cons, List.length_nil, Nat.reduceAdd, Nat.reduceSub, Array.replicate_succ, Array.replicate_zero, List.push_toArray, List.append_toArray, List.nil_append, List.cons_append]
  gi_wp2_with (refine ⟨trivial, ?_⟩; gi_at_call 75; refine (callsIn_wide.2 (rows_any _ _ _ _)).mono ?_; rintro e w' ⟨rfl, rfl⟩)
  have hw0 : Ext V ((V.alloc (.cells #[.slice none 0 0] 45)).alloc (.cells #[.slice A xs.length cap] 45)) := ((Ext.refl _).alloc _).alloc _
  have hws : ((V.alloc (.cells #[.slice none 0 0] 45)).alloc (.cells #[.slice A xs.length cap] 45)).heap.size = V.heap.size + 2 := by simp
  have hbo : ((V.alloc (.cells #[.slice none 0 0] 45)).alloc (.cells #[.slice A xs.length cap] 45)).heap[V.heap.size]? = some (.cells #[.slice none 0 0] 45 (0, 0)) := (Below.heap_alloc _ _ _ (by simp)).trans (World.alloc_heap_new _ _)
  have hbl : ((V.alloc (.cells #[.slice none 0 0] 45)).alloc (.cells #[.slice A xs.length cap] 45)).heap[V.heap.size + 1]? = some (.cells #[.slice A xs.length cap] 45 (0, 0)) := by
    have := World.alloc_heap_new (V.alloc (.cells #[.slice none 0 0] 45)) (.cells #[.slice A xs.length cap] 45)
    simpa using this
  generalize (V.alloc (.cells #[.slice none 0 0] 45)).alloc (.cells #[.slice A xs.length cap] 45) = w0 at *
  have hjl := joinL_length xs
  refine wpIn_range (gf := 128) (lb := #[.pointer (some ⟨V.heap.size + 1, 0, none⟩)]) rfl (enters_of Try.func128 (by kernel_rfl) rfl)
    (rows1_stops V.heap.size (V.heap.size + 1) V.heap.size A cap xs w0 hlen (by omega) (by omega) (by simp [World.cell?, hbl]) (hl.ext hw0) (by omega) (by simp [World.cell?, hbo]))
    (by omega) (fun _ => rfl)
    (fun pre W => (∃ v, Coll w0.heap.size V.heap.size 45 pre W v) ∧ Ext V W ∧ w0.heap.size ≤ W.heap.size) (fun _ _ _ => False)
    (fun s A B h hab => ⟨h.1.imp fun v hv => hv.abI (by omega) hab, Below.trans h.2.1 (Below.mono hab.below (by omega)), Nat.le_trans h.2.2 hab.below.size⟩)
    (fun _ _ _ _ h _ => h)
    ⟨⟨_, hbo, Own.nil _ _ _ _ _⟩, hw0, Nat.le_refl _⟩
    (fun pre x a' W => (∃ v, Coll w0.heap.size V.heap.size 45 pre W v) ∧ Ext V W ∧ ∃ X, w0.heap.size ≤ X ∧ W.heap[X]? = some (.cells #[.int .i64 x.1, .int .i64 x.2] 23 (0, 0)) ∧
      a' = { tmps := #[.slice A xs.length cap, undef, .slice none 0 0, .pointer (some ⟨V.heap.size, 0, none⟩), .pointer (some ⟨X, 0, none⟩), .slice A xs.length cap, .func (.func 128) #[] #[.pointer (some ⟨V.heap.size + 1, 0, none⟩)], .agg #[.int .i64 (x.1), .int .i64 (x.2)], undef, undef, undef, undef, undef], defers := [] })
    ?hax ?assign ?body ?done ?stop
  case hax =>
    rintro pre x a' A B ⟨⟨v, hv⟩, hE, X, hX, hbX, rfl⟩ hb hk
    exact ⟨⟨v, hv.keep (by omega) hk⟩, Below.trans hE (Below.mono hb (by omega)), X, hX, hk X _ hbX rfl, rfl⟩
  case assign =>
    rintro l pre x W K ⟨⟨v, hv⟩, hE, hS⟩ hK
    have hlt := lt_of_heap hv.box
    have hsz := Ext.size hE
    gi_wp2
    refine hK _ _ ⟨⟨v, hv.ext ((Ext.refl W).alloc _)⟩, hE.alloc _, W.heap.size, hS, World.alloc_heap_new _ _, rfl⟩ ((KeepsOthers.alloc _ _).from _) (Kp.ext ((Below.refl _ W).alloc (Nat.le_refl _) _) (by omega) hlt)
  case body =>
    rintro l pre x a' W ⟨⟨v, hv⟩, hE, X, hX, hbX, rfl⟩ hgd
    have hlt : pre.length < (joinL xs).length := by have := hgd.length_le; simp at this; omega
    clear hgd
    obtain ⟨c1, c2⟩ := hv.cell
    have g0 : W.cell? ⟨X, 0, none⟩ = some (.int .i64 x.1) := by simp [World.cell?, hbX]
    have g1 : W.cell? ⟨X, 1, none⟩ = some (.int .i64 x.2) := by simp [World.cell?, hbX]
    have hsz := Ext.size hE
    have hltX := lt_of_heap hbX
    have HB := Lib.hid hbX
    have HV := Lib.hid hv
    clear hbX hv
    gi_wp2_with (gi_at_builtin; refine wpListIn_app_lit rfl (.tmp 8) (.tmp 10) 45 rfl spanInfo spanCells rfl (by exact HV.out.own) [x] 1 _ rfl (pre.length + 1) 1 (by simp) rfl W.heap.size rfl rfl (by omega) (by simp [maxLen]; omega) (by omega) ?_; intro A1 cap1 w1 hown1 hgr1 hat1; obtain ⟨⟨d1, d2⟩, hc2, hk2, hf2, -⟩ := Coll.app (HV.out.ext ((Ext.refl W).alloc _)) (by omega) (nV := V.heap.size) (Nat.le_refl _) (by simp; omega) (by simp) hown1 hgr1 hat1; have HC2 := Lib.hid hc2; have HK2 := Lib.hid hk2; have HF2 := Lib.hid hf2; clear hc2 hk2 hf2 hown1 hgr1 hat1)
    have hk0 : Kp V.heap.size w0.heap.size V.heap.size W (W.alloc (.cells #[.int .i64 x.1, .int .i64 x.2] 23)) := Kp.ext ((Below.refl _ W).alloc (Nat.le_refl _) _) (by omega) (by omega)
    exact ⟨KeepsFrom.trans ((KeepsOthers.alloc _ _).from _) HF2.out, hk0.trans HK2.out, ⟨_, HC2.out⟩, Below.trans hE (hk0.trans HK2.out).below, by have := (hk0.trans HK2.out).below.size; omega⟩
  case done =>
    rintro D ys W hD rfl ⟨⟨v, hv⟩, hE, hS⟩ hK
    obtain ⟨c1, c2⟩ := hv.cell
    have HV := Lib.hid hv
    clear hv
    gi_wp2
    refine ⟨by simp, .inl ⟨_, _, rfl, run_takeDeferred hK, ?_⟩⟩
    have hab : AbI w0.heap.size V.heap.size W (W.putObj D (.deferred none)) := AbI.putObj hD hK rfl
    exact ⟨_, results_tmp rfl _ _ _, v, rfl, (HV.out.abI (by omega) hab).own.mono (by omega), Below.trans hE (Below.mono hab.below (by omega))⟩
  case stop =>
    rintro D c pre W _ _ h _
    exact h.elim
end Go.Proofs.Ytkcpfimhbogdcaa

