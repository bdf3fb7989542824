/- Merged by program (merge.py) out of: CnM, CnN, CnO, CnQ, RchH, RchI. -/
import Derived.Test.YtphpppjfogpohaaMc17
import Derived.Test.YtphpppjfogpohaaMc16
import Derived.Test.YtphpppjfogpohaaMc3
import Derived.Test.YtphpppjfogpohaaMc2
/- The document's pairing: rows; none. -/
set_option linter.unusedSimpArgs false
set_option linter.unusedVariables false
namespace Go.Proofs.Ytphpppjfogpohaa
open Go.RowKit Go.Shelf
set_option maxRecDepth 100000
set_option maxHeartbeats 2000000
/-- The pairing's struct, and its two rows. -/
structure MR (V0 : World) (A B : GraphD) (b g1 g2 : Nat) (s : MtD) (w : World) : Prop where
  blk : w.heap[b]? = some (.cells #[.slice A.nA A.ns.length A.ncap, .slice A.rA A.rs.length A.rcap, .slice B.nA B.ns.length B.ncap, .slice B.rA B.rs.length B.rcap, .slice (some ⟨g1, 0, none⟩) A.ns.length A.ns.length, .slice (some ⟨g2, 0, none⟩) B.ns.length B.ns.length, .bool s.bad] 60 (0, 0))
  to : Own 3 1 intC w V0.heap.size (.slice (some ⟨g1, 0, none⟩) A.ns.length A.ns.length) s.to
  at_ : Own 3 1 intC w V0.heap.size (.slice (some ⟨g2, 0, none⟩) B.ns.length B.ns.length) s.at_
  ne : g1 ≠ g2
  ext : Ext V0 w
  lo : V0.heap.size ≤ b
section
variable {V0 : World} {A B : GraphD} {b g1 g2 : Nat} {s : MtD} {w w' : World}
theorem MR.grow (h : MR V0 A B b g1 g2 s w) (hx : Ext w w') : MR V0 A B b g1 g2 s w' :=
  ⟨(hx.block (lt_of_heap h.blk)).trans h.blk, h.to.ext hx, h.at_.ext hx, h.ne, h.ext.trans hx, h.lo⟩
theorem MR.no (h : MR V0 A B b g1 g2 s w) : MR V0 A B b g1 g2 s.no (w.setCell ⟨b, 6, none⟩ (.bool true)) :=
  ⟨blk_set h.blk _, h.to.setOther h.blk (by decide), h.at_.setOther h.blk (by decide), h.ne, h.ext.setCell h.lo _, h.lo⟩
theorem MR.neb (h : MR V0 A B b g1 g2 s w) : b ≠ g1 ∧ b ≠ g2 :=
  ⟨fun e => h.to.ne_block h.blk (by decide) (by rw [e]; rfl), fun e => h.at_.ne_block h.blk (by decide) (by rw [e]; rfl)⟩
theorem MR.set (h : MR V0 A B b g1 g2 s w) (hl : s.to.length = A.ns.length) (hm : s.at_.length = B.ns.length) (i k : Nat) :
    MR V0 A B b g1 g2 ⟨s.to.set i k, s.at_.set k i, s.bad⟩ ((w.setCell ⟨g1, i, none⟩ (.int .i64 k)).setCell ⟨g2, k, none⟩ (.int .i64 i)) := by
  obtain ⟨n1, n2⟩ := h.neb
  have a1 := own_setI h.to hl i k
  have a2 : Own 3 1 intC (w.setCell ⟨g1, i, none⟩ (.int .i64 k)) V0.heap.size (.slice (some ⟨g2, 0, none⟩) B.ns.length B.ns.length) s.at_ := h.at_.setNe (by
    intro e
    have : g2 = g1 := by simpa [Value.ownBlock] using e
    exact h.ne this.symm)
  refine ⟨blk_set_other (blk_set_other h.blk _ n1) _ n2, a1.setNe (by
    intro e
    have : g1 = g2 := by simpa [Value.ownBlock] using e
    exact h.ne this), own_setI a2 hm k i, h.ne, (h.ext.setCell (p := ⟨g1, i, none⟩) (own_below h.to rfl).1 _).setCell (p := ⟨g2, k, none⟩) (own_below h.at_ rfl).1 _, h.lo⟩
end
/-- So many are -1, the others 0. -/
def noneK (n k : Nat) : List Int := List.replicate k (-1) ++ List.replicate (n - k) 0
theorem noneK_len {n k : Nat} (h : k ≤ n) : (noneK n k).length = n := by simp [noneK]; omega
theorem noneK_set {n k : Nat} (h : k < n) : (noneK n k).set k (-1) = noneK n (k + 1) := by
  refine List.ext_getElem (by simp [noneK]; omega) fun i h1 h2 => ?_
  rw [List.getElem_set]
  have hi : i < n := by simp [noneK] at h2; omega
  by_cases he : k = i
  · subst he
    rw [if_pos rfl]
    simp only [noneK]
    rw [List.getElem_append_left (by simp)]
    simp
  · rw [if_neg he]
    simp only [noneK]
    by_cases hl : i < k
    · rw [List.getElem_append_left (by simpa using hl), List.getElem_append_left (by simp; omega)]
      simp
    · rw [List.getElem_append_right (by simp; omega), List.getElem_append_right (by simp; omega)]
      simp
theorem rnone_any (n : Nat) (V : World) (hn : n ≤ 1000) : Calls Try.prog 35 #[.int .i64 n] V fun e w' => ∃ g, e = .returned (.slice (some ⟨g, 0, none⟩) n n) ∧ Own 3 1 intC w' V.heap.size (.slice (some ⟨g, 0, none⟩) n n) (List.replicate n (-1)) ∧ Ext V w' := by
  go_enter Try.func35, Try.ntmps35
  go_wp2_with (at_make; refine wpList_makeI rfl (.tmp 5) rfl n rfl (by omega) ?_; intro w1 hown hx; have HO := Lib.hid hown; have HX := Lib.hid hx; clear hown hx)
  generalize hVX : V.heap.size = X at *
  have HVX := Lib.hid hVX
  clear hVX
  go_loopw [4] (fun i wr => ∃ k : Nat, k ≤ n ∧ i = .int .i64 k ∧ Hid (Ext V wr) ∧ Hid (Own 3 1 intC wr X (.slice (some ⟨X, 0, none⟩) n n) (noneK n k))) (fun i _ => n - (intOf i).toNat)
  case atStart => exact ⟨0, by omega, rfl, HX, Lib.hid (by have := HO.out; simpa [noneK] using this)⟩
  case round =>
    obtain ⟨k, hk, rfl, hxk, hO⟩ := hrel
    clear HX HO
    by_cases hlt : k < n
    rotate_left
    · obtain rfl : k = n := by omega
      go_wp2_with fail
      go_returns
      exact ⟨X, rfl, by have := hO.out; rw [HVX.out]; simpa [noneK] using this, hxk.out⟩
    have ib1 : (k : Int) < (n : Int) := by omega
    have ib0 : (0 : Int) ≤ (k : Int) := by omega
    have c1 := own_intAt hO.out (noneK_len hk) hlt
    obtain ⟨cur, hh⟩ := own_heap hO.out
    have fz := (cells_of hh).2
    have hS := own_setI hO.out (noneK_len hk) k (-1)
    rw [noneK_set hlt] at hS
    have HS := Lib.hid hS
    have HX2 := Lib.hid (hxk.out.setCell (p := ⟨X, k, none⟩) (by rw [HVX.out]; exact (own_below hO.out rfl).1) (.int .i64 (-1)))
    clear hS hh hO hxk
    generalize (noneK n k).getD k 0 = z at c1
    go_wp2_with fail
    go_roundw
    case rel => exact ⟨k + 1, by omega, by go_num, HX2, HS⟩
    case measure => simp [intOf]; omega
end Go.Proofs.Ytphpppjfogpohaa

/- The document's pairing: values. -/
set_option linter.unusedSimpArgs false
set_option linter.unusedVariables false
namespace Go.Proofs.Ytphpppjfogpohaa
open Go.RowKit Go.Shelf
set_option maxRecDepth 100000
set_option maxHeartbeats 2000000
/-- Two graphs that are paired. -/
structure MtG (V0 : World) (A B : GraphD) : Prop where
  a : GraphAt V0 A
  b : GraphAt V0 B
  oa : GOk A
  ob : GOk B
  ra : rightG A = true
  rb : rightG B = true
theorem valN_len (A : GraphD) : (valN A).length = A.ns.length := by simp [valN]
section
variable {V0 : World} {A B : GraphD} {b g1 g2 f : Nat}
def stM (A B : GraphD) (f : Nat) (s : MtD) (xs ys : List (Int × Int)) (k : Nat) : MtD := ((xs.zip ys).take k).foldl (valM (pairM (valN A) (valN B) f)) s
theorem zip_get {xs ys : List (Int × Int)} {k : Nat} (h1 : k < xs.length) (h2 : k < ys.length) : (xs.zip ys).getD k ((0, 0), (0, 0)) = (xs.getD k (0, 0), ys.getD k (0, 0)) := by
  rw [getD_get (by simp; omega), getD_get h1, getD_get h2, List.getElem_zip]
theorem stM_succ {s : MtD} {xs ys : List (Int × Int)} {k : Nat} (h1 : k < xs.length) (h2 : k < ys.length) : stM A B f s xs ys (k + 1) = valM (pairM (valN A) (valN B) f) (stM A B f s xs ys k) (xs.getD k (0, 0), ys.getD k (0, 0)) := by
  unfold stM
  rw [fold_take (d := ((0, 0), (0, 0))) (by simp; omega), zip_get h1 h2]
theorem stM_all {s : MtD} {xs ys : List (Int × Int)} (h : xs.length = ys.length) : stM A B f s xs ys xs.length = valsM (pairM (valN A) (valN B) f) s xs ys := by
  unfold stM valsM
  rw [if_pos h, List.take_of_length_le (by simp; omega)]
theorem stM_bad {s : MtD} {xs ys : List (Int × Int)} (h : xs.length = ys.length) {k : Nat} (hb : (stM A B f s xs ys k).bad = true) : valsM (pairM (valN A) (valN B) f) s xs ys = stM A B f s xs ys k := by
  unfold stM valsM at *
  rw [if_pos h]
  conv => lhs; rw [← List.take_append_drop k (xs.zip ys), List.foldl_append]
  exact foldM_bad _ _ hb
theorem stM_ok (hG : MtG V0 A B) {s : MtD} {xs ys : List (Int × Int)} (h : xs.length = ys.length) (ok : MtOk A.ns.length B.ns.length s) (vx : valsOk A.ns.length xs) (vy : valsOk B.ns.length ys) (hf : s.left < f) (k : Nat) :
    MtOk A.ns.length B.ns.length (stM A B f s xs ys k) ∧ (stM A B f s xs ys k).left < f := by
  have pa := pgOk_of hG.oa hG.ra
  have pb := pgOk_of hG.ob hG.rb
  rw [← valN_len A, ← valN_len B] at *
  have e : (xs.zip ys).take k = (xs.take k).zip (ys.take k) := by
    exact List.take_zipWith
  unfold stM
  rw [e]
  obtain ⟨h1, -⟩ := valsM_step (ns := valN A) (ms := valN B) (f := f) (pairM_step pa.nodes pb.nodes f) (xs.take k) (ys.take k) s (by simp; omega) ok (fun v hv => vx v (List.mem_of_mem_take hv)) (fun v hv => vy v (List.mem_of_mem_take hv)) hf
  exact ⟨h1.ok, Nat.lt_of_le_of_lt (left_le (by rw [ok.lt, h1.ok.lt]) h1.sub ok) hf⟩
/-- What pairing does at a fuel. -/
def PairC (V0 : World) (A B : GraphD) (b g1 g2 f : Nat) : Prop := ∀ (s : MtD) (i k : Nat) (V : World), MR V0 A B b g1 g2 s V → MtOk A.ns.length B.ns.length s → s.bad = false → i < A.ns.length → k < B.ns.length → s.left < f →
  Calls Try.prog 58 #[.pointer (some ⟨b, 0, none⟩), .int .i64 i, .int .i64 k] V fun e w' => e = .returned (.tuple #[]) ∧ MR V0 A B b g1 g2 (pairM (valN A) (valN B) f s i k) w'
theorem rvals_any (hG : MtG V0 A B) (hp : PairC V0 A B b g1 g2 f) (s : MtD) (xs ys : List (Int × Int)) (A1 A2 : Option Addr) (cap1 cap2 : Nat) (V : World) (h : MR V0 A B b g1 g2 s V) (ok : MtOk A.ns.length B.ns.length s) (hb : s.bad = false)
    (hx : SpansAt V0 A1 xs) (hy : SpansAt V0 A2 ys) (lx : xs.length ≤ 8796093022208) (ly : ys.length ≤ 8796093022208) (vx : valsOk A.ns.length xs) (vy : valsOk B.ns.length ys) (hf : s.left < f) :
    Calls Try.prog 36 #[.pointer (some ⟨b, 0, none⟩), .slice A1 xs.length cap1, .slice A2 ys.length cap2] V fun e w' => e = .returned (.tuple #[]) ∧ MR V0 A B b g1 g2 (valsM (pairM (valN A) (valN B) f) s xs ys) w' := by
  have H := Lib.hid h
  have k1 := (cells_of h.blk).1
  have fk := (cells_of h.blk).2
  by_cases hl : xs.length = ys.length
  rotate_left
  · have hne : ((xs.length : Int) != (ys.length : Int)) = true := by rw [bne_iff_ne]; omega
    have HV : Hid (valsM (pairM (valN A) (valN B) f) s xs ys = s.no) := Lib.hid (by
      unfold valsM
      rw [if_neg hl]
      exact foldM_bad _ _ rfl)
    clear hG hp hx hy vx vy hf ok h hl
    go_enter Try.func36, Try.ntmps36
    go_wp2_with fail
    have HN := Lib.hid H.out.no
    generalize V.setCell ⟨b, 6, none⟩ (.bool true) = W at *
    clear k1 fk H
    go_loopw [6] (fun i wr => i = .int .i64 0 ∧ Hid (MR V0 A B b g1 g2 s.no wr)) (fun i _ => 0)
    case atStart => exact ⟨rfl, HN⟩
    case round =>
      obtain ⟨rfl, HR⟩ := hrel
      have k1 := (cells_of HR.out.blk).1
      have hbn : s.no.bad = true := rfl
      rw [hbn] at k1
      by_cases h0 : 0 < xs.length
      · have h0' : (0 : Int) < (xs.length : Int) := by omega
        go_wp2_with fail
        go_returns
        rw [HV.out]
        exact ⟨rfl, HR.out⟩
      · have h0' : xs.length = 0 := by omega
        go_wp2_with fail
        go_returns
        rw [HV.out]
        exact ⟨rfl, HR.out⟩
  have hne : ((xs.length : Int) != (ys.length : Int)) = false := by rw [hl]; simp
  have HL := Lib.hid hl
  have HP := Lib.hid hp
  have HSX := Lib.hid hx
  have HSY := Lib.hid hy
  have HVX := Lib.hid vx
  have HVY := Lib.hid vy
  have HOK := Lib.hid (fun k => stM_ok hG hl ok vx vy hf k)
  have HBB := Lib.hid hb
  clear hp hx hy vx vy hf ok h hl hb k1 fk
  go_enter Try.func36, Try.ntmps36
  go_wp2_with fail
  go_loopw [6] (fun i wr => ∃ k : Nat, k ≤ xs.length ∧ i = .int .i64 k ∧ Hid (MR V0 A B b g1 g2 (stM A B f s xs ys k) wr)) (fun i _ => xs.length - (intOf i).toNat)
  case atStart => exact ⟨0, by omega, rfl, Lib.hid (by have := H.out; unfold stM; exact this)⟩
  case round =>
    obtain ⟨k, hk, rfl, HR⟩ := hrel
    clear H hne
    have k1 := (cells_of HR.out.blk).1
    by_cases hlt : k < xs.length
    rotate_left
    · obtain rfl : k = xs.length := by omega
      have HA := Lib.hid (stM_all (A := A) (B := B) (f := f) (s := s) HL.out)
      generalize stM A B f s xs ys xs.length = t at *
      go_wp2_with fail
      go_returns
      rw [← HA.out]
      exact ⟨rfl, HR.out⟩
    have hlt2 : k < ys.length := by have := HL.out; omega
    obtain ⟨ho1, ho2⟩ := HOK.out k
    have HO1 := Lib.hid ho1
    have HO2 := Lib.hid ho2
    have HSU := Lib.hid (stM_succ (A := A) (B := B) (f := f) (s := s) hlt hlt2)
    have HSB := Lib.hid (fun h => stM_bad (A := A) (B := B) (f := f) (s := s) HL.out (k := k) h)
    have HSB2 := Lib.hid (fun h => stM_bad (A := A) (B := B) (f := f) (s := s) HL.out (k := k + 1) h)
    obtain ⟨lb, off, rfl, hc⟩ := HSX.out.get (by omega)
    obtain ⟨lb2, off2, rfl, hc2⟩ := HSY.out.get (by omega)
    obtain ⟨e1, e2⟩ := spans_cell hc hlt
    obtain ⟨e3, e4⟩ := spans_cell hc2 hlt2
    have hxr := HR.out.ext
    have c1 := hxr.cell e1
    have c2 := hxr.cell e2
    have c3 := hxr.cell e3
    have c4 := hxr.cell e4
    have hvx := HVX.out _ (getD_mem (d := (0, 0)) hlt)
    have hvy := HVY.out _ (getD_mem (d := (0, 0)) hlt2)
    have ib0 : (0 : Int) ≤ (k : Int) := by omega
    have ib1 : (k : Int) < (xs.length : Int) := by omega
    have ib2 : (k : Int) < (ys.length : Int) := by omega
    have HLT := Lib.hid hlt
    clear hc hc2 e1 e2 e3 e4 hxr ho1 ho2 hlt hlt2
    generalize xs.getD k (0, 0) = x at *
    generalize ys.getD k (0, 0) = y at *
    generalize hT1 : stM A B f s xs ys (k + 1) = t1 at *
    have HT1 := Lib.hid hT1
    clear hT1
    generalize stM A B f s xs ys k = t at *
    obtain ⟨x1, x2⟩ := x
    obtain ⟨y1, y2⟩ := y
    simp only at c1 c2 c3 c4 hvx hvy
    cases hb : t.bad with
    | true =>
      have HE := Lib.hid (HSB.out hb)
      rw [hb] at k1
      clear HSB HSB2 HSU hvx hvy c1 c2 c3 c4 hb
      go_wp2_with fail
      go_returns
      rw [HE.out]
      exact ⟨rfl, HR.out⟩
    | false =>
    have HB := Lib.hid hb
    rw [hb] at k1
    have l1 := (pers_blk HR.out.blk).cells
    rw [hb] at l1
    have l2 := pers_cell c1
    have l3 := pers_cell c2
    have l4 := pers_cell c3
    have l5 := pers_cell c4
    have hs0 : Ext wr wr := Ext.refl _
    clear c1 c2 c3 c4 hb HSB
    obtain ⟨wo, rfl⟩ : ∃ wo : World, wo = wr := ⟨_, rfl⟩
    by_cases q1 : x1 = y1
    rotate_left
    · have hb1 : (x1 == y1) = false := by rw [beq_eq_false_iff_ne]; exact q1
      have hb1' : (x1 != y1) = true := by rw [bne_iff_ne]; exact q1
      have HT : Hid (t1 = t.no) := Lib.hid (by rw [HSU.out]; unfold valM; rw [if_neg (by rw [HB.out]; decide), if_pos (.inl q1)])
      have HE : Hid (valsM (pairM (valN A) (valN B) f) s xs ys = t.no) := Lib.hid (by rw [HSB2.out (by rw [HT.out]; rfl), HT.out])
      clear HSB2 HSU hvx hvy q1
      go_wp2_with fail
      (refine wp_region_ext (W := wo) (by kernel_rfl) (by kernel_rfl) (by with_reducible assumption) ?_; (repeat (go_big_quiet_step (fail))); refine wpQuiet_nil ?_; intro w1 hx)
      have HR1 := Lib.hid (HR.out.grow hx)
      have k1 := (cells_of HR1.out.blk).1
      have fk := (cells_of HR1.out.blk).2
      clear l1 l2 l3 l4 l5 hs0 hx
      go_wp2_with fail
      go_returns
      rw [HE.out]
      exact ⟨rfl, HR1.out.no⟩
    subst q1
    by_cases q2 : x1 = 2
    · subst q2
      have HT : Hid (t1 = pairM (valN A) (valN B) f t x2.toNat y2.toNat) := Lib.hid (by rw [HSU.out]; unfold valM; rw [if_neg (by rw [HB.out]; decide), if_neg (by simp), if_pos rfl])
      obtain ⟨a1, a2⟩ := hvx rfl
      obtain ⟨a3, a4⟩ := hvy rfl
      obtain ⟨i, rfl⟩ := Int.eq_ofNat_of_zero_le a1
      obtain ⟨j, rfl⟩ := Int.eq_ofNat_of_zero_le a3
      have HI : Hid (i < A.ns.length) := Lib.hid (by omega)
      have HJ : Hid (j < B.ns.length) := Lib.hid (by omega)
      simp only [Int.toNat_natCast] at HT
      clear HSB2 HSU hvx hvy a1 a2 a3 a4
      go_wp2_with fail
      (refine wp_region_ext (W := wo) (by kernel_rfl) (by kernel_rfl) (by with_reducible assumption) ?_; (repeat (go_big_quiet_step (fail))); refine wpQuiet_nil ?_; intro w1 hx)
      have HR1 := Lib.hid (HR.out.grow hx)
      have c1 := l2 ⟨w1, hx⟩
      have c2 := l3 ⟨w1, hx⟩
      have c3 := l4 ⟨w1, hx⟩
      have c4 := l5 ⟨w1, hx⟩
      simp only at c1 c2 c3 c4
      clear hs0 hx l1 l2 l3 l4 l5
      have l1 := (pers_blk HR1.out.blk).cells
      have l2 := pers_cell c1
      have l3 := pers_cell c2
      have l4 := pers_cell c3
      have l5 := pers_cell c4
      have hs1 : Ext w1 w1 := Ext.refl _
      obtain ⟨wa, rfl⟩ : ∃ wa : World, wa = w1 := ⟨_, rfl⟩
      go_wp2_with fail
      (refine wp_region_ext_tail (W := wa) 11 (by kernel_rfl) (by kernel_rfl) (by with_reducible assumption) ?_; simp only [List.take_succ_cons, List.take_zero, List.drop_succ_cons, List.drop_zero]; (repeat (go_big_quiet_step (fail))); refine wpQuiet_nil ?_; intro w1 hx)
      have HR2 := Lib.hid (HR1.out.grow hx)
      clear l1 l2 l3 l4 l5 hs1 hx HR1 HR k1
      go_wp2_with fail
      refine (HP.out t i j _ HR2.out HO1.out HB.out HI.out HJ.out HO2.out).mono ?_
      rintro e w5 ⟨rfl, hr⟩
      rw [← HT.out] at hr
      have HR3 := Lib.hid hr
      clear hr HR2
      go_wp2_with fail
      go_roundw
      case rel => exact ⟨k + 1, by have := HLT.out; omega, by go_num, by rw [HT1.out]; exact HR3⟩
      case measure => have := HLT.out; simp [intOf]; omega
    have hb2 : (x1 == 2) = false := by rw [beq_eq_false_iff_ne]; exact q2
    have hb2' : (x1 != 2) = true := by rw [bne_iff_ne]; exact q2
    by_cases q3 : x2 = y2
    · subst q3
      have HT : Hid (t1 = t) := Lib.hid (by rw [HSU.out]; unfold valM; rw [if_neg (by rw [HB.out]; decide), if_neg (by simp), if_neg q2])
      clear HSB2 HSU hvx hvy q2
      go_wp2_with fail
      (refine wp_region_ext (W := wo) (by kernel_rfl) (by kernel_rfl) (by with_reducible assumption) ?_; (repeat (go_big_quiet_step (fail))); refine wpQuiet_nil ?_; intro w1 hx)
      have HR1 := Lib.hid (HR.out.grow hx)
      have c1 := l2 ⟨w1, hx⟩
      rw [← HT.out] at HR1
      simp only at c1
      clear l1 l2 l3 l4 l5 hs0 hx k1 HR
      go_wp2_with fail
      go_roundw
      case rel => exact ⟨k + 1, by have := HLT.out; omega, by go_num, by rw [HT1.out]; exact HR1⟩
      case measure => have := HLT.out; simp [intOf]; omega
    · have hb3 : (x2 == y2) = false := by rw [beq_eq_false_iff_ne]; exact q3
      have hb3' : (x2 != y2) = true := by rw [bne_iff_ne]; exact q3
      have HT : Hid (t1 = t.no) := Lib.hid (by rw [HSU.out]; unfold valM; rw [if_neg (by rw [HB.out]; decide), if_pos (.inr ⟨q2, by simp; exact q3⟩)])
      have HE : Hid (valsM (pairM (valN A) (valN B) f) s xs ys = t.no) := Lib.hid (by rw [HSB2.out (by rw [HT.out]; rfl), HT.out])
      clear HSB2 HSU hvx hvy q2 q3
      go_wp2_with fail
      (refine wp_region_ext (W := wo) (by kernel_rfl) (by kernel_rfl) (by with_reducible assumption) ?_; (repeat (go_big_quiet_step (fail))); refine wpQuiet_nil ?_; intro w1 hx)
      have HR1 := Lib.hid (HR.out.grow hx)
      have k1 := (cells_of HR1.out.blk).1
      have fk := (cells_of HR1.out.blk).2
      clear l1 l2 l3 l4 l5 hs0 hx
      go_wp2_with fail
      go_returns
      rw [HE.out]
      exact ⟨rfl, HR1.out.no⟩
end
end Go.Proofs.Ytphpppjfogpohaa

/- The document's pairing: two nodes; Match. -/
set_option linter.unusedSimpArgs false
set_option linter.unusedVariables false
namespace Go.Proofs.Ytphpppjfogpohaa
open Go.RowKit Go.Shelf
set_option maxRecDepth 100000
set_option maxHeartbeats 2000000
section
variable {V0 : World} {A B : GraphD} {b g1 g2 : Nat}
theorem noms_of (hG : MtG V0 A B) : (∀ x ∈ A.ns, x.fields.length ≤ 4096 ∧ x.raws.length ≤ 4096) ∧ (∀ x ∈ B.ns, x.fields.length ≤ 4096 ∧ x.raws.length ≤ 4096) := by
  refine ⟨fun x hx => ?_, fun x hx => ?_⟩
  · have := ((right_parts hG.ra).1 x hx).1
    simp [okN] at this
    omega
  · have := ((right_parts hG.rb).1 x hx).1
    simp [okN] at this
    omega
/-- A node that is loaded whole, pairwise. -/
theorem rpair_any (hG : MtG V0 A B) : ∀ f : Nat, PairC V0 A B b g1 g2 f := by
  intro f
  induction f with
  | zero => intro s i k V _ _ _ _ _ h; omega
  | succ f ih =>
  intro s i k V h ok hb hi hk hf
  have IH := Lib.hid ih
  have HG := Lib.hid hG
  have H := Lib.hid h
  have HOK := Lib.hid ok
  have HBB := Lib.hid hb
  have HF := Lib.hid hf
  have k1 := (cells_of h.blk).1
  have fk := (cells_of h.blk).2
  have ct := own_intAt h.to ok.lt hi
  have ca := own_intAt h.at_ ok.la hk
  obtain ⟨cur1, hc1⟩ := own_heap h.to
  obtain ⟨cur2, hc2⟩ := own_heap h.at_
  have f1 := (cells_of hc1).2
  have f2 := (cells_of hc2).2
  have ib0 : (0 : Int) ≤ (i : Int) := by omega
  have ib1 : (i : Int) < (A.ns.length : Int) := by omega
  have ib2 : (0 : Int) ≤ (k : Int) := by omega
  have ib3 : (k : Int) < (B.ns.length : Int) := by omega
  have ht := ok.to i hi
  have ha := ok.at_ k hk
  have HI := Lib.hid hi
  have HK := Lib.hid hk
  by_cases q1 : s.to.getD i 0 = k ∧ s.at_.getD k 0 = i
  · obtain ⟨q1, q2⟩ := q1
    have HE : Hid (pairM (valN A) (valN B) (f + 1) s i k = s) := Lib.hid (by rw [pairM, if_pos ⟨q1, q2⟩])
    rw [q1] at ct
    rw [q2] at ca
    clear h ok hb hf ih hG hi hk hc1 hc2 ht ha q1 q2
    go_enter Try.func58, Try.ntmps58
    go_wp2_with fail
    go_returns
    rw [HE.out]
    exact ⟨rfl, H.out⟩
  by_cases q2 : 0 ≤ s.to.getD i 0 ∨ 0 ≤ s.at_.getD k 0
  · have HE : Hid (pairM (valN A) (valN B) (f + 1) s i k = s.no) := Lib.hid (by rw [pairM, if_neg q1, if_pos q2])
    clear h ok hb hf ih hG hi hk hc1 hc2
    rcases ht with ht | ⟨c, hc, ht, ht2⟩
    · rcases ha with ha | ⟨d, hd, ha, ha2⟩
      · omega
      rw [ht] at ct
      rw [ha] at ca
      have n1 : ((-1 : Int) == (k : Int)) = false := by rw [beq_eq_false_iff_ne]; omega
      clear q1 q2 ht ha ha2 hd
      go_enter Try.func58, Try.ntmps58
      go_wp2_with fail
      go_returns
      rw [HE.out]
      exact ⟨rfl, H.out.no⟩
    · have n1 : ((c : Int) == (k : Int)) = false := by
        rw [beq_eq_false_iff_ne]
        intro e
        have : c = k := by omega
        subst this
        exact q1 ⟨ht, ht2⟩
      rw [ht] at ct
      clear q1 q2 ht ht2 hc ha
      go_enter Try.func58, Try.ntmps58
      go_wp2_with fail
      go_returns
      rw [HE.out]
      exact ⟨rfl, H.out.no⟩
  have e1 : s.to.getD i 0 = -1 := by
    rcases ht with ht | ⟨c, hc, ht, ht2⟩
    · exact ht
    · omega
  have e2 : s.at_.getD k 0 = -1 := by
    rcases ha with ha | ⟨d, hd, ha, ha2⟩
    · exact ha
    · omega
  have hp := ok.pair (i := i) (k := k) hi hk (by omega) (by omega)
  have hlf := left_pair (k := k) ok hi (by omega)
  have n1 : ((-1 : Int) == (k : Int)) = false := by rw [beq_eq_false_iff_ne]; omega
  rw [e1] at ct
  rw [e2] at ca
  have H2 := h.set ok.lt ok.la i k
  have HPR : Hid (pairM (valN A) (valN B) (f + 1) s i k = if (A.ns.getD i default).kind ≠ (B.ns.getD k default).kind ∨ (A.ns.getD i default).raws ≠ (B.ns.getD k default).raws then MtD.no ⟨s.to.set i k, s.at_.set k i, s.bad⟩
      else valsM (pairM (valN A) (valN B) f) ⟨s.to.set i k, s.at_.set k i, s.bad⟩ (A.ns.getD i default).fields (B.ns.getD k default).fields) := Lib.hid (by
    rw [pairM, if_neg q1, if_neg q2, valN_get hi, valN_get hk]
    rfl)
  obtain ⟨nb, noff, hA, hcn⟩ := hG.a.nodes.row.get (by omega)
  obtain ⟨nb2, noff2, hA2, hcn2⟩ := hG.b.nodes.row.get (by omega)
  obtain ⟨d0, d1, d2⟩ := nodes_cell hcn hi
  obtain ⟨d3, d4, d5⟩ := nodes_cell hcn2 hk
  have D0 := Lib.hid d0
  have D1 := Lib.hid d1
  have D2 := Lib.hid d2
  have D3 := Lib.hid d3
  have D4 := Lib.hid d4
  have D5 := Lib.hid d5
  have HNA := Lib.hid (hG.a.nodes.each _ (getD_mem (d := default) hi))
  have HNB := Lib.hid (hG.b.nodes.each _ (getD_mem (d := default) hk))
  have HFA := Lib.hid ((noms_of hG).1 _ (getD_mem (d := default) hi))
  have HFB := Lib.hid ((noms_of hG).2 _ (getD_mem (d := default) hk))
  have HVA : Hid (valsOk A.ns.length (A.ns.getD i default).fields) := Lib.hid (by
    have := (pgOk_of hG.oa hG.ra).nodes _ (getD_mem' (d := (0, [], [])) (by rw [valN_len]; exact hi))
    rw [valN_get hi, valN_len] at this
    exact this)
  have HVB : Hid (valsOk B.ns.length (B.ns.getD k default).fields) := Lib.hid (by
    have := (pgOk_of hG.ob hG.rb).nodes _ (getD_mem' (d := (0, [], [])) (by rw [valN_len]; exact hk))
    rw [valN_get hk, valN_len] at this
    exact this)
  have HP2 := Lib.hid hp
  have HLF : Hid (MtD.left ⟨s.to.set i k, s.at_.set k i, s.bad⟩ < f) := Lib.hid (by omega)
  have HR2 := Lib.hid H2
  have hb2 : (⟨s.to.set i k, s.at_.set k i, s.bad⟩ : MtD).bad = false := hb
  have HBD := Lib.hid hb2
  have HAA := Lib.hid hA
  have HAB := Lib.hid hA2
  have hne : g1 ≠ g2 := h.ne
  have hnb := h.neb
  clear h ok hb hf ih hG hi hk hcn hcn2 d0 d1 d2 d3 d4 d5 ht ha q1 q2 e1 e2 hp hlf H2 hA hA2 hb2
  generalize A.ns.getD i default = x at *
  generalize B.ns.getD k default = y at *
  go_enter Try.func58, Try.ntmps58
  go_wp2_with fail
  generalize (V.setCell ⟨g1, i, none⟩ (.int .i64 (k : Nat))).setCell ⟨g2, k, none⟩ (.int .i64 (i : Nat)) = W2 at *
  have hx2 := HR2.out.ext
  have l1 := (pers_blk HR2.out.blk).cells
  simp only [HAA.out, HAB.out] at l1
  have l2 := pers_cell (hx2.cell D0.out)
  have l3 := pers_cell (hx2.cell D1.out)
  have l4 := pers_cell (hx2.cell D2.out)
  have l5 := pers_cell (hx2.cell D3.out)
  have l6 := pers_cell (hx2.cell D4.out)
  have l7 := pers_cell (hx2.cell D5.out)
  have hs0 : Ext W2 W2 := Ext.refl _
  clear k1 fk ct ca f1 f2 hc1 hc2 H HOK n1 hne hnb hx2
  refine wp_region_tree (fun w' => ∃ u : ExtOf W2, w' = u.1) [0, 1, 2, 3, 4, 5, 6, 7, 8, 9, 10, 11, 12, 13, 14, 15] 4 [(16, [(17, [(18, [(19, ())])])]), (17, [(16, [(18, [(19, ())])])])] [] (by kernel_rfl) (by kernel_rfl) (by intro c a d v w h; cases d <;> exact h) ⟨⟨_, (Ext.refl W2).drew⟩, rfl⟩ ?_
  simp only [opsOf, List.map_cons, List.map_nil, List.getD_cons_zero, List.getD_cons_succ]
  (repeat (go_big_quiet_step (fail)))
  refine wpQuiet_nil ?_
  have hs1 : Ext W2 W2.drew := (Ext.refl W2).drew
  generalize W2.drew = w0 at *
  refine tr_two ?_ ?_
  · (refine op_step (by rfl) ?_; intro K hK; go_simp; refine hK _ _ (ext_u ?_) ?_; (focus exact (by repeat (first | (with_reducible exact Ext.refl _) | (with_reducible assumption) | (with_reducible refine Ext.drew ?_) | (with_reducible refine Ext.alloc ?_ _) | ((with_reducible refine Ext.setCell ?_ ?_ _); rotate_left; (focus (simp; try omega))) | (with_reducible refine Ext.trans ?_ (by assumption))))); clear hK K)
    refine tr_one ?_
    (refine op_step (by rfl) ?_; intro K hK; go_simp; refine hK _ _ (ext_u ?_) ?_; (focus exact (by repeat (first | (with_reducible exact Ext.refl _) | (with_reducible assumption) | (with_reducible refine Ext.drew ?_) | (with_reducible refine Ext.alloc ?_ _) | ((with_reducible refine Ext.setCell ?_ ?_ _); rotate_left; (focus (simp; try omega))) | (with_reducible refine Ext.trans ?_ (by assumption))))); clear hK K)
    refine tr_one ?_
    (refine op_step (by rfl) ?_; intro K hK; go_simp; refine hK _ _ (ext_u ?_) ?_; (focus exact (by repeat (first | (with_reducible exact Ext.refl _) | (with_reducible assumption) | (with_reducible refine Ext.drew ?_) | (with_reducible refine Ext.alloc ?_ _) | ((with_reducible refine Ext.setCell ?_ ?_ _); rotate_left; (focus (simp; try omega))) | (with_reducible refine Ext.trans ?_ (by assumption))))); clear hK K)
    refine tr_one ?_
    (refine op_step (by rfl) ?_; intro K hK; go_simp; refine hK _ _ (ext_u ?_) ?_; (focus exact (by repeat (first | (with_reducible exact Ext.refl _) | (with_reducible assumption) | (with_reducible refine Ext.drew ?_) | (with_reducible refine Ext.alloc ?_ _) | ((with_reducible refine Ext.setCell ?_ ?_ _); rotate_left; (focus (simp; try omega))) | (with_reducible refine Ext.trans ?_ (by assumption))))); clear hK K)
    refine tr_nil ?_
    have hx5 : Ext W2 ((w0.alloc (.cells #[.int .i64 x.kind, .slice x.fA x.fields.length x.fcap, .slice x.rA x.raws.length x.rcap] 51)).alloc (.cells #[.int .i64 y.kind, .slice y.fA y.fields.length y.fcap, .slice y.rA y.raws.length y.rcap] 51)) := (hs1.alloc _).alloc _
    have hb0 : ((w0.alloc (.cells #[.int .i64 x.kind, .slice x.fA x.fields.length x.fcap, .slice x.rA x.raws.length x.rcap] 51)).alloc (.cells #[.int .i64 y.kind, .slice y.fA y.fields.length y.fcap, .slice y.rA y.raws.length y.rcap] 51)).heap[w0.heap.size]? = some (.cells #[.int .i64 x.kind, .slice x.fA x.fields.length x.fcap, .slice x.rA x.raws.length x.rcap] 51 (0, 0)) := blk_old (blk_new w0 _ _ _ rfl)
    have hb1 : ((w0.alloc (.cells #[.int .i64 x.kind, .slice x.fA x.fields.length x.fcap, .slice x.rA x.raws.length x.rcap] 51)).alloc (.cells #[.int .i64 y.kind, .slice y.fA y.fields.length y.fcap, .slice y.rA y.raws.length y.rcap] 51)).heap[w0.heap.size + 1]? = some (.cells #[.int .i64 y.kind, .slice y.fA y.fields.length y.fcap, .slice y.rA y.raws.length y.rcap] 51 (0, 0)) := blk_new (w0.alloc (.cells #[.int .i64 x.kind, .slice x.fA x.fields.length x.fcap, .slice x.rA x.raws.length x.rcap] 51)) _ _ _ (by simp)
    generalize (w0.alloc (.cells #[.int .i64 x.kind, .slice x.fA x.fields.length x.fcap, .slice x.rA x.raws.length x.rcap] 51)).alloc (.cells #[.int .i64 y.kind, .slice y.fA y.fields.length y.fcap, .slice y.rA y.raws.length y.rcap] 51) = w5 at *
    generalize w0.heap.size + 1 = Y at *
    generalize w0.heap.size = X at *
    have hbx := hb0
    have hby := hb1
    clear hb0 hb1
    clear l1 l2 l3 l4 l5 l6 l7 hs0 hs1
    have HR5 := Lib.hid (HR2.out.grow hx5)
    have HBX := Lib.hid hbx
    have HBY := Lib.hid hby
    have kx := (cells_of hbx).1
    have ky := (cells_of hby).1
    have k1 := (cells_of HR5.out.blk).1
    have fk := (cells_of HR5.out.blk).2
    have hx0 := HR5.out.ext
    have HX0 := Lib.hid hx0
    clear hbx hby hx5 hx0 HR2
    by_cases hk1 : x.kind = y.kind
    rotate_left
    · have hd : (x.kind != y.kind) = true := by simpa using hk1
      have HE : Hid (pairM (valN A) (valN B) (f + 1) s i k = MtD.no ⟨s.to.set i k, s.at_.set k i, s.bad⟩) := Lib.hid (by rw [HPR.out, if_pos (.inl hk1)])
      clear hk1
      go_wp2_with fail
      go_returns
      rw [HE.out]
      exact ⟨rfl, HR5.out.no⟩
    have hd : (x.kind != y.kind) = false := by simpa using hk1
    have HK1 := Lib.hid hk1
    obtain ⟨c, hc⟩ : ∃ c, decide (x.raws = y.raws) = c := ⟨_, rfl⟩
    have HC := Lib.hid hc
    clear hk1 hc
    go_wp2_with fail
    refine (refwords_is x.rA y.rA x.rcap y.rcap x.raws y.raws c HC.out _ (by have := HFA.out; omega) (by have := HFB.out; omega) (HNA.out.raws.ext HX0.out) (HNB.out.raws.ext HX0.out)).mono ?_
    rintro e w6 ⟨rfl, hx6⟩
    have HR6 := Lib.hid (HR5.out.grow hx6)
    have hbx6 := (hx6.block (lt_of_heap HBX.out)).trans HBX.out
    have hby6 := (hx6.block (lt_of_heap HBY.out)).trans HBY.out
    clear kx ky k1 fk hx6 HX0 HBX HBY
    have kx := (cells_of hbx6).1
    have ky := (cells_of hby6).1
    have k1 := (cells_of HR6.out.blk).1
    have fk := (cells_of HR6.out.blk).2
    clear hbx6 hby6 HR5
    cases c
    · have HE : Hid (pairM (valN A) (valN B) (f + 1) s i k = MtD.no ⟨s.to.set i k, s.at_.set k i, s.bad⟩) := Lib.hid (by rw [HPR.out, if_pos (.inr (of_decide_eq_false HC.out))])
      go_wp2_with fail
      go_returns
      rw [HE.out]
      exact ⟨rfl, HR6.out.no⟩
    · have HE : Hid (pairM (valN A) (valN B) (f + 1) s i k = valsM (pairM (valN A) (valN B) f) ⟨s.to.set i k, s.at_.set k i, s.bad⟩ x.fields y.fields) := Lib.hid (by rw [HPR.out, if_neg (by simp only [not_or, Classical.not_not]; exact ⟨HK1.out, of_decide_eq_true HC.out⟩)])
      go_wp2_with fail
      refine (rvals_any HG.out IH.out _ x.fields y.fields x.fA y.fA x.fcap y.fcap _ HR6.out HP2.out HBD.out HNA.out.fields HNB.out.fields (by have := HFA.out; omega) (by have := HFB.out; omega) HVA.out HVB.out HLF.out).mono ?_
      rintro e w7 ⟨rfl, hr⟩
      rw [← HE.out] at hr
      have HR7 := Lib.hid hr
      clear hr kx ky k1 fk HR6
      go_wp2_with fail
      go_returns
      exact ⟨rfl, HR7.out⟩
  · (refine op_step (by rfl) ?_; intro K hK; go_simp; refine hK _ _ (ext_u ?_) ?_; (focus exact (by repeat (first | (with_reducible exact Ext.refl _) | (with_reducible assumption) | (with_reducible refine Ext.drew ?_) | (with_reducible refine Ext.alloc ?_ _) | ((with_reducible refine Ext.setCell ?_ ?_ _); rotate_left; (focus (simp; try omega))) | (with_reducible refine Ext.trans ?_ (by assumption))))); clear hK K)
    refine tr_one ?_
    (refine op_step (by rfl) ?_; intro K hK; go_simp; refine hK _ _ (ext_u ?_) ?_; (focus exact (by repeat (first | (with_reducible exact Ext.refl _) | (with_reducible assumption) | (with_reducible refine Ext.drew ?_) | (with_reducible refine Ext.alloc ?_ _) | ((with_reducible refine Ext.setCell ?_ ?_ _); rotate_left; (focus (simp; try omega))) | (with_reducible refine Ext.trans ?_ (by assumption))))); clear hK K)
    refine tr_one ?_
    (refine op_step (by rfl) ?_; intro K hK; go_simp; refine hK _ _ (ext_u ?_) ?_; (focus exact (by repeat (first | (with_reducible exact Ext.refl _) | (with_reducible assumption) | (with_reducible refine Ext.drew ?_) | (with_reducible refine Ext.alloc ?_ _) | ((with_reducible refine Ext.setCell ?_ ?_ _); rotate_left; (focus (simp; try omega))) | (with_reducible refine Ext.trans ?_ (by assumption))))); clear hK K)
    refine tr_one ?_
    (refine op_step (by rfl) ?_; intro K hK; go_simp; refine hK _ _ (ext_u ?_) ?_; (focus exact (by repeat (first | (with_reducible exact Ext.refl _) | (with_reducible assumption) | (with_reducible refine Ext.drew ?_) | (with_reducible refine Ext.alloc ?_ _) | ((with_reducible refine Ext.setCell ?_ ?_ _); rotate_left; (focus (simp; try omega))) | (with_reducible refine Ext.trans ?_ (by assumption))))); clear hK K)
    refine tr_nil ?_
    have hx5 : Ext W2 ((w0.alloc (.cells #[.int .i64 y.kind, .slice y.fA y.fields.length y.fcap, .slice y.rA y.raws.length y.rcap] 51)).alloc (.cells #[.int .i64 x.kind, .slice x.fA x.fields.length x.fcap, .slice x.rA x.raws.length x.rcap] 51)) := (hs1.alloc _).alloc _
    have hb0 : ((w0.alloc (.cells #[.int .i64 y.kind, .slice y.fA y.fields.length y.fcap, .slice y.rA y.raws.length y.rcap] 51)).alloc (.cells #[.int .i64 x.kind, .slice x.fA x.fields.length x.fcap, .slice x.rA x.raws.length x.rcap] 51)).heap[w0.heap.size]? = some (.cells #[.int .i64 y.kind, .slice y.fA y.fields.length y.fcap, .slice y.rA y.raws.length y.rcap] 51 (0, 0)) := blk_old (blk_new w0 _ _ _ rfl)
    have hb1 : ((w0.alloc (.cells #[.int .i64 y.kind, .slice y.fA y.fields.length y.fcap, .slice y.rA y.raws.length y.rcap] 51)).alloc (.cells #[.int .i64 x.kind, .slice x.fA x.fields.length x.fcap, .slice x.rA x.raws.length x.rcap] 51)).heap[w0.heap.size + 1]? = some (.cells #[.int .i64 x.kind, .slice x.fA x.fields.length x.fcap, .slice x.rA x.raws.length x.rcap] 51 (0, 0)) := blk_new (w0.alloc (.cells #[.int .i64 y.kind, .slice y.fA y.fields.length y.fcap, .slice y.rA y.raws.length y.rcap] 51)) _ _ _ (by simp)
    generalize (w0.alloc (.cells #[.int .i64 y.kind, .slice y.fA y.fields.length y.fcap, .slice y.rA y.raws.length y.rcap] 51)).alloc (.cells #[.int .i64 x.kind, .slice x.fA x.fields.length x.fcap, .slice x.rA x.raws.length x.rcap] 51) = w5 at *
    generalize w0.heap.size + 1 = Y at *
    generalize w0.heap.size = X at *
    have hby := hb0
    have hbx := hb1
    clear hb0 hb1
    clear l1 l2 l3 l4 l5 l6 l7 hs0 hs1
    have HR5 := Lib.hid (HR2.out.grow hx5)
    have HBX := Lib.hid hbx
    have HBY := Lib.hid hby
    have kx := (cells_of hbx).1
    have ky := (cells_of hby).1
    have k1 := (cells_of HR5.out.blk).1
    have fk := (cells_of HR5.out.blk).2
    have hx0 := HR5.out.ext
    have HX0 := Lib.hid hx0
    clear hbx hby hx5 hx0 HR2
    by_cases hk1 : x.kind = y.kind
    rotate_left
    · have hd : (x.kind != y.kind) = true := by simpa using hk1
      have HE : Hid (pairM (valN A) (valN B) (f + 1) s i k = MtD.no ⟨s.to.set i k, s.at_.set k i, s.bad⟩) := Lib.hid (by rw [HPR.out, if_pos (.inl hk1)])
      clear hk1
      go_wp2_with fail
      go_returns
      rw [HE.out]
      exact ⟨rfl, HR5.out.no⟩
    have hd : (x.kind != y.kind) = false := by simpa using hk1
    have HK1 := Lib.hid hk1
    obtain ⟨c, hc⟩ : ∃ c, decide (x.raws = y.raws) = c := ⟨_, rfl⟩
    have HC := Lib.hid hc
    clear hk1 hc
    go_wp2_with fail
    refine (refwords_is x.rA y.rA x.rcap y.rcap x.raws y.raws c HC.out _ (by have := HFA.out; omega) (by have := HFB.out; omega) (HNA.out.raws.ext HX0.out) (HNB.out.raws.ext HX0.out)).mono ?_
    rintro e w6 ⟨rfl, hx6⟩
    have HR6 := Lib.hid (HR5.out.grow hx6)
    have hbx6 := (hx6.block (lt_of_heap HBX.out)).trans HBX.out
    have hby6 := (hx6.block (lt_of_heap HBY.out)).trans HBY.out
    clear kx ky k1 fk hx6 HX0 HBX HBY
    have kx := (cells_of hbx6).1
    have ky := (cells_of hby6).1
    have k1 := (cells_of HR6.out.blk).1
    have fk := (cells_of HR6.out.blk).2
    clear hbx6 hby6 HR5
    cases c
    · have HE : Hid (pairM (valN A) (valN B) (f + 1) s i k = MtD.no ⟨s.to.set i k, s.at_.set k i, s.bad⟩) := Lib.hid (by rw [HPR.out, if_pos (.inr (of_decide_eq_false HC.out))])
      go_wp2_with fail
      go_returns
      rw [HE.out]
      exact ⟨rfl, HR6.out.no⟩
    · have HE : Hid (pairM (valN A) (valN B) (f + 1) s i k = valsM (pairM (valN A) (valN B) f) ⟨s.to.set i k, s.at_.set k i, s.bad⟩ x.fields y.fields) := Lib.hid (by rw [HPR.out, if_neg (by simp only [not_or, Classical.not_not]; exact ⟨HK1.out, of_decide_eq_true HC.out⟩)])
      go_wp2_with fail
      refine (rvals_any HG.out IH.out _ x.fields y.fields x.fA y.fA x.fcap y.fcap _ HR6.out HP2.out HBD.out HNA.out.fields HNB.out.fields (by have := HFA.out; omega) (by have := HFB.out; omega) HVA.out HVB.out HLF.out).mono ?_
      rintro e w7 ⟨rfl, hr⟩
      rw [← HE.out] at hr
      have HR7 := Lib.hid hr
      clear hr kx ky k1 fk HR6
      go_wp2_with fail
      go_returns
      exact ⟨rfl, HR7.out⟩
end
end Go.Proofs.Ytphpppjfogpohaa

/- The document's Match. -/
set_option linter.unusedSimpArgs false
set_option linter.unusedVariables false
namespace Go.Proofs.Ytphpppjfogpohaa
open Go.RowKit Go.Shelf
set_option maxRecDepth 100000
set_option maxHeartbeats 2000000
/-- Two boxes stand as they were. -/
def Box2K (b : Nat) (cs : Array Value) (t : TypeId) (b2 : Nat) (cs2 : Array Value) (t2 : TypeId) (w : World) : Prop := w.heap[b]? = some (.cells cs t (0, 0)) ∧ w.heap[b2]? = some (.cells cs2 t2 (0, 0))
section
variable {b : Nat} {cs : Array Value} {t : TypeId} {b2 : Nat} {cs2 : Array Value} {t2 : TypeId} {W W' : World}
theorem Box2K.one (h : Box2K b cs t b2 cs2 t2 W) (u : KeptOf W (Box2K b cs t b2 cs2 t2)) (i : Nat) : u.1.cell? ⟨b, i, none⟩ = cs[i]? := (cells_of (u.of h).1).1 i
theorem Box2K.two (h : Box2K b cs t b2 cs2 t2 W) (u : KeptOf W (Box2K b cs t b2 cs2 t2)) (i : Nat) : u.1.cell? ⟨b2, i, none⟩ = cs2[i]? := (cells_of (u.of h).2).1 i
theorem Box2K.ext (h : Box2K b cs t b2 cs2 t2 W) (hx : Ext W W') : Box2K b cs t b2 cs2 t2 W' := ⟨(hx.block (lt_of_heap h.1)).trans h.1, (hx.block (lt_of_heap h.2)).trans h.2⟩
end
def mtS (A B : GraphD) : List Int := if alikeG A B then partP A.ns.length (ordG A) (ordG B) else []
/-- Partners come back, or none. -/
def RetMt (V : World) (A B : GraphD) (e : Ending) (w' : World) : Prop :=
  ∃ A0 cap, e = .returned (.tuple #[.slice A0 (mtS A B).length cap, .bool (alikeG A B)]) ∧ Own 3 1 intC w' V.heap.size (.slice A0 (mtS A B).length cap) (mtS A B) ∧ Ext V w'
theorem retMt_none {V w : World} {A B : GraphD} (h : alikeG A B = false) (hx : Ext V w) : RetMt V A B (.returned (.tuple #[.slice none 0 0, .bool false])) w := by
  have e : mtS A B = [] := by unfold mtS; rw [h]; rfl
  unfold RetMt
  rw [e, h]
  exact ⟨none, 0, rfl, Own.nil _ _ _ _ _, hx⟩
theorem partP_len {n : Nat} {o p : List Nat} : (partP n o p).length = n := by simp [partP]
theorem rmatch_any (A B : GraphD) (V : World) (hA : GraphAt V A) (hB : GraphAt V B) (oA : GOk A) (oB : GOk B) :
    Calls Try.prog 12 #[.agg #[.slice A.nA A.ns.length A.ncap, .slice A.rA A.rs.length A.rcap], .agg #[.slice B.nA B.ns.length B.ncap, .slice B.rA B.rs.length B.rcap]] V (RetMt V A B) := by
  have hx0 := ((Ext.refl V).alloc (.cells #[.slice A.nA A.ns.length A.ncap, .slice A.rA A.rs.length A.rcap] 25)).alloc (.cells #[.slice B.nA B.ns.length B.ncap, .slice B.rA B.rs.length B.rcap] 25)
  have hba := (pers_new V #[.slice A.nA A.ns.length A.ncap, .slice A.rA A.rs.length A.rcap] 25 _ rfl).re ((Ext.refl _).alloc (.cells #[.slice B.nA B.ns.length B.ncap, .slice B.rA B.rs.length B.rcap] 25))
  have hbb := pers_new (V.alloc (.cells #[.slice A.nA A.ns.length A.ncap, .slice A.rA A.rs.length A.rcap] 25)) #[.slice B.nA B.ns.length B.ncap, .slice B.rA B.rs.length B.rcap] 25 (V.heap.size + 1) (by simp)
  have HX := Lib.hid hx0
  have HA := Lib.hid (hA.ext hx0)
  have HB := Lib.hid (hB.ext hx0)
  have HBA := Lib.hid hba
  have HBB := Lib.hid hbb
  have HOA := Lib.hid oA
  have HOB := Lib.hid oB
  have ka := (cells_of hba.here).1
  have kb := (cells_of hbb.here).1
  clear hx0 hA hB oA oB hba hbb
  cases hra : rightG A with
  | false =>
    have HR := Lib.hid hra
    have HN : Hid (alikeG A B = false) := Lib.hid (by unfold alikeG; rw [hra]; rfl)
    clear hra
    go_enter Try.func12, Try.ntmps12
    go_wp2_with fail
    refine (grefright_is A false HR.out _ HA.out HOA.out).mono ?_
    rintro e w1 ⟨rfl, hx⟩
    replace HX := Lib.hid (HX.out.trans hx)
    clear hx ka kb
    go_wp2_with fail
    go_returns
    exact retMt_none HN.out HX.out
  | true =>
  have HRA := Lib.hid hra
  cases hrb : rightG B with
  | false =>
    have HR := Lib.hid hrb
    have HN : Hid (alikeG A B = false) := Lib.hid (by unfold alikeG; rw [hrb, Bool.and_false]; rfl)
    clear hra hrb
    go_enter Try.func12, Try.ntmps12
    go_wp2_with fail
    refine (grefright_is A true HRA.out _ HA.out HOA.out).mono ?_
    rintro e w1 ⟨rfl, hx⟩
    replace HX := Lib.hid (HX.out.trans hx)
    replace HB := Lib.hid (HB.out.ext hx)
    replace HBB := Lib.hid (HBB.out.re hx)
    have kb := (cells_of HBB.out.here).1
    clear hx ka
    go_wp2_with fail
    refine (grefright_is B false HR.out _ HB.out HOB.out).mono ?_
    rintro e w2 ⟨rfl, hx⟩
    replace HX := Lib.hid (HX.out.trans hx)
    clear hx kb
    go_wp2_with fail
    go_returns
    exact retMt_none HN.out HX.out
  | true =>
  have HRB := Lib.hid hrb
  have HMA := Lib.hid (match_alike HOA.out HOB.out hra hrb)
  have HNA : Hid (A.ns.length ≤ 60) := Lib.hid (by have := HOA.out.2; simp [largeG] at this; omega)
  have HNB : Hid (B.ns.length ≤ 60) := Lib.hid (by have := HOB.out.2; simp [largeG] at this; omega)
  clear hra hrb
  go_enter Try.func12, Try.ntmps12
  go_wp2_with fail
  refine (grefright_is A true HRA.out _ HA.out HOA.out).mono ?_
  rintro e w1 ⟨rfl, hx⟩
  replace HX := Lib.hid (HX.out.trans hx)
  replace HA := Lib.hid (HA.out.ext hx)
  replace HB := Lib.hid (HB.out.ext hx)
  replace HBA := Lib.hid (HBA.out.re hx)
  replace HBB := Lib.hid (HBB.out.re hx)
  have kb := (cells_of HBB.out.here).1
  clear hx ka
  go_wp2_with fail
  refine (grefright_is B true HRB.out _ HB.out HOB.out).mono ?_
  rintro e w2 ⟨rfl, hx⟩
  replace HX := Lib.hid (HX.out.trans hx)
  replace HA := Lib.hid (HA.out.ext hx)
  replace HB := Lib.hid (HB.out.ext hx)
  replace HBA := Lib.hid (HBA.out.re hx)
  replace HBB := Lib.hid (HBB.out.re hx)
  clear hx kb
  go_wp2_with fail
  have hyd := (Ext.refl w2).drew
  have hGP : Box2K V.heap.size #[.slice A.nA A.ns.length A.ncap, .slice A.rA A.rs.length A.rcap] 25 (V.heap.size + 1) #[.slice B.nA B.ns.length B.ncap, .slice B.rA B.rs.length B.rcap] 25 w2.drew := ⟨HBA.out.at hyd, HBB.out.at hyd⟩
  have gB := hGP.one
  have g1 := hGP.two
  (refine wp_region_gp (w := w2) (fun w' => ∃ u : KeptOf (w2).drew (Box2K V.heap.size #[.slice A.nA A.ns.length A.ncap, .slice A.rA A.rs.length A.rcap] 25 (V.heap.size + 1) #[.slice B.nA B.ns.length B.ncap, .slice B.rA B.rs.length B.rcap] 25), w' = u.1) (.rd [0, 1, 2, 3, 4, 6, 7, 8] (.one 5 (.one 9 .tl))) [10, 11, 12] (by kernel_rfl) (by kernel_rfl) (by intro c a d v w h; first | exact h | (cases d <;> first | exact h | (cases h; done) | cases h.1.1 | cases h.1)) (kept_mk hGP) ?_)
  (refine gp_rd ?_; (try simp only [opsOf, List.map_cons, List.map_nil, List.getD_cons_zero, List.getD_cons_succ]); (repeat (go_big_quiet_step (fail))); refine wpQuiet_nil ?_)
  replace HX := Lib.hid (HX.out.trans hyd)
  replace HA := Lib.hid (HA.out.ext hyd)
  replace HB := Lib.hid (HB.out.ext hyd)
  have HGP := Lib.hid hGP
  clear hyd hGP gB g1 HBA HBB
  generalize w2.drew = W0 at *
  (refine gp_one (by (try simp only [List.getD_cons_succ, List.getD_cons_zero]); rfl) (by rfl) ?_; intro K hK; go_simp)
  refine (rnone_any A.ns.length _ (by have := HNA.out; omega)).mono ?_
  rintro e w3 ⟨g1, rfl, ho1, hx1⟩
  refine hK _ _ _ (fun _ h => h) (kept_mk (HGP.out.ext hx1)) ?_
  clear hK K
  (refine gp_one (by (try simp only [List.getD_cons_succ, List.getD_cons_zero]); rfl) (by rfl) ?_; intro K hK; go_simp)
  refine (rnone_any B.ns.length _ (by have := HNB.out; omega)).mono ?_
  rintro e w4 ⟨g2, rfl, ho2, hx2⟩
  refine hK _ _ _ (fun _ h => h) (kept_mk ((HGP.out.ext hx1).ext hx2)) ?_
  clear hK K
  (refine gp_tl ?_; (try simp only [opsOf, List.map_cons, List.map_nil, List.getD_cons_zero, List.getD_cons_succ]))
  have hx3 := (hx1.trans hx2).alloc (.cells #[.slice A.nA A.ns.length A.ncap, .slice A.rA A.rs.length A.rcap, .slice B.nA B.ns.length B.ncap, .slice B.rA B.rs.length B.rcap, .slice (some ⟨g1, 0, none⟩) A.ns.length A.ns.length, .slice (some ⟨g2, 0, none⟩) B.ns.length B.ns.length, .bool false] 60)
  have hy4 := (Ext.refl w4).alloc (.cells #[.slice A.nA A.ns.length A.ncap, .slice A.rA A.rs.length A.rcap, .slice B.nA B.ns.length B.ncap, .slice B.rA B.rs.length B.rcap, .slice (some ⟨g1, 0, none⟩) A.ns.length A.ns.length, .slice (some ⟨g2, 0, none⟩) B.ns.length B.ns.length, .bool false] 60)
  have HM := Lib.hid (show MR W0 A B w4.heap.size g1 g2 ⟨List.replicate A.ns.length (-1), List.replicate B.ns.length (-1), false⟩ (w4.alloc (.cells #[.slice A.nA A.ns.length A.ncap, .slice A.rA A.rs.length A.rcap, .slice B.nA B.ns.length B.ncap, .slice B.rA B.rs.length B.rcap, .slice (some ⟨g1, 0, none⟩) A.ns.length A.ns.length, .slice (some ⟨g2, 0, none⟩) B.ns.length B.ns.length, .bool false] 60)) from
    ⟨blk_new _ _ _ _ rfl, (ho1.ext hx2).ext hy4, (ho2.mono hx1.size).ext hy4, by have h1 : g1 < w3.heap.size := (own_below ho1 rfl).2; have h2 : w3.heap.size ≤ g2 := (own_below ho2 rfl).1; omega, hx3, (hx1.trans hx2).size⟩)
  have HGP2 := Lib.hid (HGP.out.ext hx3)
  clear ho1 ho2 hx1 hx2 hx3 hy4 HGP
  have ka := (cells_of HGP2.out.1).1
  have kb := (cells_of HGP2.out.2).1
  go_wp2_with fail
  clear ka kb HGP2
  generalize w4.alloc (.cells #[.slice A.nA A.ns.length A.ncap, .slice A.rA A.rs.length A.rcap, .slice B.nA B.ns.length B.ncap, .slice B.rA B.rs.length B.rcap, .slice (some ⟨g1, 0, none⟩) A.ns.length A.ns.length, .slice (some ⟨g2, 0, none⟩) B.ns.length B.ns.length, .bool false] 60) = W4 at *
  generalize w4.heap.size = b at *
  have HG : Hid (MtG W0 A B) := Lib.hid ⟨HA.out, HB.out, HOA.out, HOB.out, HRA.out, HRB.out⟩
  have pa := pgOk_of HOA.out HRA.out
  have pb := pgOk_of HOB.out HRB.out
  have HVA : Hid (valsOk A.ns.length A.rs) := Lib.hid (by have := pa.roots; rwa [valN_len] at this)
  have HVB : Hid (valsOk B.ns.length B.rs) := Lib.hid (by have := pb.roots; rwa [valN_len] at this)
  clear pa pb
  refine (rvals_any HG.out (rpair_any HG.out (A.ns.length + 1)) _ A.rs B.rs A.rA B.rA A.rcap B.rcap _ HM.out MtOk.new rfl HA.out.roots HB.out.roots (by have := HOA.out.1.rl; omega) (by have := HOB.out.1.rl; omega) HVA.out HVB.out (by rw [left_new]; omega)).mono ?_
  rintro e w5 ⟨rfl, hr⟩
  have hmm : valsM (pairM (valN A) (valN B) (A.ns.length + 1)) ⟨List.replicate A.ns.length (-1), List.replicate B.ns.length (-1), false⟩ A.rs B.rs = matchM (valN A) A.rs (valN B) B.rs := by
    unfold matchM
    rw [valN_len, valN_len]
  rw [hmm] at hr
  have HR := Lib.hid hr
  have k1 := (cells_of hr.blk).1
  obtain ⟨m1, m2⟩ := HMA.out
  have M2 := Lib.hid m2
  rw [m1] at k1
  clear hr hmm m1 m2 HM
  cases hal : alikeG A B with
  | false =>
    have HAL := Lib.hid hal
    rw [hal] at k1
    simp only [Bool.not_false] at k1
    clear hal
    go_wp2_with fail
    go_returns
    have := retMt_none (V := V) HAL.out (HX.out.trans HR.out.ext)
    exact this
  | true =>
    have HAL := Lib.hid hal
    rw [hal] at k1
    simp only [Bool.not_true] at k1
    clear hal
    go_wp2_with fail
    go_returns
    have e1 : mtS A B = (matchM (valN A) A.rs (valN B) B.rs).to := by rw [mtS, if_pos HAL.out, (M2.out HAL.out).1]
    have e2 : (mtS A B).length = A.ns.length := by rw [mtS, if_pos HAL.out, partP_len]
    refine ⟨some ⟨g1, 0, none⟩, A.ns.length, by rw [e2, HAL.out]; rfl, ?_, HX.out.trans HR.out.ext⟩
    rw [e2, e1]
    exact HR.out.to.mono HX.out.size
end Go.Proofs.Ytphpppjfogpohaa

/- The rows of a plan in memory. -/
set_option linter.unusedSimpArgs false
set_option linter.unusedVariables false
namespace Go.Proofs.Ytphpppjfogpohaa
open Go.RowKit Go.Shelf
theorem own_cells {α : Type} {e : TypeId} {n : Nat} {f : α → List Value} {w : World} {B : Nat} {v : Value} {xs : List α} (h : Own e n f w B v xs) {g : Nat} (hv : v.ownBlock = some g) : ∃ cur, w.heap[g]? = some (.cells cur e (0, 0)) := by
  rcases h.2 with ⟨rfl, _⟩ | ⟨g', cap, cur, rfl, _, hg, _⟩
  · cases hv
  · injection hv with hv
    simp only at hv
    subst hv
    exact ⟨cur, hg⟩
theorem ownO_cells {w : World} {B : Nat} {v : Value} {xs : List Int} (h : OwnO w B v xs) {g : Nat} (hv : v.ownBlock = some g) : ∃ cur, w.heap[g]? = some (.cells cur 3 (0, 0)) := by
  rcases h with ⟨rfl, _⟩ | ⟨g', off, cap, cur, rfl, _, hg, _⟩
  · cases hv
  · injection hv with hv
    simp only at hv
    subst hv
    exact ⟨cur, hg⟩
/-- The rows of a plan: its lists, what was met, and the map of the next ones. -/
structure PR (V0 : World) (sv bv kv lv pv mv : Value) (mp nm : Nat) (f : Int → Value) (Y : Int → List Nat) (ms : List Bool) (p : PlD) (w : World) : Prop where
  os : Own 3 1 intC w V0.heap.size sv (ordZ p.small)
  ob : Own 3 1 intC w V0.heap.size bv (ordZ p.begins)
  ok : Own 4 1 boolC w V0.heap.size kv p.lk
  ol : Own 3 1 intC w V0.heap.size lv (ordZ p.large)
  op : Own 3 1 intC w V0.heap.size pv (ordZ p.pile)
  om : Own 4 1 boolC w V0.heap.size mv ms
  mpv : MapV w mp nm f
  fam : ∀ c, OwnO w V0.heap.size (f c) (ordZ (Y c))
  sep : Sep [sv, bv, kv, lv, pv, mv]
  sepf : ∀ v ∈ [sv, bv, kv, lv, pv, mv], ∀ c g, v.ownBlock = some g → (f c).ownBlock ≠ some g
  sepc : ∀ c c' g, c ≠ c' → (f c).ownBlock = some g → (f c').ownBlock ≠ some g
  mlo : V0.heap.size ≤ mp
  ext : Ext V0 w
section
variable {V0 : World} {sv bv kv lv pv mv : Value} {mp nm : Nat} {f : Int → Value} {Y : Int → List Nat} {ms : List Bool} {p : PlD} {w w' : World}
theorem PR.grow (h : PR V0 sv bv kv lv pv mv mp nm f Y ms p w) (hx : Ext w w') : PR V0 sv bv kv lv pv mv mp nm f Y ms p w' :=
  ⟨h.os.ext hx, h.ob.ext hx, h.ok.ext hx, h.ol.ext hx, h.op.ext hx, h.om.ext hx, h.mpv.ext hx, fun c => (h.fam c).ext hx, h.sep, h.sepf, h.sepc, h.mlo, h.ext.trans hx⟩
theorem PR.lt (h : PR V0 sv bv kv lv pv mv mp nm f Y ms p w) : ∀ v ∈ [sv, bv, kv, lv, pv, mv], ∀ g, v.ownBlock = some g → g < w.heap.size := by
  intro v hv g hg
  simp only [List.mem_cons, List.not_mem_nil, or_false] at hv
  rcases hv with rfl | rfl | rfl | rfl | rfl | rfl
  · exact (own_below h.os hg).2
  · exact (own_below h.ob hg).2
  · exact (own_below h.ok hg).2
  · exact (own_below h.ol hg).2
  · exact (own_below h.op hg).2
  · exact (own_below h.om hg).2
theorem PR.cells (h : PR V0 sv bv kv lv pv mv mp nm f Y ms p w) : ∀ v ∈ [sv, bv, kv, lv, pv, mv], ∀ g, v.ownBlock = some g → ∃ cur t, w.heap[g]? = some (.cells cur t (0, 0)) ∧ (t = 3 ∨ t = 4) := by
  intro v hv g hg
  simp only [List.mem_cons, List.not_mem_nil, or_false] at hv
  rcases hv with rfl | rfl | rfl | rfl | rfl | rfl
  · obtain ⟨cur, hc⟩ := own_cells h.os hg; exact ⟨cur, _, hc, .inl rfl⟩
  · obtain ⟨cur, hc⟩ := own_cells h.ob hg; exact ⟨cur, _, hc, .inl rfl⟩
  · obtain ⟨cur, hc⟩ := own_cells h.ok hg; exact ⟨cur, _, hc, .inr rfl⟩
  · obtain ⟨cur, hc⟩ := own_cells h.ol hg; exact ⟨cur, _, hc, .inl rfl⟩
  · obtain ⟨cur, hc⟩ := own_cells h.op hg; exact ⟨cur, _, hc, .inl rfl⟩
  · obtain ⟨cur, hc⟩ := own_cells h.om hg; exact ⟨cur, _, hc, .inr rfl⟩
/-- Row s is another one. -/
theorem PR.turn_s (h : PR V0 sv bv kv lv pv mv mp nm f Y ms p w) {x : Value} {ys : List Nat} (ho : Own 3 1 intC w' V0.heap.size x (ordZ ys)) (hg : w.grownBy w' sv.ownBlock)
    (hx : x.ownBlock = sv.ownBlock ∨ x.ownBlock = none ∨ ∃ k, w.heap.size ≤ k ∧ x.ownBlock = some k) : PR V0 x bv kv lv pv mv mp nm f Y ms { p with small := ys } w' := by
  have hm : sv ∈ [sv, bv, kv, lv, pv, mv] := by simp
  refine ⟨ho, h.ob.kept hg (h.sep.ne 1 0 rfl rfl (by decide)), h.ok.kept hg (h.sep.ne 2 0 rfl rfl (by decide)), h.ol.kept hg (h.sep.ne 3 0 rfl rfl (by decide)), h.op.kept hg (h.sep.ne 4 0 rfl rfl (by decide)), h.om.kept hg (h.sep.ne 5 0 rfl rfl (by decide)), h.mpv.kept hg (fun e => ?_), fun c => (h.fam c).kept hg (fun g hv e => h.sepf _ hm c g e.symm hv), h.sep.turn 0 rfl hx h.lt, ?_, h.sepc, h.mlo, h.os.grown hg (Nat.le_refl _) h.ext⟩
  · obtain ⟨cur, hc⟩ := own_cells h.os e.symm
    exact h.mpv.ne hc rfl
  · intro v hv c g hvg hfg
    simp only [List.mem_cons, List.not_mem_nil, or_false] at hv
    have hold : ∀ u ∈ [sv, bv, kv, lv, pv, mv], u.ownBlock = some g → False := fun u hu hug => h.sepf u hu c g hug hfg
    have hnew : x.ownBlock = some g → False := fun e => by
      rcases hx with hx | hx | ⟨j, hj, hx⟩
      · exact hold _ hm (hx ▸ e)
      · rw [hx] at e; cases e
      · rw [hx] at e
        injection e with e
        have := ((h.fam c).lt hfg).2
        omega
    rcases hv with rfl | rfl | rfl | rfl | rfl | rfl
    · exact hnew hvg
    · exact hold _ (by simp) hvg
    · exact hold _ (by simp) hvg
    · exact hold _ (by simp) hvg
    · exact hold _ (by simp) hvg
    · exact hold _ (by simp) hvg
/-- Row b is another one. -/
theorem PR.turn_b (h : PR V0 sv bv kv lv pv mv mp nm f Y ms p w) {x : Value} {ys : List Nat} (ho : Own 3 1 intC w' V0.heap.size x (ordZ ys)) (hg : w.grownBy w' bv.ownBlock)
    (hx : x.ownBlock = bv.ownBlock ∨ x.ownBlock = none ∨ ∃ k, w.heap.size ≤ k ∧ x.ownBlock = some k) : PR V0 sv x kv lv pv mv mp nm f Y ms { p with begins := ys } w' := by
  have hm : bv ∈ [sv, bv, kv, lv, pv, mv] := by simp
  refine ⟨h.os.kept hg (h.sep.ne 0 1 rfl rfl (by decide)), ho, h.ok.kept hg (h.sep.ne 2 1 rfl rfl (by decide)), h.ol.kept hg (h.sep.ne 3 1 rfl rfl (by decide)), h.op.kept hg (h.sep.ne 4 1 rfl rfl (by decide)), h.om.kept hg (h.sep.ne 5 1 rfl rfl (by decide)), h.mpv.kept hg (fun e => ?_), fun c => (h.fam c).kept hg (fun g hv e => h.sepf _ hm c g e.symm hv), h.sep.turn 1 rfl hx h.lt, ?_, h.sepc, h.mlo, h.ob.grown hg (Nat.le_refl _) h.ext⟩
  · obtain ⟨cur, hc⟩ := own_cells h.ob e.symm
    exact h.mpv.ne hc rfl
  · intro v hv c g hvg hfg
    simp only [List.mem_cons, List.not_mem_nil, or_false] at hv
    have hold : ∀ u ∈ [sv, bv, kv, lv, pv, mv], u.ownBlock = some g → False := fun u hu hug => h.sepf u hu c g hug hfg
    have hnew : x.ownBlock = some g → False := fun e => by
      rcases hx with hx | hx | ⟨j, hj, hx⟩
      · exact hold _ hm (hx ▸ e)
      · rw [hx] at e; cases e
      · rw [hx] at e
        injection e with e
        have := ((h.fam c).lt hfg).2
        omega
    rcases hv with rfl | rfl | rfl | rfl | rfl | rfl
    · exact hold _ (by simp) hvg
    · exact hnew hvg
    · exact hold _ (by simp) hvg
    · exact hold _ (by simp) hvg
    · exact hold _ (by simp) hvg
    · exact hold _ (by simp) hvg
/-- Row k is another one. -/
theorem PR.turn_k (h : PR V0 sv bv kv lv pv mv mp nm f Y ms p w) {x : Value} {ys : List Bool} (ho : Own 4 1 boolC w' V0.heap.size x ys) (hg : w.grownBy w' kv.ownBlock)
    (hx : x.ownBlock = kv.ownBlock ∨ x.ownBlock = none ∨ ∃ k, w.heap.size ≤ k ∧ x.ownBlock = some k) : PR V0 sv bv x lv pv mv mp nm f Y ms { p with lk := ys } w' := by
  have hm : kv ∈ [sv, bv, kv, lv, pv, mv] := by simp
  refine ⟨h.os.kept hg (h.sep.ne 0 2 rfl rfl (by decide)), h.ob.kept hg (h.sep.ne 1 2 rfl rfl (by decide)), ho, h.ol.kept hg (h.sep.ne 3 2 rfl rfl (by decide)), h.op.kept hg (h.sep.ne 4 2 rfl rfl (by decide)), h.om.kept hg (h.sep.ne 5 2 rfl rfl (by decide)), h.mpv.kept hg (fun e => ?_), fun c => (h.fam c).kept hg (fun g hv e => h.sepf _ hm c g e.symm hv), h.sep.turn 2 rfl hx h.lt, ?_, h.sepc, h.mlo, h.ok.grown hg (Nat.le_refl _) h.ext⟩
  · obtain ⟨cur, hc⟩ := own_cells h.ok e.symm
    exact h.mpv.ne hc rfl
  · intro v hv c g hvg hfg
    simp only [List.mem_cons, List.not_mem_nil, or_false] at hv
    have hold : ∀ u ∈ [sv, bv, kv, lv, pv, mv], u.ownBlock = some g → False := fun u hu hug => h.sepf u hu c g hug hfg
    have hnew : x.ownBlock = some g → False := fun e => by
      rcases hx with hx | hx | ⟨j, hj, hx⟩
      · exact hold _ hm (hx ▸ e)
      · rw [hx] at e; cases e
      · rw [hx] at e
        injection e with e
        have := ((h.fam c).lt hfg).2
        omega
    rcases hv with rfl | rfl | rfl | rfl | rfl | rfl
    · exact hold _ (by simp) hvg
    · exact hold _ (by simp) hvg
    · exact hnew hvg
    · exact hold _ (by simp) hvg
    · exact hold _ (by simp) hvg
    · exact hold _ (by simp) hvg
/-- Row l is another one. -/
theorem PR.turn_l (h : PR V0 sv bv kv lv pv mv mp nm f Y ms p w) {x : Value} {ys : List Nat} (ho : Own 3 1 intC w' V0.heap.size x (ordZ ys)) (hg : w.grownBy w' lv.ownBlock)
    (hx : x.ownBlock = lv.ownBlock ∨ x.ownBlock = none ∨ ∃ k, w.heap.size ≤ k ∧ x.ownBlock = some k) : PR V0 sv bv kv x pv mv mp nm f Y ms { p with large := ys } w' := by
  have hm : lv ∈ [sv, bv, kv, lv, pv, mv] := by simp
  refine ⟨h.os.kept hg (h.sep.ne 0 3 rfl rfl (by decide)), h.ob.kept hg (h.sep.ne 1 3 rfl rfl (by decide)), h.ok.kept hg (h.sep.ne 2 3 rfl rfl (by decide)), ho, h.op.kept hg (h.sep.ne 4 3 rfl rfl (by decide)), h.om.kept hg (h.sep.ne 5 3 rfl rfl (by decide)), h.mpv.kept hg (fun e => ?_), fun c => (h.fam c).kept hg (fun g hv e => h.sepf _ hm c g e.symm hv), h.sep.turn 3 rfl hx h.lt, ?_, h.sepc, h.mlo, h.ol.grown hg (Nat.le_refl _) h.ext⟩
  · obtain ⟨cur, hc⟩ := own_cells h.ol e.symm
    exact h.mpv.ne hc rfl
  · intro v hv c g hvg hfg
    simp only [List.mem_cons, List.not_mem_nil, or_false] at hv
    have hold : ∀ u ∈ [sv, bv, kv, lv, pv, mv], u.ownBlock = some g → False := fun u hu hug => h.sepf u hu c g hug hfg
    have hnew : x.ownBlock = some g → False := fun e => by
      rcases hx with hx | hx | ⟨j, hj, hx⟩
      · exact hold _ hm (hx ▸ e)
      · rw [hx] at e; cases e
      · rw [hx] at e
        injection e with e
        have := ((h.fam c).lt hfg).2
        omega
    rcases hv with rfl | rfl | rfl | rfl | rfl | rfl
    · exact hold _ (by simp) hvg
    · exact hold _ (by simp) hvg
    · exact hold _ (by simp) hvg
    · exact hnew hvg
    · exact hold _ (by simp) hvg
    · exact hold _ (by simp) hvg
/-- Row p is another one. -/
theorem PR.turn_p (h : PR V0 sv bv kv lv pv mv mp nm f Y ms p w) {x : Value} {ys : List Nat} (ho : Own 3 1 intC w' V0.heap.size x (ordZ ys)) (hg : w.grownBy w' pv.ownBlock)
    (hx : x.ownBlock = pv.ownBlock ∨ x.ownBlock = none ∨ ∃ k, w.heap.size ≤ k ∧ x.ownBlock = some k) : PR V0 sv bv kv lv x mv mp nm f Y ms { p with pile := ys } w' := by
  have hm : pv ∈ [sv, bv, kv, lv, pv, mv] := by simp
  refine ⟨h.os.kept hg (h.sep.ne 0 4 rfl rfl (by decide)), h.ob.kept hg (h.sep.ne 1 4 rfl rfl (by decide)), h.ok.kept hg (h.sep.ne 2 4 rfl rfl (by decide)), h.ol.kept hg (h.sep.ne 3 4 rfl rfl (by decide)), ho, h.om.kept hg (h.sep.ne 5 4 rfl rfl (by decide)), h.mpv.kept hg (fun e => ?_), fun c => (h.fam c).kept hg (fun g hv e => h.sepf _ hm c g e.symm hv), h.sep.turn 4 rfl hx h.lt, ?_, h.sepc, h.mlo, h.op.grown hg (Nat.le_refl _) h.ext⟩
  · obtain ⟨cur, hc⟩ := own_cells h.op e.symm
    exact h.mpv.ne hc rfl
  · intro v hv c g hvg hfg
    simp only [List.mem_cons, List.not_mem_nil, or_false] at hv
    have hold : ∀ u ∈ [sv, bv, kv, lv, pv, mv], u.ownBlock = some g → False := fun u hu hug => h.sepf u hu c g hug hfg
    have hnew : x.ownBlock = some g → False := fun e => by
      rcases hx with hx | hx | ⟨j, hj, hx⟩
      · exact hold _ hm (hx ▸ e)
      · rw [hx] at e; cases e
      · rw [hx] at e
        injection e with e
        have := ((h.fam c).lt hfg).2
        omega
    rcases hv with rfl | rfl | rfl | rfl | rfl | rfl
    · exact hold _ (by simp) hvg
    · exact hold _ (by simp) hvg
    · exact hold _ (by simp) hvg
    · exact hold _ (by simp) hvg
    · exact hnew hvg
    · exact hold _ (by simp) hvg
/-- Row m is another one. -/
theorem PR.turn_m (h : PR V0 sv bv kv lv pv mv mp nm f Y ms p w) {x : Value} {ys : List Bool} (ho : Own 4 1 boolC w' V0.heap.size x ys) (hg : w.grownBy w' mv.ownBlock)
    (hx : x.ownBlock = mv.ownBlock ∨ x.ownBlock = none ∨ ∃ k, w.heap.size ≤ k ∧ x.ownBlock = some k) : PR V0 sv bv kv lv pv x mp nm f Y ys p w' := by
  have hm : mv ∈ [sv, bv, kv, lv, pv, mv] := by simp
  refine ⟨h.os.kept hg (h.sep.ne 0 5 rfl rfl (by decide)), h.ob.kept hg (h.sep.ne 1 5 rfl rfl (by decide)), h.ok.kept hg (h.sep.ne 2 5 rfl rfl (by decide)), h.ol.kept hg (h.sep.ne 3 5 rfl rfl (by decide)), h.op.kept hg (h.sep.ne 4 5 rfl rfl (by decide)), ho, h.mpv.kept hg (fun e => ?_), fun c => (h.fam c).kept hg (fun g hv e => h.sepf _ hm c g e.symm hv), h.sep.turn 5 rfl hx h.lt, ?_, h.sepc, h.mlo, h.om.grown hg (Nat.le_refl _) h.ext⟩
  · obtain ⟨cur, hc⟩ := own_cells h.om e.symm
    exact h.mpv.ne hc rfl
  · intro v hv c g hvg hfg
    simp only [List.mem_cons, List.not_mem_nil, or_false] at hv
    have hold : ∀ u ∈ [sv, bv, kv, lv, pv, mv], u.ownBlock = some g → False := fun u hu hug => h.sepf u hu c g hug hfg
    have hnew : x.ownBlock = some g → False := fun e => by
      rcases hx with hx | hx | ⟨j, hj, hx⟩
      · exact hold _ hm (hx ▸ e)
      · rw [hx] at e; cases e
      · rw [hx] at e
        injection e with e
        have := ((h.fam c).lt hfg).2
        omega
    rcases hv with rfl | rfl | rfl | rfl | rfl | rfl
    · exact hold _ (by simp) hvg
    · exact hold _ (by simp) hvg
    · exact hold _ (by simp) hvg
    · exact hold _ (by simp) hvg
    · exact hold _ (by simp) hvg
    · exact hnew hvg
theorem PR.top (h : PR V0 sv bv kv lv pv mv mp nm f Y ms p w) (t : Nat) : PR V0 sv bv kv lv pv mv mp nm f Y ms { p with top := t } w := ⟨h.os, h.ob, h.ok, h.ol, h.op, h.om, h.mpv, h.fam, h.sep, h.sepf, h.sepc, h.mlo, h.ext⟩
/-- A store into a block of another kind. -/
theorem PR.far (h : PR V0 sv bv kv lv pv mv mp nm f Y ms p w) {b i : Nat} {u : Value} {cs : Array Value} {t : TypeId} {r : Nat × Nat} (hb : w.heap[b]? = some (.cells cs t r)) (h1 : t ≠ 3) (h2 : t ≠ 4) (hlo : V0.heap.size ≤ b) : PR V0 sv bv kv lv pv mv mp nm f Y ms p (w.setCell ⟨b, i, none⟩ u) :=
  ⟨h.os.setOther hb h1, h.ob.setOther hb h1, h.ok.setOther hb h2, h.ol.setOther hb h1, h.op.setOther hb h1, h.om.setOther hb h2, h.mpv.setCell (h.mpv.ne hb) _, fun c => (h.fam c).setOther hb h1, h.sep, h.sepf, h.sepc, h.mlo, h.ext.setCell hlo _⟩
/-- A store into a row of Booleans. -/
theorem PR.setK {g : Nat} {n c : Nat} (h : PR V0 sv bv kv lv pv mv mp nm f Y ms p w) (hk : kv = .slice (some ⟨g, 0, none⟩) n c) (hn : p.lk.length = n) (i : Nat) : PR V0 sv bv (.slice (some ⟨g, 0, none⟩) n c) lv pv mv mp nm f Y ms (p.looked i) (w.setCell ⟨g, i, none⟩ (.bool true)) := by
  subst hk
  obtain ⟨cur, hc⟩ := own_cells h.ok rfl
  have s5 := h.sep 2 5 _ _ g rfl rfl (by decide) rfl
  exact ⟨h.os.setOther hc (by decide), h.ob.setOther hc (by decide), own_setB h.ok hn i true, h.ol.setOther hc (by decide), h.op.setOther hc (by decide), h.om.setNe s5, h.mpv.setCell (a := ⟨g, i, none⟩) (h.mpv.ne hc) _, fun c => (h.fam c).setOther hc (by decide), h.sep, h.sepf, h.sepc, h.mlo, h.ext.setCell (p := ⟨g, i, none⟩) (own_below h.ok rfl).1 _⟩
theorem PR.setM {g : Nat} {n c : Nat} (h : PR V0 sv bv kv lv pv mv mp nm f Y ms p w) (hk : mv = .slice (some ⟨g, 0, none⟩) n c) (hn : ms.length = n) (i : Nat) : PR V0 sv bv kv lv pv (.slice (some ⟨g, 0, none⟩) n c) mp nm f Y (ms.set i true) p (w.setCell ⟨g, i, none⟩ (.bool true)) := by
  subst hk
  obtain ⟨cur, hc⟩ := own_cells h.om rfl
  have s5 := h.sep 5 2 _ _ g rfl rfl (by decide) rfl
  exact ⟨h.os.setOther hc (by decide), h.ob.setOther hc (by decide), h.ok.setNe s5, h.ol.setOther hc (by decide), h.op.setOther hc (by decide), own_setB h.om hn i true, h.mpv.setCell (a := ⟨g, i, none⟩) (h.mpv.ne hc) _, fun c => (h.fam c).setOther hc (by decide), h.sep, h.sepf, h.sepc, h.mlo, h.ext.setCell (p := ⟨g, i, none⟩) (own_below h.om rfl).1 _⟩
/-- Behind an append onto one of the map's rows, and what stands in the map. -/
theorem PR.mid (h : PR V0 sv bv kv lv pv mv mp nm f Y ms p w) {c : Int} (hg : w.grownBy w' (f c).ownBlock) : MapV w' mp nm f := h.mpv.kept hg (fun e => by
  obtain ⟨cur, hc⟩ := ownO_cells (h.fam c) e.symm
  exact h.mpv.ne hc rfl)
theorem PR.put {w1 : World} {c : Int} {x : Value} {ys : List Nat} {n2 : Nat} (h : PR V0 sv bv kv lv pv mv mp nm f Y ms p w) (hg : w.grownBy w1 (f c).ownBlock) (ho : OwnO w1 V0.heap.size x (ordZ ys)) (hx : x.ownBlock = (f c).ownBlock ∨ x.ownBlock = none ∨ ∃ k, w.heap.size ≤ k ∧ x.ownBlock = some k)
    (hm : MapV w' mp n2 (fun y => if y = c then x else f y)) (hg2 : w1.grownBy w' (some mp)) : PR V0 sv bv kv lv pv mv mp n2 (fun y => if y = c then x else f y) (fun y => if y = c then ys else Y y) ms p w' := by
  have hmc := PR.mid h hg
  have hcell : ∀ v ∈ [sv, bv, kv, lv, pv, mv], ∀ g, v.ownBlock = some g → some g ≠ (f c).ownBlock := fun v hv g hvg e => h.sepf v hv c g hvg e.symm
  have hxb : ∀ g, x.ownBlock = some g → (f c).ownBlock = some g ∨ w.heap.size ≤ g := fun g hg => by
    rcases hx with hx | hx | ⟨j, hj, hx⟩
    · exact .inl (hx ▸ hg)
    · rw [hx] at hg; cases hg
    · rw [hx] at hg; injection hg with hg; exact .inr (by omega)
  have hmw : ∀ g cs t r, w1.heap[g]? = some (.cells cs t r) → some g ≠ some mp := fun g cs t r hc e => by injection e with e; exact hmc.ne hc e.symm
  refine ⟨((h.os.kept hg (by cases e : sv.ownBlock with | none => exact .inl rfl | some g => exact .inr (hcell _ (by simp) g e)))).kept hg2 (by cases e : sv.ownBlock with | none => exact .inl rfl | some g => exact .inr (by obtain ⟨cur, hc⟩ := own_cells ((h.os.kept hg (.inr (by rw [e]; exact hcell _ (by simp) g e)))) e; exact hmw g _ _ _ hc)), ((h.ob.kept hg (by cases e : bv.ownBlock with | none => exact .inl rfl | some g => exact .inr (hcell _ (by simp) g e)))).kept hg2 (by cases e : bv.ownBlock with | none => exact .inl rfl | some g => exact .inr (by obtain ⟨cur, hc⟩ := own_cells ((h.ob.kept hg (.inr (by rw [e]; exact hcell _ (by simp) g e)))) e; exact hmw g _ _ _ hc)), ((h.ok.kept hg (by cases e : kv.ownBlock with | none => exact .inl rfl | some g => exact .inr (hcell _ (by simp) g e)))).kept hg2 (by cases e : kv.ownBlock with | none => exact .inl rfl | some g => exact .inr (by obtain ⟨cur, hc⟩ := own_cells ((h.ok.kept hg (.inr (by rw [e]; exact hcell _ (by simp) g e)))) e; exact hmw g _ _ _ hc)), ((h.ol.kept hg (by cases e : lv.ownBlock with | none => exact .inl rfl | some g => exact .inr (hcell _ (by simp) g e)))).kept hg2 (by cases e : lv.ownBlock with | none => exact .inl rfl | some g => exact .inr (by obtain ⟨cur, hc⟩ := own_cells ((h.ol.kept hg (.inr (by rw [e]; exact hcell _ (by simp) g e)))) e; exact hmw g _ _ _ hc)), ((h.op.kept hg (by cases e : pv.ownBlock with | none => exact .inl rfl | some g => exact .inr (hcell _ (by simp) g e)))).kept hg2 (by cases e : pv.ownBlock with | none => exact .inl rfl | some g => exact .inr (by obtain ⟨cur, hc⟩ := own_cells ((h.op.kept hg (.inr (by rw [e]; exact hcell _ (by simp) g e)))) e; exact hmw g _ _ _ hc)), ((h.om.kept hg (by cases e : mv.ownBlock with | none => exact .inl rfl | some g => exact .inr (hcell _ (by simp) g e)))).kept hg2 (by cases e : mv.ownBlock with | none => exact .inl rfl | some g => exact .inr (by obtain ⟨cur, hc⟩ := own_cells ((h.om.kept hg (.inr (by rw [e]; exact hcell _ (by simp) g e)))) e; exact hmw g _ _ _ hc)), hm, fun d => ?_, h.sep, fun v hv d g hvg hfg => ?_, fun d d' g hd h1 h2 => ?_, h.mlo, ?_⟩
  · try simp only
    by_cases hd : d = c
    · rw [if_pos hd, if_pos hd]
      exact ho.kept hg2 (fun g hv => by obtain ⟨cur, hc⟩ := ownO_cells ho hv; exact hmw g _ _ _ hc)
    · rw [if_neg hd, if_neg hd]
      have h3 := (h.fam d).kept hg (fun g hv e => h.sepc d c g hd hv e.symm)
      exact h3.kept hg2 (fun g hv => by obtain ⟨cur, hc⟩ := ownO_cells h3 hv; exact hmw g _ _ _ hc)
  · try simp only at hfg
    by_cases hd : d = c
    · rw [if_pos hd] at hfg
      rcases hxb g hfg with h4 | h4
      · exact h.sepf v hv c g hvg h4
      · have := h.lt v hv g hvg; omega
    · rw [if_neg hd] at hfg
      exact h.sepf v hv d g hvg hfg
  · try simp only at h1 h2
    by_cases e1 : d = c
    · rw [if_pos e1] at h1
      rw [if_neg (fun e2 => hd (e1.trans e2.symm))] at h2
      rcases hxb g h1 with h4 | h4
      · exact h.sepc c d' g (fun e => hd (e1.trans e)) h4 h2
      · have := ((h.fam d').lt h2).2; omega
    · rw [if_neg e1] at h1
      by_cases e2 : d' = c
      · rw [if_pos e2] at h2
        rcases hxb g h2 with h4 | h4
        · exact h.sepc d c g e1 h1 h4
        · have := ((h.fam d).lt h1).2; omega
      · rw [if_neg e2] at h2
        exact h.sepc d d' g hd h1 h2
  · have e1 : Ext V0 w1 := Below.grown h.ext hg (Ext.size h.ext) (fun k hk => ((h.fam c).lt hk).1)
    exact Below.grown e1 hg2 (Ext.size e1) (fun k hk => by injection hk with hk; have := h.mlo; omega)
end
end Go.Proofs.Ytphpppjfogpohaa

/- The program's plan in memory; a new one. -/
set_option linter.unusedSimpArgs false
set_option linter.unusedVariables false
namespace Go.Proofs.Ytphpppjfogpohaa
open Go.RowKit Go.Shelf
set_option maxRecDepth 100000
set_option maxHeartbeats 2000000
theorem wp_makeB {o : Oper} {a : Act} {w : World} {K : Act → World → Prop} {Q : Exit → Act → World → Prop} (l : Operand) (hop : o.op = Op.makeSlice 76 l l) (n : Nat) (hl : a.eval l = .int .i64 (n : Int)) (hn : n ≤ 17592186044416)
    (hK : ∀ w', Own 4 1 boolC w' w.heap.size (.slice (some ⟨w.heap.size, 0, none⟩) n n) (List.replicate n false) → Ext w w' → K (a.put o.dst (.slice (some ⟨w.heap.size, 0, none⟩) n n)) w') : o.wp Try.prog a w K Q := by
  obtain ⟨i, hi, hz0, hz1, hz2⟩ := info_parts boolInfo0
  obtain ⟨w', hrun, r1, r2⟩ := run_make_full (P := Try.prog) w w.heap.size 76 4 i (.bool false) 1 Try.underlying76 hi hz0 hz1 .i64 .i64 n (by rw [hz2]; omega) (by unfold maxLen; omega) (Nat.le_refl _)
  have hown : Own 4 1 boolC w' w.heap.size (.slice (some ⟨w.heap.size, 0, none⟩) n n) (List.replicate n false) := by
    unfold Own
    have e : (List.replicate n false).flatMap boolC = (madeCells (Value.bool false).cells (n * 1)).toList := by
      rw [Nat.mul_one, show (Value.bool false).cells = #[Value.bool false] from rfl, toList_madeCells_one]
      clear r1 r2 hl hn hK hrun
      induction n with
      | zero => rfl
      | succ n ih => rw [List.replicate_succ, List.flatMap_cons, ih]; rfl
    rw [e, List.length_replicate]
    exact r1
  unfold Oper.wp
  simp [execOp, hop, hl, hrun, Result.andThen]
  exact hK _ hown ⟨r2.os, r2.tape, r2.output, r2.size, fun k hk => r2.block k hk (by simp)⟩
/-- Which nodes were met. -/
def metL (n : Nat) (p : PlD) : List Bool := (List.range n).map p.has
/-- The places of the small ones that begin in a block. -/
def placesP (blk : Nat) (p : PlD) (c : Nat) : List Nat := (List.range p.small.length).filter fun i => decide (p.begins.getD i 0 / blk = c)
/-- The map has them all, but for some ahead that were looked at. -/
def NxtOk (blk : Nat) (p : PlD) (Y : Int → List Nat) : Prop := ∀ c : Nat, ∃ ds, placesP blk p c = ds ++ Y c ∧ ∀ i ∈ ds, p.lk.getD i true = true
def Fst (p : PlD) (fi : Nat) : Prop := fi ≤ p.small.length ∧ ∀ i, i < fi → p.lk.getD i true = true
section
variable {n blk x s : Nat} {p : PlD} {Y : Int → List Nat} {mk : Bool} {fi : Nat}
theorem metL_len : (metL n p).length = n := by simp [metL]
theorem metL_get {i : Nat} (h : i < n) : (metL n p).getD i false = p.has i := by simp [metL, h]
theorem metL_addL (h : x < n) : metL n (p.addL x) = (metL n p).set x true := by
  refine list_ext false (by simp [metL]) fun i hi => ?_
  rw [metL_len] at hi
  rw [metL_get hi, getD_set (by rw [metL_len]; exact h)]
  by_cases e : x = i
  · subst e; rw [if_pos rfl]; simp [PlD.has, PlD.addL]
  · rw [if_neg e, metL_get hi]
    have : ¬ i = x := fun h => e h.symm
    exact Bool.eq_iff_iff.2 (by rw [PlD.has_iff, PlD.has_iff]; simp [PlD.addL, this])
theorem metL_addS (h : x < n) : metL n (p.addS mk x s) = (metL n p).set x true := by
  refine list_ext false (by simp [metL]) fun i hi => ?_
  rw [metL_len] at hi
  rw [metL_get hi, getD_set (by rw [metL_len]; exact h)]
  by_cases e : x = i
  · subst e; rw [if_pos rfl]; simp [PlD.has, PlD.addS]
  · rw [if_neg e, metL_get hi]
    have : ¬ i = x := fun h => e h.symm
    exact Bool.eq_iff_iff.2 (by rw [PlD.has_iff, PlD.has_iff]; simp [PlD.addS, this])
theorem NxtOk.addL (h : NxtOk blk p Y) : NxtOk blk (p.addL x) Y := h
theorem NxtOk.popd (h : NxtOk blk p Y) : NxtOk blk p.popped Y := h
theorem getD_true {l : List Bool} {i j : Nat} (h : l.getD j true = true) : (l.set i true).getD j true = true := by
  rw [List.getD_eq_getElem?_getD, List.getElem?_set]
  split
  · split <;> simp
  · rwa [List.getD_eq_getElem?_getD] at h
theorem NxtOk.lookd (h : NxtOk blk p Y) (i : Nat) : NxtOk blk (p.looked i) Y := fun c => by
  obtain ⟨ds, h1, h2⟩ := h c
  exact ⟨ds, h1, fun j hj => getD_true (h2 j hj)⟩
theorem NxtOk.addS (h : NxtOk blk p Y) (hb : p.begins.length = p.small.length) (hl : p.lk.length = p.small.length) : NxtOk blk (p.addS mk x s) (fun y => if y = ((p.top / blk : Nat) : Int) then Y ((p.top / blk : Nat) : Int) ++ [p.small.length] else Y y) := fun c => by
  obtain ⟨ds, h1, h2⟩ := h c
  refine ⟨ds, ?_, fun i hi => ?_⟩
  · have hsl : (p.addS mk x s).small.length = p.small.length + 1 := by simp [PlD.addS]
    have hbg : ∀ i, i < p.small.length → (p.addS mk x s).begins.getD i 0 = p.begins.getD i 0 := fun i hi => getD_appL (by omega)
    have hbn : (p.addS mk x s).begins.getD p.small.length 0 = p.top := by
      show (p.begins ++ [p.top]).getD p.small.length 0 = p.top
      rw [getD_appR (by omega), hb]; simp
    have e1 : placesP blk (p.addS mk x s) c = placesP blk p c ++ (if p.top / blk = c then [p.small.length] else []) := by
      unfold placesP
      rw [hsl, List.range_succ, List.filter_append]
      congr 1
      · refine List.filter_congr fun i hi => ?_
        rw [hbg i (List.mem_range.1 hi)]
      · simp only [List.filter_cons, List.filter_nil, hbn]
        by_cases hc : p.top / blk = c
        · simp [hc]
        · simp [hc]
    rw [e1, h1]
    show _ = ds ++ (if ((c : Nat) : Int) = ((p.top / blk : Nat) : Int) then Y ((p.top / blk : Nat) : Int) ++ [p.small.length] else Y c)
    by_cases hc : p.top / blk = c
    · rw [if_pos hc, if_pos (by omega), hc, List.append_assoc]
    · rw [if_neg hc, if_neg (by omega), List.append_nil]
  · have hlt : i < p.small.length := by
      have h3 : i ∈ placesP blk p c := by rw [h1]; exact List.mem_append_left _ hi
      exact List.mem_range.1 (List.mem_filter.1 h3).1
    simp only [PlD.addS]
    rw [getD_appL (by omega)]
    exact h2 i hi
theorem NxtOk.len (h : NxtOk blk p Y) (c : Nat) : (Y c).length ≤ p.small.length := by
  obtain ⟨ds, h1, _⟩ := h c
  have h2 : (placesP blk p c).length ≤ p.small.length := by
    have := List.length_filter_le (fun i => decide (p.begins.getD i 0 / blk = c)) (List.range p.small.length)
    simpa [placesP] using this
  rw [h1, List.length_append] at h2
  omega
theorem NxtOk.lt (h : NxtOk blk p Y) (c : Nat) {i : Nat} (hi : i ∈ Y c) : i < p.small.length := by
  obtain ⟨ds, h1, _⟩ := h c
  have h3 : i ∈ placesP blk p c := by rw [h1]; exact List.mem_append_right _ hi
  exact List.mem_range.1 (List.mem_filter.1 h3).1
theorem Fst.addS (h : Fst p fi) (hl : p.lk.length = p.small.length) : Fst (p.addS mk x s) fi := by
  refine ⟨by simp only [PlD.addS, List.length_append]; have := h.1; omega, fun i hi => ?_⟩
  simp only [PlD.addS]
  rw [getD_appL (by have := h.1; omega)]
  exact h.2 i hi
theorem Fst.lookd (h : Fst p fi) (i : Nat) : Fst (p.looked i) fi := ⟨h.1, fun j hj => getD_true (h.2 j hj)⟩
end
/-- The program's plan in memory. -/
structure PQ (V0 : World) (G : GraphD) (lim blk b : Nat) (sv bv kv lv pv mv : Value) (mp nm : Nat) (f : Int → Value) (Y : Int → List Nat) (K fi : Nat) (p : PlD) (w : World) : Prop where
  cel : w.heap[b]? = some (.cells #[.slice G.nA G.ns.length G.ncap, .slice G.rA G.rs.length G.rcap, .int .i64 lim, .int .i64 blk, mv, sv, lv, bv, .int .i64 p.top, pv, .map (some mp), .int .i64 fi, kv] 79 (0, 0))
  pr : PR V0 sv bv kv lv pv mv mp nm f Y (metL G.ns.length p) p w
  lo : V0.heap.size ≤ b
  nx : NxtOk blk p Y
  nmk : nm ≤ K + p.met
  fst : Fst p fi
/-- Its blocks. -/
def PQ.S (b : Nat) (sv bv kv lv pv mv : Value) (mp : Nat) (f : Int → Value) (k : Nat) : Prop := k = b ∨ k = mp ∨ (∃ v ∈ [sv, bv, kv, lv, pv, mv], v.ownBlock = some k) ∨ ∃ c, (f c).ownBlock = some k
section
variable {V0 : World} {G : GraphD} {lim blk b : Nat} {sv bv kv lv pv mv : Value} {mp nm : Nat} {f : Int → Value} {Y : Int → List Nat} {K fi : Nat} {p : PlD} {w w' : World}
theorem PQ.grow (h : PQ V0 G lim blk b sv bv kv lv pv mv mp nm f Y K fi p w) (hx : Ext w w') : PQ V0 G lim blk b sv bv kv lv pv mv mp nm f Y K fi p w' :=
  ⟨(hx.block (lt_of_heap h.cel)).trans h.cel, h.pr.grow hx, h.lo, h.nx, h.nmk, h.fst⟩
end
/-- The same, wherever all lies; what was there before stands but for the plan's own blocks. -/
def PP (V0 : World) (G : GraphD) (lim blk b K : Nat) (p : PlD) (w : World) : Prop := ∃ sv bv kv lv pv mv mp nm f Y fi, PQ V0 G lim blk b sv bv kv lv pv mv mp nm f Y K fi p w
theorem PP.grow {V0 w w' : World} {G : GraphD} {lim blk b K : Nat} {p : PlD} (h : PP V0 G lim blk b K p w) (hx : Ext w w') : PP V0 G lim blk b K p w' := by
  obtain ⟨sv, bv, kv, lv, pv, mv, mp, nm, f, Y, fi, h⟩ := h
  exact ⟨sv, bv, kv, lv, pv, mv, mp, nm, f, Y, fi, h.grow hx⟩
theorem PP.ext {V0 w : World} {G : GraphD} {lim blk b K : Nat} {p : PlD} (h : PP V0 G lim blk b K p w) : Ext V0 w := by
  obtain ⟨sv, bv, kv, lv, pv, mv, mp, nm, f, Y, fi, h⟩ := h
  exact h.pr.ext
theorem PP.mono {V0 w : World} {G : GraphD} {lim blk b K K2 : Nat} {p : PlD} (h : PP V0 G lim blk b K p w) (hk : K ≤ K2) : PP V0 G lim blk b K2 p w := by
  obtain ⟨sv, bv, kv, lv, pv, mv, mp, nm, f, Y, fi, h⟩ := h
  exact ⟨sv, bv, kv, lv, pv, mv, mp, nm, f, Y, fi, h.cel, h.pr, h.lo, h.nx, by have := h.nmk; omega, h.fst⟩
section
variable {G : GraphD} {lim blk : Nat} {V : World}
theorem PP.new {V0 : World} {b mp : Nat} {mv : Value} {w : World} (ho : Own 4 1 boolC w V0.heap.size mv (List.replicate G.ns.length false)) (hm : MapV w mp 0 (fun _ => .slice none 0 0)) (hml : V0.heap.size ≤ mp) (hx : Ext V0 w)
    (hb : w.heap[b]? = some (.cells #[.slice G.nA G.ns.length G.ncap, .slice G.rA G.rs.length G.rcap, .int .i64 lim, .int .i64 blk, mv, .slice none 0 0, .slice none 0 0, .slice none 0 0, .int .i64 0, .slice none 0 0, .map (some mp), .int .i64 0, .slice none 0 0] 79 (0, 0))) (hlo : V0.heap.size ≤ b) : PP V0 G lim blk b 0 PlD.new w := by
  have hml' : metL G.ns.length PlD.new = List.replicate G.ns.length false := list_ext false (by simp [metL]) fun i hi => by
    rw [metL_len] at hi
    rw [metL_get hi]
    simp [PlD.has, PlD.new, hi]
  refine ⟨_, _, _, _, _, mv, mp, 0, fun _ => .slice none 0 0, fun _ => [], 0, hb, ⟨Own.nil _ _ _ _ _, Own.nil _ _ _ _ _, Own.nil _ _ _ _ _, Own.nil _ _ _ _ _, Own.nil _ _ _ _ _, by rw [hml']; exact ho, hm, fun _ => OwnO.nil _ _, ?_, ?_, ?_, hml, hx⟩, hlo, ?_, by simp, ⟨by simp, by omega⟩⟩
  · intro i j x y g hi hj hij hx hy
    have key : ∀ k z, [Value.slice none 0 0, .slice none 0 0, .slice none 0 0, .slice none 0 0, .slice none 0 0, mv][k]? = some z → z.ownBlock = some g → k = 5 := by
      intro k z hk hz
      match k, hk with
      | 0, hk => injection hk with hk; subst hk; cases hz
      | 1, hk => injection hk with hk; subst hk; cases hz
      | 2, hk => injection hk with hk; subst hk; cases hz
      | 3, hk => injection hk with hk; subst hk; cases hz
      | 4, hk => injection hk with hk; subst hk; cases hz
      | 5, hk => rfl
      | k + 6, hk => simp at hk
    exact hij ((key i x hi hx).trans (key j y hj hy).symm)
  · intro v hv c g hvg hfg
    cases hfg
  · intro c c' g hc h1
    cases h1
  · intro c
    exact ⟨[], by simp [placesP, PlD.new], by simp⟩
theorem newplan_any (hV : GraphAt V G) (hG : RchG G lim blk) :
    Calls Try.prog 46 #[.agg #[.slice G.nA G.ns.length G.ncap, .slice G.rA G.rs.length G.rcap], .int .i64 lim, .int .i64 blk] V fun e w' => ∃ b, e = .returned (.pointer (some ⟨b, 0, none⟩)) ∧ PP V G lim blk b 0 PlD.new w' := by
  have hx0 := (Ext.refl V).alloc (.cells #[.slice G.nA G.ns.length G.ncap, .slice G.rA G.rs.length G.rcap] 25)
  have hBx := pers_new V #[.slice G.nA G.ns.length G.ncap, .slice G.rA G.rs.length G.rcap] 25 _ rfl
  have HX := Lib.hid hx0
  have HN := Lib.hid hG.n
  have HVS : Hid (V.heap.size ≤ V.heap.size) := Lib.hid (Nat.le_refl _)
  clear hx0 hV hG
  go_enter Try.func46, Try.ntmps46
  go_wp2_with fail
  generalize V.alloc (.cells #[.slice G.nA G.ns.length G.ncap, .slice G.rA G.rs.length G.rcap] 25) = W at *
  have hyd := (Ext.refl W).drew
  have hGP : BoxK V.heap.size #[.slice G.nA G.ns.length G.ncap, .slice G.rA G.rs.length G.rcap] 25 W.drew := (hBx.re hyd).here
  have gB := hGP.cells
  (refine wp_region_gp (w := W) (fun w' => ∃ u : KeptOf (W).drew (BoxK V.heap.size #[.slice G.nA G.ns.length G.ncap, .slice G.rA G.rs.length G.rcap] 25), w' = u.1) (.rd [0, 1, 2, 3, 4, 5] (.fk 6 (.one 7 .tl) 7 (.one 6 .tl))) [8, 9, 10] (by kernel_rfl) (by kernel_rfl) (by intro c a d v w h; first | exact h | (cases d <;> first | exact h | (cases h; done) | cases h.1.1 | cases h.1)) (kept_mk hGP) ?_)
  (refine gp_rd ?_; (try simp only [opsOf, List.map_cons, List.map_nil, List.getD_cons_zero, List.getD_cons_succ]); (repeat (go_big_quiet_step (fail))); refine wpQuiet_nil ?_)
  refine gp_fk ?_ ?_
  · refine gp_one (by (try simp only [List.getD_cons_succ, List.getD_cons_zero]); rfl) (by rfl) ?_
    intro K hK
    refine wp_makeB (.tmp 12) rfl G.ns.length (by rfl) (by have := HN.out; omega) ?_
    intro wN ho hy
    have HO := Lib.hid (ho.mono (B' := V.heap.size) (HX.out.trans hyd).size)
    refine hK _ _ _ (fun _ h => h) (kept_mk (hGP.ext hy)) ?_
    clear hK K ho
    (refine gp_one (by (try simp only [List.getD_cons_succ, List.getD_cons_zero]); rfl) (by rfl) ?_; intro K hK; go_simp)
    refine hK _ _ _ (fun _ h => h) (kept_mk ((hGP.ext hy).ext ((Ext.refl _).alloc _))) ?_
    clear hK K gB
    (refine gp_tl ?_; (try simp only [opsOf, List.map_cons, List.map_nil, List.getD_cons_zero, List.getD_cons_succ]))
    have HXN := Lib.hid ((HX.out.trans hyd).trans hy)
    have HM := Lib.hid (MapV.made wN)
    have HOX := Lib.hid (HO.out.ext ((Ext.refl wN).alloc (.map #[] 0)))
    have HBX := Lib.hid (((hGP.ext hy).ext ((Ext.refl _).alloc (.map #[] 0))))
    clear HO hy hyd hGP
    go_wp2_with fail
    go_ret
    exact ⟨wN.heap.size + 1, rfl, PP.new (HOX.out.ext ((Ext.refl _).alloc _)) (HM.out.ext ((Ext.refl _).alloc _)) HXN.out.size ((HXN.out.alloc _).alloc _) (blk_new _ _ _ _ (by simp)) (by have := HXN.out.size; omega)⟩
  · (refine gp_one (by (try simp only [List.getD_cons_succ, List.getD_cons_zero]); rfl) (by rfl) ?_; intro K hK; go_simp)
    refine hK _ _ _ (fun _ h => h) (kept_mk (hGP.ext ((Ext.refl W.drew).alloc (.map #[] 0)))) ?_
    clear hK K gB
    have hGP2 := hGP.ext ((Ext.refl W.drew).alloc (.map #[] 0))
    have HM := Lib.hid (MapV.made W.drew)
    have hx2 := (HX.out.trans hyd).alloc (.map #[] 0)
    have hms := (HX.out.trans hyd).size
    refine gp_one (by (try simp only [List.getD_cons_succ, List.getD_cons_zero]); rfl) (by rfl) ?_
    intro K hK
    refine wp_makeB (.tmp 12) rfl G.ns.length (by rfl) (by have := HN.out; omega) ?_
    intro wN ho hy
    replace hy : Ext (W.drew.alloc (.map #[] 0)) wN := hy
    replace ho : Own 4 1 boolC wN V.heap.size (.slice (some ⟨(W.drew.alloc (.map #[] 0)).heap.size, 0, none⟩) G.ns.length G.ns.length) (List.replicate G.ns.length false) := ho.mono hx2.size
    have HO := Lib.hid ho
    refine hK _ _ _ (fun _ h => h) (kept_mk (hGP2.ext hy)) ?_
    clear hK K ho
    (refine gp_tl ?_; (try simp only [opsOf, List.map_cons, List.map_nil, List.getD_cons_zero, List.getD_cons_succ]))
    have HXN := Lib.hid (hx2.trans hy)
    replace HM := Lib.hid (HM.out.ext hy)
    have HMS := Lib.hid hms
    clear hy hyd hGP hGP2 hx2 hms
    go_wp2_with fail
    go_ret
    have ho := HO.out
    rw [show (W.drew.alloc (.map #[] 0)).heap.size = W.heap.size + 1 by simp] at ho
    have hm : MapV wN W.heap.size 0 (fun _ => .slice none 0 0) := HM.out
    exact ⟨wN.heap.size, rfl, PP.new (ho.ext ((Ext.refl _).alloc _)) (hm.ext ((Ext.refl _).alloc _)) HMS.out (HXN.out.alloc _) (blk_new _ _ _ _ rfl) HXN.out.size⟩
end
end Go.Proofs.Ytphpppjfogpohaa

