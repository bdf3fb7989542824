/- The walks of the reference's ends and Join of layer 3. -/
import Derived.Test.YtllcekmbcmhckaaRef03C
import Derived.Test.YtllcekmbcmhckaaJoinSpec
set_option linter.unusedSimpArgs false
set_option linter.unusedVariables false
namespace Go.Proofs.Ytllcekmbcmhckaa
open Go.RowKit

/-- The places at which spans that may be begin or end, as spans without words. -/
def ptsL (xs : List (Int × Int)) : List (Int × Int) := xs.flatMap fun x => if mayB x.1 x.2 then [(x.1, 0), (x.1 + x.2, 0)] else []
theorem pts_yes {xs : List (Int × Int)} {k : Nat} (hk : k < xs.length) (h : mayB (xs.getD k (0, 0)).1 (xs.getD k (0, 0)).2 = true) :
    ptsL (xs.take (k + 1)) = ptsL (xs.take k) ++ [((xs.getD k (0, 0)).1, 0), ((xs.getD k (0, 0)).1 + (xs.getD k (0, 0)).2, 0)] := by
  have e : xs.getD k (0, 0) = xs[k] := by simp [List.getD, List.getElem?_eq_getElem hk]
  rw [e] at h ⊢
  rw [List.take_succ_eq_append_getElem hk]
  simp only [ptsL, List.flatMap_append, List.flatMap_cons, List.flatMap_nil, h, if_true, List.append_nil]
theorem pts_no {xs : List (Int × Int)} {k : Nat} (hk : k < xs.length) (h : mayB (xs.getD k (0, 0)).1 (xs.getD k (0, 0)).2 = false) : ptsL (xs.take (k + 1)) = ptsL (xs.take k) := by
  have e : xs.getD k (0, 0) = xs[k] := by simp [List.getD, List.getElem?_eq_getElem hk]
  rw [e] at h
  rw [List.take_succ_eq_append_getElem hk]
  simp only [ptsL, List.flatMap_append, List.flatMap_cons, List.flatMap_nil, h, Bool.false_eq_true, if_false, List.append_nil]
theorem pts_len (xs : List (Int × Int)) : (ptsL xs).length ≤ 2 * xs.length := by
  induction xs with
  | nil => simp [ptsL]
  | cons x xs ih =>
    have : ptsL (x :: xs) = (if mayB x.1 x.2 then [(x.1, 0), (x.1 + x.2, 0)] else []) ++ ptsL xs := by simp [ptsL]
    rw [this]
    split <;> simp <;> omega
theorem pts_mem {xs : List (Int × Int)} {y : Int × Int} : y ∈ ptsL xs ↔ ∃ x ∈ xs, mayB x.1 x.2 = true ∧ (y = (x.1, 0) ∨ y = (x.1 + x.2, 0)) := by
  unfold ptsL
  rw [List.mem_flatMap]
  constructor
  · rintro ⟨x, hx, h⟩
    split at h
    · rename_i hm; simp at h; exact ⟨x, hx, hm, h⟩
    · simp at h
  · rintro ⟨x, hx, hm, h⟩
    exact ⟨x, hx, by rw [if_pos hm]; simpa using h⟩

/-- The beginnings of a row in order, each once. -/
structure FirstsOf (ys : List (Int × Int)) (es : List Int) : Prop where
  inc : es.Pairwise (· < ·)
  mem : ∀ p, p ∈ es ↔ ∃ y ∈ ys, y.1 = p
theorem FirstsOf.same {zs : List (Int × Int)} {es : List Int} {k : Nat} (hk : k + 1 < zs.length) (h : FirstsOf (zs.take (k + 1)) es) (e : (zs.getD (k + 1) (0, 0)).1 = (zs.getD k (0, 0)).1) : FirstsOf (zs.take (k + 1 + 1)) es := by
  refine ⟨h.inc, fun p => (h.mem p).trans ?_⟩
  have e1 : zs.getD (k + 1) (0, 0) = zs[k + 1] := by simp [List.getD, List.getElem?_eq_getElem hk]
  have e2 : zs.getD k (0, 0) = zs[k] := by simp [List.getD, List.getElem?_eq_getElem (show k < zs.length by omega)]
  rw [e1, e2] at e
  rw [show zs.take (k + 1 + 1) = zs.take (k + 1) ++ [zs[k + 1]] from List.take_succ_eq_append_getElem hk]
  constructor
  · rintro ⟨y, hy, rfl⟩; exact ⟨y, List.mem_append.2 (.inl hy), rfl⟩
  · rintro ⟨y, hy, rfl⟩
    rw [List.mem_append] at hy
    rcases hy with hy | hy
    · exact ⟨y, hy, rfl⟩
    · simp only [List.mem_singleton] at hy
      subst hy
      exact ⟨zs[k], List.mem_take_iff_getElem.2 ⟨k, by omega, rfl⟩, e.symm⟩
theorem FirstsOf.more {zs : List (Int × Int)} {es : List Int} {k : Nat} (hs : zs.Pairwise (fun x y => leS x y = true)) (hk : k < zs.length) (h : FirstsOf (zs.take k) es)
    (e : ∀ j, j + 1 = k → (zs.getD k (0, 0)).1 ≠ (zs.getD j (0, 0)).1) : FirstsOf (zs.take (k + 1)) (es ++ [(zs.getD k (0, 0)).1]) := by
  have gd : ∀ i (h : i < zs.length), zs[i]'h = zs.getD i (0, 0) := fun i h => by simp [List.getD, List.getElem?_eq_getElem h]
  have ht : zs.take (k + 1) = zs.take k ++ [zs.getD k (0, 0)] := by rw [← gd k hk]; exact List.take_succ_eq_append_getElem hk
  have hs' : ∀ i j, i < j → j < zs.length → (zs.getD i (0, 0)).1 ≤ (zs.getD j (0, 0)).1 := fun i j hij hj => by
    have := List.pairwise_iff_getElem.1 hs i j (by omega) hj hij
    rw [gd, gd, leS_iff] at this
    omega
  rw [ht]
  refine ⟨?_, fun p => ?_⟩
  · rw [List.pairwise_append]
    refine ⟨h.inc, by simp, fun p hp q hq => ?_⟩
    simp only [List.mem_singleton] at hq
    subst hq
    obtain ⟨y, hy, rfl⟩ := (h.mem p).1 hp
    obtain ⟨j, hj, rfl⟩ := List.getElem_of_mem hy
    have hjk : j < k := by simp at hj; omega
    rw [List.getElem_take, gd j (by omega)]
    have h2 := hs' (k - 1) k (by omega) hk
    have h3 : (zs.getD j (0, 0)).1 ≤ (zs.getD (k - 1) (0, 0)).1 := by
      rcases Nat.lt_or_ge j (k - 1) with h | h
      · exact hs' j (k - 1) h (by omega)
      · have : j = k - 1 := by omega
        subst this; exact Int.le_refl _
    have h4 := e (k - 1) (by omega)
    omega
  · simp only [List.mem_append, List.mem_singleton]
    constructor
    · rintro (hp | rfl)
      · obtain ⟨y, hy, rfl⟩ := (h.mem p).1 hp; exact ⟨y, .inl hy, rfl⟩
      · exact ⟨_, .inr rfl, rfl⟩
    · rintro ⟨y, hy | rfl, rfl⟩
      · exact .inl ((h.mem _).2 ⟨y, hy, rfl⟩)
      · exact .inr rfl
theorem ends_of {xs : List (Int × Int)} {es : List Int} (h : FirstsOf (sortS (ptsL xs)) es) : EndsOf xs es := by
  refine ⟨h.inc, fun z => (h.mem z).trans ?_⟩
  constructor
  · rintro ⟨y, hy, rfl⟩
    rw [sortS_mem, pts_mem] at hy
    obtain ⟨x, hx, hm, rfl | rfl⟩ := hy
    · exact ⟨x, hx, hm, .inl rfl⟩
    · exact ⟨x, hx, hm, .inr rfl⟩
  · rintro ⟨x, hx, hm, rfl | rfl⟩
    · exact ⟨(x.1, 0), by rw [sortS_mem, pts_mem]; exact ⟨x, hx, hm, .inl rfl⟩, rfl⟩
    · exact ⟨(x.1 + x.2, 0), by rw [sortS_mem, pts_mem]; exact ⟨x, hx, hm, .inr rfl⟩, rfl⟩

def EndsRel2 (W : World) (zs : List (Int × Int)) (v i : Value) (wr : World) : Prop :=
  ∃ (k m : Nat) (A : Option Addr) (cap : Nat) (es : List Int), k ≤ zs.length ∧ i = .int .i64 k ∧ v = .slice A m cap ∧ es.length = m ∧ m ≤ k ∧ OwnI wr W.heap.size v es ∧ FirstsOf (zs.take k) es ∧ Ext W wr

def EndsRel1 (W : World) (xs : List (Int × Int)) (v i : Value) (wr : World) : Prop :=
  ∃ (k n : Nat) (A : Option Addr) (cap : Nat), k ≤ xs.length ∧ i = .int .i64 k ∧ v = .slice A n cap ∧ n ≤ 2 * k ∧ (ptsL (xs.take k)).length = n ∧ OwnS wr W.heap.size v (ptsL (xs.take k)) ∧ Ext W wr

set_option maxRecDepth 100000 in
set_option maxHeartbeats 4000000 in
theorem refends_any (A : Option Addr) (cap : Nat) (xs : List (Int × Int)) (W : World) (hlen : xs.length ≤ 400000) (hl : SpansAt W A xs) :
    Calls Try.prog 63 #[.slice A xs.length cap] W (fun e w' => ∃ es, EndsOf xs es ∧ RetI W W.heap.size es e w') := by
  have HL := Lib.hid hl
  clear hl
  go_enter Try.func63, Try.ntmps63
  go_wp2_with fail
  go_loopw [3, 4] (fun v i wr => EndsRel1 W xs v i wr) (fun _ i _ => xs.length - (intOf i).toNat)
  case atStart => exact ⟨0, 0, none, 0, by omega, rfl, rfl, by omega, rfl, Own.nil _ _ _ _ _, Ext.refl _⟩
  case round =>
    obtain ⟨k, n, A1, cap1, hk, rfl, rfl, hn, hyl, hown, hE⟩ := hrel
    have HO := Lib.hid hown
    have HY := Lib.hid hyl
    clear hown hyl
    by_cases hlt : k < xs.length
    rotate_left
    · obtain rfl : k = xs.length := by omega
      have hps := HO.out
      have hpl := HY.out
      have hpn := pts_len xs
      rw [List.take_length] at hps hpl
      have HEND := Lib.hid (fun (es : List Int) (h : FirstsOf (sortS (ptsL xs)) es) => ends_of h)
      clear HO HY HL
      generalize ptsL xs = ps at *
      subst hpl
      obtain ⟨A0, cap0, hv, hrow, -, -, -, -⟩ := Own.form hps spanCells (by decide)
      injection hv with hv1 hv2 hv3
      subst hv1 hv3
      have HR := Lib.hid hrow
      clear hrow hv2 hps
      have hpl2 : ps.length ≤ 1000000 := by omega
      go_wp2_with fail
      refine (refsort_any A1 cap1 ps wr hpl2 HR.out).mono ?_
      rintro e W2 ⟨v2, rfl, hown2, hb2⟩
      have hE2 : Ext W W2 := hE.trans hb2
      have HS := Lib.hid (sortS_sorted ps)
      have hzl : (sortS ps).length ≤ 1000000 := by rw [sortS_length]; exact hpl2
      generalize sortS ps = zs at *
      obtain ⟨A2, cap2, rfl, hrow2, -, -, -, -⟩ := Own.form hown2 spanCells (by decide)
      have HR2 := Lib.hid hrow2
      have hsz : W.heap.size ≤ W2.heap.size := Ext.size hE2
      have HX := Lib.hid hE2
      clear hrow2 hown2 hb2 hE hE2 HR hpl2 hn hpn
      go_wp2_with fail
      go_loopw [5, 6] (fun v i wr => EndsRel2 W2 zs v i wr) (fun _ i _ => zs.length - (intOf i).toNat)
      case atStart => exact ⟨0, 0, none, 0, [], by omega, rfl, rfl, rfl, by omega, Own.nil _ _ _ _ _, ⟨List.Pairwise.nil, by simp⟩, Ext.refl _⟩
      case round =>
        obtain ⟨k, m, A3, cap3, es, hk2, rfl, rfl, hel, hmk, hown3, hfo, hE3⟩ := hrel
        have HO := Lib.hid hown3
        have HF := Lib.hid hfo
        have HM := Lib.hid hel
        have hsz3 : W2.heap.size ≤ wr.heap.size := Ext.size hE3
        clear hown3 hfo hel
        by_cases hlz : k < zs.length
        rotate_left
        · obtain rfl : k = zs.length := by omega
          go_wp2_with fail
          go_ret
          exact ⟨es, HEND.out es (by have := HF.out; rwa [List.take_length] at this), _, rfl, HO.out.mono hsz, HX.out.trans hE3⟩
        obtain ⟨lb, off, rfl, hc⟩ := HR2.out.get (by omega)
        obtain ⟨f1, -⟩ := spans_cell hc hlz
        have F1 := Lib.hid f1
        have HC := Lib.hid hc
        have c1 : ∀ w', Ext W2 w' → w'.cell? ⟨lb, off + k * 2, none⟩ = some (.int .i64 (zs.getD k (0, 0)).1) := fun w' h => h.cell F1.out
        have HMO := Lib.hid (fun e => FirstsOf.more HS.out hlz HF.out e)
        clear f1 hc HR2
        have ib1 : (k : Int) < (zs.length : Int) := by omega
        have ib0 : (0 : Int) ≤ (k : Int) := by omega
        rcases k with _ | k
        · generalize (zs.getD 0 (0, 0)).1 = a at *
          simp only [Nat.zero_mul, Nat.add_zero, Nat.zero_add] at c1
          go_wp2_with fail
          go_quiet (fail)
          go_wp2_with (at_builtin; refine wpList_app_lit rfl (.tmp 63) (.tmp 69) 62 rfl intInfo intCells rfl (by exact HO.out) [a] 1 _ rfl (m + 1) 1 (by rw [HM.out]; rfl) rfl _ rfl (by first | rfl | simp) (by omega) (by simp [maxLen]; try omega) (by exact hsz3) ?_; intro A4 cap4 w4 hown4 hgr4 hat4; have HO4 := Lib.hid hown4; have hE4 : Ext W2 w4 := Own.below HO.out (Below.alloc (Ext.drewN hE3 _) (by exact hsz3) _) hgr4 (by simp; omega); clear hown4 hgr4 hat4)
          go_roundw
          case rel => exact ⟨1, m + 1, A4, cap4, es ++ [a], by omega, by go_num, rfl, by simp [HM.out], by omega, HO4.out, HMO.out (by omega), hE4⟩
          case measure => simp [intOf]; omega
        · obtain ⟨g1, -⟩ := spans_cell HC.out (show k < zs.length by omega)
          have G1 := Lib.hid g1
          have c2 : ∀ w', Ext W2 w' → w'.cell? ⟨lb, off + k * 2, none⟩ = some (.int .i64 (zs.getD k (0, 0)).1) := fun w' h => h.cell G1.out
          have HSA := Lib.hid (fun e => FirstsOf.same (zs := zs) hlz HF.out e)
          replace HMO := Lib.hid (fun (e : (zs.getD (k + 1) (0, 0)).1 ≠ (zs.getD k (0, 0)).1) => HMO.out (fun j hj => by have hjk : j = k := (by omega); subst hjk; exact e))
          clear g1 HC F1 G1 HF
          generalize (zs.getD (k + 1) (0, 0)).1 = a at *
          generalize (zs.getD k (0, 0)).1 = b at *
          have hcast : ((k + 1 : Nat) : Int) = (k : Int) + 1 := by omega
          rw [hcast]
          rw [hcast] at ib0 ib1
          clear hcast
          have ib3 : (0 : Int) ≤ (k : Int) := by omega
          have ib4 : (k : Int) < (zs.length : Int) := by omega
          have ib5 : ((k : Int) + 1 == 0) = false := by simp; omega
          have ib6 : (zs.length : Int) ≤ 1000000 := by omega
          by_cases hab : a = b
          · have hab1 : (a != b) = false := by simpa using hab
            have HN := Lib.hid (HSA.out hab)
            clear hab HSA HMO
            go_wp2_with fail
            go_quiet (fail)
            go_wp2_with fail
            go_roundw
            case rel => exact ⟨k + 1 + 1, m, A3, cap3, es, by omega, by go_num, rfl, HM.out, by omega, HO.out, HN.out, hE3.drewN _⟩
            case measure => simp [intOf]; omega
          · have hab1 : (a != b) = true := by simpa using hab
            have HN := Lib.hid (HMO.out hab)
            clear hab HSA HMO
            go_wp2_with fail
            go_quiet (fail)
            go_wp2_with (at_builtin; refine wpList_app_lit rfl (.tmp 63) (.tmp 69) 62 rfl intInfo intCells rfl (by exact HO.out) [a] 1 _ rfl (m + 1) 1 (by rw [HM.out]; rfl) rfl _ rfl (by first | rfl | simp) (by omega) (by simp [maxLen]; try omega) (by exact hsz3) ?_; intro A4 cap4 w4 hown4 hgr4 hat4; have HO4 := Lib.hid hown4; have hE4 : Ext W2 w4 := Own.below HO.out (Below.alloc (Ext.drewN hE3 _) (by exact hsz3) _) hgr4 (by simp; omega); clear hown4 hgr4 hat4)
            go_roundw
            case rel => exact ⟨k + 1 + 1, m + 1, A4, cap4, es ++ [a], by omega, by go_num, rfl, by simp [HM.out], by omega, HO4.out, HN.out, hE4⟩
            case measure => simp [intOf]; omega
    obtain ⟨lb, off, rfl, hc⟩ := HL.out.get (by omega)
    obtain ⟨e1, e2⟩ := spans_cell hc hlt
    have E1 := Lib.hid e1
    have E2 := Lib.hid e2
    have c1 : ∀ w', Ext W w' → w'.cell? ⟨lb, off + k * 2, none⟩ = some (.int .i64 (xs.getD k (0, 0)).1) := fun w' h => h.cell E1.out
    have c2 : ∀ w', Ext W w' → w'.cell? ⟨lb, off + k * 2 + 1, none⟩ = some (.int .i64 (xs.getD k (0, 0)).2) := fun w' h => h.cell E2.out
    have HPY := Lib.hid (fun h => pts_yes hlt h)
    have HPN := Lib.hid (fun h => pts_no hlt h)
    have hsz : W.heap.size ≤ wr.heap.size := Ext.size hE
    clear e1 e2 hc HL E1 E2
    generalize (xs.getD k (0, 0)).1 = a at *
    generalize (xs.getD k (0, 0)).2 = s at *
    have ib1 : (k : Int) < (xs.length : Int) := by omega
    have ib0 : (0 : Int) ≤ (k : Int) := by omega
    have ib2 : (xs.length : Int) ≤ 400000 := by omega
    cases hm : mayB a s
    · go_wp2_with fail
      refine (refmay_any _ _ _).mono ?_
      rintro e w1 ⟨rfl, hx1⟩
      replace HO := Lib.hid (HO.out.ext hx1)
      replace hE := hE.trans hx1
      clear hx1
      go_wp2_with fail
      go_roundw
      case rel => exact ⟨k + 1, n, A1, cap1, by omega, by go_num, rfl, by omega, by rw [HPN.out hm]; exact HY.out, by rw [HPN.out hm]; exact HO.out, hE⟩
      case measure => simp [intOf]; omega
    · obtain ⟨m1, m2, m3, m4⟩ := may_bd hm
      go_wp2_with fail
      refine (refmay_any _ _ _).mono ?_
      rintro e w1 ⟨rfl, hx1⟩
      replace HO := Lib.hid (HO.out.ext hx1)
      replace hE := hE.trans hx1
      have hsz1 : W.heap.size ≤ w1.heap.size := Ext.size hE
      clear hx1 hsz
      go_wp2_with fail
      have hws : IntKind.i64.wrap (a + s) = a + s := IntWalk.i64_in _ (by omega)
      go_region_held3 (fun w1 => Ext W w1) (first | (with_reducible assumption) | (exact Ext.drew (by with_reducible assumption)) | (with_reducible exact Ext.drew (Ext.alloc (by with_reducible assumption) _)) | (with_reducible exact Ext.alloc (by with_reducible assumption) _) | (exact Ext.trans (by with_reducible assumption) (by with_reducible assumption))) (first
        | (refine step_app_lit_d rfl (.tmp 18) (.tmp 37) 29 rfl spanInfo spanCells rfl (by exact HO.out) [(a, 0), (a + s, 0)] 2 _ rfl (n + 2) 2 (by rw [HY.out]; rfl) rfl _ rfl (by first | rfl | simp) (by omega) (by simp [maxLen]; try omega) hsz1 ?_; intro A2 cap2 w2 hown2 hgr2 hat2; have HO2 := Lib.hid hown2; have hE2 : Ext W w2 := Own.below HO.out ((Below.alloc hE hsz1 _).drew) hgr2 (by simp; omega); clear hown2 hgr2 hat2))
      clear hws
      go_wp2_with fail
      go_roundw
      case rel => exact ⟨k + 1, n + 2, A2, cap2, by omega, by go_num, rfl, by omega, by rw [HPY.out hm]; simp [HY.out], by rw [HPY.out hm]; exact HO2.out, by assumption⟩
      case measure => simp [intOf]; omega
end Go.Proofs.Ytllcekmbcmhckaa
