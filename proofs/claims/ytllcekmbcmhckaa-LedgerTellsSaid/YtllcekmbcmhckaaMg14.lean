/- Merged by program (merge.py) out of: RefGap. -/
import Derived.Test.YtllcekmbcmhckaaMg8
import Derived.Test.YtllcekmbcmhckaaMg1
/- The walk of the reference's Gaps. -/
set_option linter.unusedSimpArgs false
set_option linter.unusedVariables false
namespace Go.Proofs.Ytllcekmbcmhckaa
open Go.RowKit

section
variable {α : Type} {e : TypeId} {n : Nat} {f : α → List Value} {B : Nat} {v : Value} {xs ys : List α} {w : World} {P : Program} {bytes : Nat}
/-- A slice literal that was just laid. -/
theorem Own.lit (hf : Cells n f) (ys : List α) (cs : Array Value) (hcs : cs = (ys.flatMap f).toArray) (m : Nat) (hm : ys.length = m) (hB : B ≤ w.heap.size) (h63 : m ≤ maxLen) (H : Nat) (hH : w.heap.size = H) :
    Own e n f (w.alloc (.cells cs e)) B (.slice (some ⟨H, 0, none⟩) m m) ys := by
  subst hcs hm hH
  refine ⟨flat_len hf ys, .inr ⟨w.heap.size, ys.length, _, rfl, hB, heap_alloc_new w _, Nat.le_refl _, h63, by simp [flat_len hf], ?_⟩⟩
  rw [List.take_of_length_le (by simp [flat_len hf])]
/-- append from a slice that came in: nil, or somewhere. -/
theorem wpList_app_src {ops : Array Oper} {rest : List Oper} {o : Oper} {a : Act} {Q : Exit → Act → World → Prop} (hgd : o.guard = none) (s x : Operand) (t : TypeId)
    (ho : o.op = .call { callee := .builtin .append, args := #[s, x], argTypes := #[t, t] }) (hI : Info P t e n bytes) (hf : Cells n f)
    (hs : a.eval s = v) (hown : Own e n f w B v xs) (ys : List α) (A : Option Addr) (c : Nat) (hA : A = none → c = 0) (r m : Nat) (hk : xs.length + ys.length = r) (hm : ys.length = m) (hx : a.eval x = .slice A m c) (hr : RowAt n f w A ys)
    (hlen : r * bytes ≤ 140737488355328) (h63 : r ≤ maxLen) (hB : B ≤ w.heap.size)
    (h : ∀ A cap w', Own e n f w' B (.slice A r cap) (xs ++ ys) → w.grownBy w' v.ownBlock →
      ((Value.slice A r cap).ownBlock = v.ownBlock ∨ (Value.slice A r cap).ownBlock = some w.heap.size) →
      wpList P ops Q rest (a.put o.dst (.slice A r cap)) w') : wpList P ops Q (o :: rest) a w := by
  cases A with
  | some ad => exact wpList_app hgd s x t ho hI hf hs hown ys ad c r m hk hm hx hr hlen h63 hB h
  | none =>
    have hys : ys = [] := by
      obtain ⟨b, off, hA, _⟩ := hr
      cases ys with
      | nil => rfl
      | cons y ys => exact absurd (hA (by simp)) (by simp)
    subst hys hm
    obtain rfl := hA rfl
    obtain ⟨A0, cap0, rfl, _⟩ := hown.form hf hI.pos
    simp only [List.length_nil, Nat.add_zero] at hk
    subst hk
    refine wpList_app_none hgd s x t ho hI hs hown hx (h A0 cap0 w (by simpa using hown) (World.grownBy.refl _ _) (.inl rfl))
end

theorem refcovered_u {W : World} (A : Option Addr) (cap : Nat) (xs : List (Int × Int)) (p : Int) (b : Bool) (h : coveredB xs p = b) (hlen : xs.length ≤ 9223372036854775807) (hl : SpansAt W A xs) (u : ExtOf W) :
    Calls Try.prog 64 #[.slice A xs.length cap, .int .i64 p] u.1 fun e w' => e = .returned (.bool b) ∧ Ext u.1 w' := by
  rw [← h]; exact refcovered_any A cap xs p u.1 hlen (hl.ext u.2)

def GapRel (W : World) (a s : Int) (xs : List (Int × Int)) (es : List Int) (v i : Value) (wr : World) : Prop :=
  ∃ (k : Nat) (zs : List (Int × Int)), i = .int .i64 k ∧ (es.length = 0 ∧ k = 0 ∨ k + 1 ≤ es.length) ∧ zs.length ≤ k ∧ OwnS wr W.heap.size v zs ∧
    (es.length = 0 ∧ zs = [] ∨ JoinTo (LeftB a s xs) (es.getD k 0) zs) ∧ Ext W wr ∧ (∀ x ∈ zs, Lo x.1 ∧ Lo x.2)

set_option maxRecDepth 100000 in
set_option maxHeartbeats 8000000 in
theorem refgaps_any (a s : Int) (A : Option Addr) (cap : Nat) (xs : List (Int × Int)) (U0 : World) (hA : A = none → cap = 0) (hlen : xs.length ≤ 100000) (hl : SpansAt U0 A xs) :
    Calls Try.prog 32 #[.agg #[.int .i64 (a), .int .i64 (s)], .slice A xs.length cap] U0 (fun e w' => ∃ zs, GapsOf a s xs zs ∧ RetS U0 U0.heap.size zs e w') := by
  have HL := Lib.hid hl
  clear hl
  go_enter Try.func32, Try.ntmps32
  have k0 := fun w' => boxed U0 #[.int .i64 a, .int .i64 s] 23 0 (.int .i64 a) rfl w'
  have k1 := fun w' => boxed U0 #[.int .i64 a, .int .i64 s] 23 1 (.int .i64 s) rfl w'
  have HLIT : Hid (∀ B, B ≤ U0.heap.size + 1 → OwnS ((U0.alloc (.cells #[.int .i64 a, .int .i64 s] 23)).alloc (.cells #[.int .i64 a, .int .i64 s] 23)) B (.slice (some ⟨U0.heap.size + 1, 0, none⟩) 1 1) [(a, s)]) :=
    Lib.hid fun B hB => Own.lit spanCells [(a, s)] _ rfl 1 rfl (by simpa using hB) (by simp [maxLen]) _ (by simp)
  go_wp2_with (at_builtin; refine wpList_app_src rfl (.tmp 9) (.tmp 10) 29 rfl spanInfo spanCells rfl (by exact HLIT.out U0.heap.size (by omega)) xs A cap hA ([(a, s)] ++ xs).length xs.length (by first | omega | (simp; done) | (simp; omega) | (simp [maxLen]; done) | (simp [maxLen]; omega)) rfl rfl (by exact RowAt.ext HL.out (((Ext.refl _).alloc _).alloc _)) (by first | omega | (simp; done) | (simp; omega) | (simp [maxLen]; done) | (simp [maxLen]; omega)) (by first | omega | (simp; done) | (simp; omega) | (simp [maxLen]; done) | (simp [maxLen]; omega)) (by first | omega | (simp; done) | (simp; omega) | (simp [maxLen]; done) | (simp [maxLen]; omega)) ?_; intro A3 cap3 W0 hown3 hgr3 hat3; have HO3 := Lib.hid hown3; have hX0 : Ext U0 W0 := Own.below (HLIT.out U0.heap.size (by omega)) (((Below.refl _ _).alloc (Nat.le_refl _) _).alloc (by simp) _) hgr3 (by simp; omega); have hXB : Below (U0.heap.size + 1) (U0.alloc (.cells #[.int .i64 a, .int .i64 s] 23)) W0 := Own.below (HLIT.out (U0.heap.size + 1) (by omega)) ((Below.refl _ _).alloc (by simp) _) hgr3 (by simp); have hXB : Ext (U0.alloc (.cells #[.int .i64 a, .int .i64 s] 23)) W0 := Below.mono hXB (by simp); clear hown3 hgr3 hat3)
  obtain ⟨_, _, e3, hrow3, _⟩ := HO3.out.form spanCells (by decide)
  obtain ⟨rfl, _, rfl⟩ : _ ∧ _ ∧ _ := by simpa only [Value.slice.injEq] using e3
  have HL3 := Lib.hid hrow3
  have hl2 := HL.out.ext hX0
  have hlen' : xs.length ≤ 9223372036854775807 := by omega
  refine (refends_any A3 cap3 ([(a, s)] ++ xs) W0 (by simp; omega) HL3.out).mono ?_
  clear e3 hrow3 HO3 HL3
  rintro e W ⟨es, hes, v, rfl, hown, hb⟩
  have hX : Ext W0 W := hb
  have b0 := fun w' (h : Ext W w') => k0 w' (hXB.trans (hX.trans h))
  have b1 := fun w' (h : Ext W w') => k1 w' (hXB.trans (hX.trans h))
  clear k0 k1
  have HES := Lib.hid hes
  have hsz : W0.heap.size ≤ W.heap.size := Ext.size hX
  have HLW := Lib.hid (hl2.ext hX)
  obtain ⟨A2, cap2, rfl, hrow, -, -, -, -⟩ := Own.form hown intCells (by decide)
  have HR := Lib.hid hrow
  have HXX := Lib.hid hX
  clear hl2 hes hb hown hrow hX HL hXB
  have hel : es.length ≤ 1099511627777 := by
    have h := HES.out
    rcases Nat.eq_zero_or_pos es.length with h0 | h0
    · omega
    · have h1 := inc_length 0 es h.inc (fun z hz => (ends_lo h z hz).1) (es.length - 1) (by omega)
      have h2 := (ends_lo h _ (List.getElem_mem (show es.length - 1 < es.length by omega))).2
      omega
  go_wp2_with fail
  go_loopw [6, 7] (fun v i wr => GapRel W a s xs es v i wr) (fun _ i _ => es.length - (intOf i).toNat)
  case atStart =>
    refine ⟨0, [], rfl, by omega, by simp, Own.nil _ _ _ _ _, ?_, Ext.refl _, by simp⟩
    rcases Nat.eq_zero_or_pos es.length with h0 | h0
    · exact .inl ⟨h0, rfl⟩
    · refine .inr ?_
      have := gap_start HES.out h0
      simpa [List.getD, List.getElem?_eq_getElem h0] using this
  case round =>
    obtain ⟨k, zs, rfl, hk, hzl, hown, hj, hE, hlo⟩ := hrel
    have HO := Lib.hid hown
    have HJ := Lib.hid hj
    have HLO := Lib.hid hlo
    have hszr : W.heap.size ≤ wr.heap.size := Ext.size hE
    clear hown hj hlo
    have ib9 : (es.length : Int) ≤ 1099511627777 := by omega
    by_cases hlt : k + 1 < es.length
    rotate_left
    · have hd : ¬ ((k : Int) + 1 < (es.length : Int)) := by omega
      have hk1 : (k : Int) ≤ 1099511627777 := by omega
      go_wp2_with fail
      go_ret
      refine ⟨zs, ?_, _, rfl, HO.out.mono (Nat.le_trans (Ext.size hX0) hsz), hX0.trans (HXX.out.trans hE)⟩
      rcases HJ.out with ⟨h0, rfl⟩ | hjt
      · exact gap_none HES.out (by omega)
      · rcases hk with ⟨h0, _⟩ | hk
        · have hkk : zs = [] := by cases zs with
            | nil => rfl
            | cons => simp at hzl; omega
          rw [hkk]
          exact gap_none HES.out (by omega)
        · obtain rfl : k = es.length - 1 := by omega
          refine gap_end HES.out (by omega) ?_
          simpa [List.getD, List.getElem?_eq_getElem (show es.length - 1 < es.length by omega)] using hjt
    have hjt : JoinTo (LeftB a s xs) (es.getD k 0) zs := by
      rcases HJ.out with ⟨h0, _⟩ | h
      · omega
      · exact h
    obtain ⟨b, off, rfl, hc⟩ := HR.out.get (by omega)
    have E1 := Lib.hid (ints_cell hc (show k < es.length by omega))
    have E2 := Lib.hid (ints_cell hc hlt)
    have c1 : ∀ w', Ext W w' → w'.cell? ⟨b, off + k, none⟩ = some (.int .i64 (es.getD k 0)) := fun w' h => h.cell E1.out
    have c2 : ∀ w', Ext W w' → w'.cell? ⟨b, off + (k + 1), none⟩ = some (.int .i64 (es.getD (k + 1) 0)) := fun w' h => h.cell E2.out
    have g1 : es.getD k 0 = es[k] := by simp [List.getD, List.getElem?_eq_getElem (show k < es.length by omega)]
    have g2 : es.getD (k + 1) 0 = es[k + 1] := by simp [List.getD, List.getElem?_eq_getElem hlt]
    have l1 := ends_lo HES.out es[k] (List.getElem_mem _)
    have l2 := ends_lo HES.out es[k + 1] (List.getElem_mem _)
    have l3 : es[k] < es[k + 1] := List.pairwise_iff_getElem.1 HES.out.inc k (k + 1) (by omega) hlt (by omega)
    have HB := Lib.hid (fun p h1 h2 => left_between HES.out hlt (p := p) h1 h2)
    have HN := Lib.hid (gap_nonneg hjt)
    have HJT := Lib.hid hjt
    clear HJ hjt hc
    rw [← g1, ← g2] at l3
    rw [← g1] at l1
    rw [← g2] at l2
    replace HB : Hid (∀ p, es.getD k 0 ≤ p → p < es.getD (k + 1) 0 → hasB a s p = hasB a s (es.getD k 0) ∧ coveredB xs p = coveredB xs (es.getD k 0)) := Lib.hid (by rw [g1, g2]; exact HB.out)
    clear g1 g2
    obtain ⟨l1a, l1b⟩ := l1
    obtain ⟨l2a, l2b⟩ := l2
    generalize es.getD k 0 = p at *
    generalize hq : es.getD (k + 1) 0 = q at *
    have HQ := Lib.hid hq
    clear hq
    have ib0 : (0 : Int) ≤ (k : Int) := by omega
    have ib1 : (k : Int) < (es.length : Int) := by omega
    have ib2 : (k : Int) + 1 < (es.length : Int) := by omega
    have HLR := Lib.hid (HLW.out.ext hE)
    have hs0 : Ext wr wr := Ext.refl wr
    have l0 : ∀ u : ExtOf wr, u.1.cell? ⟨U0.heap.size, 0, none⟩ = some (.int .i64 a) := fun u => b0 u.1 (hE.trans u.2)
    have l1 : ∀ u : ExtOf wr, u.1.cell? ⟨U0.heap.size, 1, none⟩ = some (.int .i64 s) := fun u => b1 u.1 (hE.trans u.2)
    have l2 : ∀ u : ExtOf wr, u.1.cell? ⟨b, off + k, none⟩ = some (.int .i64 p) := fun u => c1 u.1 (hE.trans u.2)
    cases hhv : hasB a s p
    · have HS := Lib.hid (HJT.out.skip l3 (fun r h1 h2 h => by rw [LeftB, (HB.out r h1 h2).1, hhv] at h; cases h.1))
      clear HB HJT HN b0 b1 c1 c2
      go_wp2_with fail
      (refine wp_region_ext (W := wr) (by kernel_rfl) (by kernel_rfl) (by with_reducible assumption) ?_; (repeat (go_big_quiet_step (first | (go_at_call 16; with_reducible exact Calls.ext_of (refhas_is a s p _ hhv _))))); refine wpQuiet_nil ?_; intro w1 hx)
      replace HO := Lib.hid (HO.out.ext hx)
      replace hE := hE.trans hx
      clear l0 l1 l2 hx
      go_wp2_with fail
      go_roundw
      case rel => exact ⟨k + 1, zs, by go_num, .inr (by omega), by omega, HO.out, .inr (by rw [HQ.out]; exact HS.out), hE, HLO.out⟩
      case measure => simp [intOf]; omega
    cases hcv : coveredB xs p
    rotate_left
    · have HS := Lib.hid (HJT.out.skip l3 (fun r h1 h2 h => by rw [LeftB, (HB.out r h1 h2).2, hcv] at h; cases h.2))
      clear HB HJT HN b0 b1 c1 c2
      go_wp2_with fail
      (refine wp_region_ext (W := wr) (by kernel_rfl) (by kernel_rfl) (by with_reducible assumption) ?_; (repeat (go_big_quiet_step (first | (go_at_call 16; with_reducible exact Calls.ext_of (refhas_is a s p _ hhv _)) | (go_at_call 64; with_reducible exact Calls.ext_of (refcovered_u A cap xs p _ hcv hlen' HLR.out _))))); refine wpQuiet_nil ?_; intro w1 hx)
      replace HO := Lib.hid (HO.out.ext hx)
      replace hE := hE.trans hx
      clear l0 l1 l2 hx
      go_wp2_with fail
      go_roundw
      case rel => exact ⟨k + 1, zs, by go_num, .inr (by omega), by omega, HO.out, .inr (by rw [HQ.out]; exact HS.out), hE, HLO.out⟩
      case measure => simp [intOf]; omega
    · have HS := Lib.hid (HJT.out.put l3 (fun r h1 h2 => by rw [LeftB, (HB.out r h1 h2).1, (HB.out r h1 h2).2, hhv, hcv]; exact ⟨rfl, rfl⟩))
      clear HB HJT b0 b1
      go_wp2_with fail
      (refine wp_region_ext (W := wr) (by kernel_rfl) (by kernel_rfl) (by with_reducible assumption) ?_; (repeat (go_big_quiet_step (first | (go_at_call 16; with_reducible exact Calls.ext_of (refhas_is a s p _ hhv _)) | (go_at_call 64; with_reducible exact Calls.ext_of (refcovered_u A cap xs p _ hcv hlen' HLR.out _))))); refine wpQuiet_nil ?_; intro w1 hx)
      rename_i w1
      replace HO := Lib.hid (HO.out.ext hx)
      replace hE := hE.trans hx
      have hszr1 : W.heap.size ≤ w1.heap.size := Ext.size hE
      clear l0 l1 l2 hx hszr
      have hw1 : IntKind.i64.wrap ((k : Int) + 1) = (k : Int) + 1 := IntWalk.i64_in _ (by omega)
      have hw2 : 0 ≤ (k : Int) + 1 := by omega
      have hw3 : ((k : Int) + 1).toNat = k + 1 := by omega
      have HPL := Lib.hid (putL_len zs p q)
      have HPO := Lib.hid (putL_lo HN.out l1a (by omega) l2b)
      go_wp2_with fail
      go_region_held3 (fun w1 => Ext W w1) (first | (with_reducible assumption) | (exact Ext.drew (by with_reducible assumption)) | (with_reducible exact Ext.drew (Ext.alloc (by with_reducible assumption) _)) | (with_reducible exact Ext.alloc (by with_reducible assumption) _) | (exact Ext.trans (by with_reducible assumption) (by with_reducible assumption))) (first
        | (go_at_call 65; refine (refput_any W.heap.size _ zs p q _ (by exact hszr1) (by exact HO.out) (by omega) HLO.out ⟨by omega, by omega⟩ ⟨by omega, by omega⟩).mono ?_; rintro e w2 ⟨v2, rfl, hown2, hb2⟩; have HO2 := Lib.hid hown2; have hE2 : Ext W w2 := Below.trans (Ext.drew hE) hb2; clear hown2 hb2))
      clear hw1 hw2 hw3
      go_wp2_with fail
      go_roundw
      case rel => exact ⟨k + 1, putL zs p q, by go_num, .inr (by omega), by have := HPL.out; omega, HO2.out, .inr (by rw [HQ.out]; exact HS.out), hE2, HPO.out⟩
      case measure => simp [intOf]; omega
end Go.Proofs.Ytllcekmbcmhckaa

