/- Arenas that are written: of the call's own memory. -/
import Derived.Test.YtkcpfimhbogdcaaObA
set_option linter.unusedSimpArgs false
set_option linter.unusedVariables false
namespace Go.Proofs.Ytkcpfimhbogdcaa
open Go.RowKit Go.Shelf

theorem own_setU {w : World} {B g cap n : Nat} {xs : List Int} (h : Own 64 1 u64C w B (.slice (some ⟨g, 0, none⟩) n cap) xs) (hn : xs.length = n) (k : Nat) (z : Int) :
    Own 64 1 u64C (w.setCell ⟨g, k, none⟩ (.int .u64 z)) B (.slice (some ⟨g, 0, none⟩) n cap) (xs.set k z) := by
  unfold Own at h ⊢
  rw [hn] at h
  rw [List.length_set, hn, ← u64_set]
  exact (World.ownsRow.stored h k (.int .u64 z)).1
theorem wpList_makeU {ops : Array Oper} {rest : List Oper} {o : Oper} {a : Act} {w : World} {Q : Exit → Act → World → Prop} (hg : o.guard = none) (l : Operand) (hop : o.op = Op.makeSlice 33 l l) (n : Nat) (hl : a.eval l = .int .i64 (n : Int)) (hn : n ≤ 17592186044416)
    (hK : ∀ w', Own 64 1 u64C w' w.heap.size (.slice (some ⟨w.heap.size, 0, none⟩) n n) (List.replicate n (0 : Int)) → Ext w w' → wpList Try.prog ops Q rest (a.put o.dst (.slice (some ⟨w.heap.size, 0, none⟩) n n)) w') : wpList Try.prog ops Q (o :: rest) a w := by
  obtain ⟨i, hi, hz0, hz1, hz2⟩ := info_parts u64Info0
  refine wpList_make_full w hg l l 33 hop w.heap.size 64 i (.int .u64 0) 1 Try.underlying33 hi hz0 hz1 .i64 .i64 n n n hl hl rfl rfl (by rw [hz2]; omega) (by unfold maxLen; omega) (Nat.le_refl _) ?_
  intro w' ho hgr
  refine hK w' ?_ ⟨hgr.os, hgr.tape, hgr.output, hgr.size, fun k hk => hgr.block k hk (by simp)⟩
  unfold Own
  have e : (List.replicate n (0 : Int)).flatMap u64C = (madeCells (Value.int .u64 0).cells (n * 1)).toList := by
    rw [Nat.mul_one, show (Value.int .u64 0).cells = #[Value.int .u64 0] from rfl, toList_madeCells_one]
    clear ho hgr hl hn hK
    induction n with
    | zero => rfl
    | succ n ih => rw [List.replicate_succ, List.flatMap_cons, ih]; rfl
  rw [e, List.length_replicate]
  exact ho
/-- An arena of the call's own. -/
structure ArO (Bo : Nat) (w : World) (b : Nat) (A : Option Addr) (cap : Nat) (ws : List Int) : Prop where
  blk : w.heap[b]? = some (.cells #[.bool true, .slice A ws.length cap] 123 (0, 0))
  own : Own 64 1 u64C w Bo (.slice A ws.length cap) ws
  base : Bo ≤ b
  len : ws.length ≤ 98304
  bd : ∀ z ∈ ws, 0 ≤ z ∧ z < 18446744073709551616
theorem ArO.ext {Bo : Nat} {w w' : World} {b : Nat} {A : Option Addr} {cap : Nat} {ws : List Int} (h : ArO Bo w b A cap ws) (hx : Ext w w') : ArO Bo w' b A cap ws := ⟨(hx.block (lt_of_heap h.blk)).trans h.blk, h.own.ext hx, h.base, h.len, h.bd⟩
theorem ArO.arB {Bo : Nat} {w : World} {b : Nat} {A : Option Addr} {cap : Nat} {ws : List Int} (h : ArO Bo w b A cap ws) : ArB w b A cap ws := ⟨h.blk, (own_row h.own u64Cells (by decide)).1, h.len, h.bd⟩
theorem ArO.p {Bo : Nat} {w : World} {b : Nat} {A : Option Addr} {cap : Nat} {ws : List Int} (h : ArO Bo w b A cap ws) : ArP w (some ⟨b, 0, none⟩) (some ws) := h.arB.p
/-- A store into an arena's words. -/
theorem ArO.set {Bo : Nat} {w : World} {b : Nat} {A : Option Addr} {cap : Nat} {ws : List Int} (h : ArO Bo w b A cap ws) {j : Nat} (hj : j < ws.length) {z : Int} (hz : 0 ≤ z ∧ z < 18446744073709551616) :
    ∃ g, A = some ⟨g, 0, none⟩ ∧ (∃ v, w.cell? ⟨g, j, none⟩ = some v) ∧ w.frozen? ⟨g, j, none⟩ = false ∧ Bo ≤ g ∧ ArO Bo (w.setCell ⟨g, j, none⟩ (.int .u64 z)) b A cap (ws.set j z) ∧ w.grownBy (w.setCell ⟨g, j, none⟩ (.int .u64 z)) (some g) := by
  obtain ⟨g, rfl, hBg, hgs⟩ := own_some h.own (by intro e; rw [e] at hj; simp at hj)
  obtain ⟨cur, hcur⟩ := own_heap h.own
  have hne : b ≠ g := by
    intro e
    rw [e] at h
    rw [h.blk] at hcur
    injection hcur with hcur
    injection hcur with _ hcur
    revert hcur
    decide
  obtain ⟨lb, off, hA, hc⟩ := h.arB.row.get (by omega)
  injection hA with hA
  injection hA with h1 h2 h3
  subst h1 h2
  have d0 := words_cell hc hj
  refine ⟨g, rfl, ⟨_, by simpa using d0⟩, by simp [World.frozen?, hcur], hBg, ⟨?_, ?_, h.base, by simpa using h.len, fun y hy => ?_⟩, ?_⟩
  · rw [List.length_set]
    exact (Below.heap_setCell w ⟨g, j, none⟩ _ b hne).trans h.blk
  · rw [List.length_set]
    exact own_setU h.own rfl j z
  · rcases List.mem_or_eq_of_mem_set hy with hy | rfl
    · exact h.bd y hy
    · exact hz
  · exact (World.ownsRow.stored h.own j (.int .u64 z)).2
set_option maxRecDepth 100000
set_option maxHeartbeats 2000000 in
theorem cloneU_any (A : Option Addr) (cap : Nat) (xs : List Int) (W : World) (hlen : xs.length ≤ 17592186044416) (hl : RowAt 1 u64C W A xs) :
    Calls Try.prog 66 #[.slice A xs.length cap] W fun e w' => ∃ A1 cap1, e = .returned (.slice A1 xs.length cap1) ∧ Own 64 1 u64C w' W.heap.size (.slice A1 xs.length cap1) xs ∧ Ext W w' := by
  have HL := Lib.hid hl
  clear hl
  cases A with
  | none =>
    obtain rfl := row_none HL.out
    have he := fun w => Lib.run_eql_slice_nil (P := Try.prog) w 33 64 none 0 cap 0 0 Try.underlying33
    simp only [Option.isNone_none] at he
    simp only [List.length_nil]
    clear HL
    go_enter Try.func66, Try.ntmps66
    go_wp2_with fail
    go_ret
    exact ⟨none, 0, rfl, Own.nil _ _ _ _ _, Ext.refl _⟩
  | some ad =>
    have he := fun w => Lib.run_eql_slice_nil (P := Try.prog) w 33 64 (some ad) xs.length cap 0 0 Try.underlying33
    simp only [Option.isNone_some] at he
    go_enter Try.func66, Try.ntmps66
    go_wp2_with (at_builtin; refine wpList_app rfl (.tmp 5) (.tmp 6) 33 rfl u64Info u64Cells rfl (by exact Own.empty 64 1 u64C W W.heap.size (Nat.le_refl _)) xs ad cap xs.length xs.length (by simp) rfl rfl (by exact RowAt.ext HL.out ((Ext.refl _).alloc _)) (by omega) (by simp [maxLen]; try omega) (by simp) ?_; intro A3 cap3 w3 hown3 hgr3 hat3; have HO3 := Lib.hid hown3; have hX3 : Ext W w3 := Own.below (Own.empty 64 1 u64C W W.heap.size (Nat.le_refl _)) ((Below.refl _ _).alloc (Nat.le_refl _) _) hgr3 (by simp); clear hown3 hgr3 hat3)
    go_ret
    exact ⟨A3, cap3, rfl, by simpa using HO3.out, hX3⟩
set_option maxHeartbeats 1000000
theorem anew_any (n : Int) (h0 : 0 ≤ n) (h1 : n ≤ 98304) (V : World) :
    Calls Try.prog 45 #[.int .i64 n] V fun e w' => (∃ b A cap, e = .returned (.tuple #[.pointer (some ⟨b, 0, none⟩), .int .i64 0]) ∧ ArO V.heap.size w' b A cap (List.replicate n.toNat 0)) ∧ Ext V w' := by
  obtain ⟨m, rfl⟩ := Int.eq_ofNat_of_zero_le h0
  have d1 : decide ((m : Int) < 0) = false := by simp
  have d2 : decide ((98304 : Int) < (m : Int)) = false := by simp; omega
  have HM : Hid (m ≤ 98304) := Lib.hid (by omega)
  clear h0 h1
  go_enter Try.func45, Try.ntmps45
  go_wp2_with (refine wpList_makeU rfl (.tmp 10) rfl m rfl (by have := HM.out; omega) ?_; intro w1 hown hx; have HO := Lib.hid hown; have HX := Lib.hid hx; clear hown hx)
  go_ret2
  refine ⟨⟨w1.heap.size, some ⟨V.heap.size, 0, none⟩, m, rfl, ?_⟩, HX.out.alloc _⟩
  simp only [Int.toNat_natCast]
  refine ⟨?_, ?_, HX.out.size, by simpa using HM.out, fun z hz => ?_⟩
  · simp only [List.length_replicate]; exact World.alloc_heap_new _ _
  · simp only [List.length_replicate]; exact HO.out.ext ((Ext.refl _).alloc _)
  · rw [(List.mem_replicate.1 hz).2]; omega
theorem aof_any (A : Option Addr) (cap : Nat) (ws : List Int) (V : World) (h : WordsAt V A ws) (hlen : ws.length ≤ 98304) (hbd : ∀ z ∈ ws, 0 ≤ z ∧ z < 18446744073709551616) :
    Calls Try.prog 17 #[.slice A ws.length cap] V fun e w' => (∃ b A cap, e = .returned (.tuple #[.pointer (some ⟨b, 0, none⟩), .int .i64 0]) ∧ ArO V.heap.size w' b A cap ws) ∧ Ext V w' := by
  have d1 : decide ((98304 : Int) < (ws.length : Int)) = false := by simp; omega
  have HL := Lib.hid hlen
  have HB := Lib.hid hbd
  have HH := Lib.hid h
  clear h hlen hbd
  generalize hn : ws.length = n at *
  have HN := Lib.hid hn
  go_enter Try.func17, Try.ntmps17
  go_wp2_with fail
  rw [← HN.out]
  refine (cloneU_any A cap ws V (by have := HL.out; have := HN.out; omega) HH.out).mono ?_
  rintro e w1 ⟨A1, cap1, rfl, hown, hx⟩
  have HO := Lib.hid hown
  have HX := Lib.hid hx
  clear hown hx
  go_wp2_with fail
  go_ret2
  rw [← HN.out]
  exact ⟨⟨w1.heap.size, A1, cap1, rfl, ⟨World.alloc_heap_new _ _, HO.out.ext ((Ext.refl _).alloc _), HX.out.size, by have := HL.out; have := HN.out; omega, HB.out⟩⟩, HX.out.alloc _⟩
/-- What a store leaves. -/
def wrL (ws : List Int) (i z : Int) : List Int := if atA (some ws) i = 0 then ws.set i.toNat z else ws
theorem awrite_any (b : Nat) (A : Option Addr) (cap : Nat) (ws : List Int) (i z : Int) (Bo : Nat) (V : World) (h : ArO Bo V b A cap ws) (hz : 0 ≤ z ∧ z < 18446744073709551616) :
    Calls Try.prog 121 #[.pointer (some ⟨b, 0, none⟩), .int .i64 i, .int .u64 z] V fun e w' => e = .returned (.int .i64 (atA (some ws) i)) ∧ ArO Bo w' b A cap (wrL ws i z) ∧ V.grownBy w' (Value.slice A ws.length cap).ownBlock := by
  obtain ⟨er, her⟩ : ∃ er, atA (some ws) i = er := ⟨_, rfl⟩
  have HE := Lib.hid her
  have HP := Lib.hid h
  have HZ := Lib.hid hz
  clear h hz
  by_cases h0 : er = 0
  · subst h0
    obtain ⟨ws', hw', h1, h2⟩ := atA_zero her
    injection hw' with hw'
    subst hw'
    obtain ⟨j, rfl⟩ := Int.eq_ofNat_of_zero_le h1
    have hj : j < ws.length := by omega
    have HJ := Lib.hid hj
    have HW : Hid (wrL ws (j : Int) z = ws.set j z) := Lib.hid (by rw [wrL, if_pos her]; simp)
    clear her h1 h2
    go_enter Try.func121, Try.ntmps121
    go_wp2_with fail
    refine (aat_is _ _ _ 0 HE.out V HP.out.p).mono ?_
    rintro e w1 ⟨rfl, hx⟩
    obtain ⟨g, rfl, ⟨v, hv⟩, hf, hg, hs, hgr⟩ := (HP.out.ext hx).set HJ.out HZ.out
    have c1 : w1.cell? ⟨b, 1, none⟩ = some (.slice (some ⟨g, 0, none⟩) ws.length cap) := hx.cell (by simp [World.cell?, HP.out.blk])
    have ib1 : (j : Int) < (ws.length : Int) := by omega
    have HS := Lib.hid hs
    have HG := Lib.hid hgr
    have HX := Lib.hid hx
    clear hs hgr hx hj
    go_wp2_with fail
    go_ret
    exact ⟨ret_int HE.out.symm, by rw [HW.out]; exact HS.out, (show V.grownBy w1 (some g) from ⟨HX.out.os, HX.out.tape, HX.out.output, HX.out.size, fun k hk _ => HX.out.block hk⟩).trans HG.out⟩
  · have hne : (er == 0) = false := by simpa using h0
    have HW : Hid (wrL ws i z = ws) := Lib.hid (by rw [wrL, if_neg (by rw [her]; exact h0)])
    clear her h0
    go_enter Try.func121, Try.ntmps121
    go_wp2_with fail
    refine (aat_is _ _ _ er HE.out V HP.out.p).mono ?_
    rintro e w1 ⟨rfl, hx⟩
    have HX := Lib.hid hx
    clear hx
    go_wp2_with fail
    go_ret
    exact ⟨ret_int HE.out.symm, by rw [HW.out]; exact HP.out.ext HX.out, ⟨HX.out.os, HX.out.tape, HX.out.output, HX.out.size, fun k hk _ => HX.out.block hk⟩⟩
end Go.Proofs.Ytkcpfimhbogdcaa
