/- Headers as words: the program's Dec. -/
import Derived.Test.YtkcpfimhbogdcaaHdC
set_option linter.unusedSimpArgs false
set_option linter.unusedVariables false
namespace Go.Proofs.Ytkcpfimhbogdcaa
open Go.RowKit

def dz (w k : Nat) : Nat := w / 2 ^ pAt k % 2 ^ pN k
def dcell (w k i : Nat) : Value := .int .i64 (if i < k then (dz w i : Int) else 0)
def dcells (w k : Nat) : Array Value := #[dcell w k 0, dcell w k 1, dcell w k 2, dcell w k 3, dcell w k 4]
theorem dcells_get (w k i : Nat) (hi : i < 5) : (dcells w k)[i]? = some (dcell w k i) := by
  have : i = 0 ∨ i = 1 ∨ i = 2 ∨ i = 3 ∨ i = 4 := by omega
  rcases this with rfl | rfl | rfl | rfl | rfl <;> rfl
theorem dcells_set (w k : Nat) (hk : k < 5) : (dcells w k).setIfInBounds k (.int .i64 (dz w k)) = dcells w (k + 1) := by
  have : k = 0 ∨ k = 1 ∨ k = 2 ∨ k = 3 ∨ k = 4 := by omega
  rcases this with rfl | rfl | rfl | rfl | rfl <;> simp [dcells, dcell]
/-- The header of a word. -/
def decH (w : Nat) : Hd := ⟨(w / 8 % 32 : Nat), (w / 256 % 65536 : Nat), (w / 16777216 % 65536 : Nat), decide (w / 4 % 2 = 1), (w / 1099511627776 % 16777216 : Nat)⟩
def hdecB (w : Nat) : Bool := decide (w % 4 = 3) && hmayB (decH w)
def hdecH (w : Nat) : Hd := if hdecB w then decH w else ⟨0, 0, 0, false, 0⟩
def hdecE (w : Nat) : Int := if hdecB w then 0 else 3
theorem dec_eq (w : Nat) (hw : w < 18446744073709551616) : hwordN (decH w) = w ↔ w % 4 = 3 := by
  have hm : (if decide (w / 4 % 2 = 1) then 1 else 0 : Nat) = w / 4 % 2 := by
    by_cases h : w / 4 % 2 = 1
    · simp [h]
    · simp [h]; omega
  have e : hwordN (decH w) = 3 + 4 * (if decide (w / 4 % 2 = 1) then 1 else 0 : Nat) + 8 * (w / 8 % 32) + 256 * (w / 256 % 65536) + 16777216 * (w / 16777216 % 65536) + 1099511627776 * (w / 1099511627776 % 16777216) := rfl
  rw [e, hm]
  omega
theorem dz_all (w : Nat) (hw : w < 18446744073709551616) : dz w 0 = w / 4 % 2 ∧ dz w 1 = w / 8 % 32 ∧ dz w 2 = w / 256 % 65536 ∧ dz w 3 = w / 16777216 % 65536 ∧ dz w 4 = w / 1099511627776 % 16777216 := by
  exact ⟨rfl, rfl, rfl, rfl, rfl⟩
theorem dz_small (w k : Nat) (hk : k < 5) : dz w k < 9223372036854775808 := by
  obtain ⟨-, -, h, -⟩ := p_step k hk
  have h1 : dz w k < 2 ^ pN k := Nat.mod_lt _ (Nat.two_pow_pos _)
  have h2 : 2 ^ pN k ≤ 2 ^ 63 := Nat.pow_le_pow_right (by omega) (by omega)
  omega
theorem decH_cast (w : Nat) : decH w = ⟨(w : Int) / 8 % 32, (w : Int) / 256 % 65536, (w : Int) / 16777216 % 65536, ((w : Int) / 4 % 2 == 1), (w : Int) / 1099511627776 % 16777216⟩ := by
  have h : decide (w / 4 % 2 = 1) = ((w : Int) / 4 % 2 == 1) := by
    rw [Bool.eq_iff_iff]
    simp only [decide_eq_true_eq, beq_iff_eq]
    omega
  simp [decH, h]
set_option maxRecDepth 100000
set_option maxHeartbeats 2000000
theorem hdec_any (w : Nat) (hw : w < 18446744073709551616) (V : World) : Calls Try.prog 73 #[.int .u64 (w : Int)] V fun e w' => e = .returned (.tuple #[.agg #[.int .i64 (hdecH w).k, .int .i64 (hdecH w).f, .int .i64 (hdecH w).r, .bool (hdecH w).m, .int .i64 (hdecH w).c], .int .i64 (hdecE w)]) ∧ Ext V w' := by
  have i0 := fun k hk w => index_parts k hk w
  have hbr := blk_old (o2 := .cells #[.int .i64 0, .int .i64 0, .int .i64 0, .int .i64 0, .int .i64 0] 167) (blk_new V #[.int .i64 0, .int .i64 0, .int .i64 0, .bool false, .int .i64 0] 47 _ rfl)
  have hb4 := blk_new (V.alloc (.cells #[.int .i64 0, .int .i64 0, .int .i64 0, .bool false, .int .i64 0] 47)) #[.int .i64 0, .int .i64 0, .int .i64 0, .int .i64 0, .int .i64 0] 167 (V.heap.size + 1) (by simp)
  have hW : Ext V ((V.alloc (.cells #[.int .i64 0, .int .i64 0, .int .i64 0, .bool false, .int .i64 0] 47)).alloc (.cells #[.int .i64 0, .int .i64 0, .int .i64 0, .int .i64 0, .int .i64 0] 167)) := ((Ext.refl V).alloc _).alloc _
  go_enter Try.func73, Try.ntmps73
  go_wp2_with fail
  generalize (V.alloc (.cells #[.int .i64 0, .int .i64 0, .int .i64 0, .bool false, .int .i64 0] 47)).alloc (.cells #[.int .i64 0, .int .i64 0, .int .i64 0, .int .i64 0, .int .i64 0] 167) = W at *
  have HBR := Lib.hid hbr
  refine (parts_any _).mono ?_
  rintro e w1 ⟨rfl, hx1⟩
  have HX1 := Lib.hid (hW.trans hx1)
  have HB1 := Lib.hid (show w1.heap[V.heap.size + 1]? = some (.cells (dcells w 0) 167 (0, 0)) from (hx1.block (lt_of_heap hb4)).trans hb4)
  have HR1 := Lib.hid ((hx1.block (lt_of_heap hbr)).trans hbr)
  clear hbr hb4 hW hx1 HBR
  go_wp2_with fail
  go_loopw [13] (fun i wr => ∃ k : Nat, k ≤ 5 ∧ i = .int .i64 k ∧ Hid (wr.heap[V.heap.size + 1]? = some (.cells (dcells w k) 167 (0, 0))) ∧ Hid (wr.heap[V.heap.size]? = some (.cells #[.int .i64 0, .int .i64 0, .int .i64 0, .bool false, .int .i64 0] 47 (0, 0))) ∧ Hid (Ext V wr)) (fun i _ => 5 - (intOf i).toNat)
  case atStart => exact ⟨0, by omega, rfl, HB1, HR1, HX1⟩
  case round =>
    obtain ⟨k, hk, rfl, hb, hr, hx⟩ := hrel
    clear HB1 HR1 HX1
    by_cases hlt : k < 5
    rotate_left
    · obtain rfl : k = 5 := by omega
      have hg : ∀ i, i < 5 → wr.cell? ⟨V.heap.size + 1, i, none⟩ = some (dcell w 5 i) := fun i hi => by
        have := dcells_get w 5 i hi
        simp [World.cell?, hb.out, this]
      have g0 := hg 0 (by omega)
      have g1 := hg 1 (by omega)
      have g2 := hg 2 (by omega)
      have g3 := hg 3 (by omega)
      have g4 := hg 4 (by omega)
      obtain ⟨z0, z1, z2, z3, z4⟩ := dz_all w hw
      simp only [dcell, Nat.reduceLT, if_true, z0, z1, z2, z3, z4] at g0 g1 g2 g3 g4
      clear hg z0 z1 z2 z3 z4 i0
      go_wp2_with fail
      have HC := Lib.hid (decH_cast w)
      have HQ := Lib.hid (dec_eq w hw)
      have r0 : ∀ w', Ext wr w' → w'.cell? ⟨V.heap.size, 0, none⟩ = some (.int .i64 0) := fun w' h => h.cell (by simp [World.cell?, hr.out])
      have r1 : ∀ w', Ext wr w' → w'.cell? ⟨V.heap.size, 1, none⟩ = some (.int .i64 0) := fun w' h => h.cell (by simp [World.cell?, hr.out])
      have r2 : ∀ w', Ext wr w' → w'.cell? ⟨V.heap.size, 2, none⟩ = some (.int .i64 0) := fun w' h => h.cell (by simp [World.cell?, hr.out])
      have r3 : ∀ w', Ext wr w' → w'.cell? ⟨V.heap.size, 3, none⟩ = some (.bool false) := fun w' h => h.cell (by simp [World.cell?, hr.out])
      have r4 : ∀ w', Ext wr w' → w'.cell? ⟨V.heap.size, 4, none⟩ = some (.int .i64 0) := fun w' h => h.cell (by simp [World.cell?, hr.out])
      have fr : ∀ w', Ext wr w' → ∀ o, w'.frozen? ⟨V.heap.size, o, none⟩ = false := fun w' h o => frozen_of_row _ _ _ _ _ ((h.block (lt_of_heap hr.out)).trans hr.out)
      have bl := lt_of_heap hr.out
      clear hb g0 g1 g2 g3 g4
      have HXA := Lib.hid (fun o => (Ext.refl wr).alloc o)
      generalize (w : Int) / 8 % 32 = zk at *
      generalize (w : Int) / 256 % 65536 = zf at *
      generalize (w : Int) / 16777216 % 65536 = zr at *
      generalize ((w : Int) / 4 % 2 == 1) = zm at *
      generalize (w : Int) / 1099511627776 % 16777216 = zc at *
      have hb9 := blk_new wr #[.int .i64 zk, .int .i64 zf, .int .i64 zr, .bool zm, .int .i64 zc] 47 _ rfl
      have hx9 := HXA.out (.cells #[.int .i64 zk, .int .i64 zf, .int .i64 zr, .bool zm, .int .i64 zc] 47)
      obtain ⟨b, hbm⟩ : ∃ b, hmayB (decH w) = b := ⟨_, rfl⟩
      have HBM := Lib.hid hbm
      have Z := henc_any ⟨zk, zf, zr, zm, zc⟩ (wr.alloc (.cells #[.int .i64 zk, .int .i64 zf, .int .i64 zr, .bool zm, .int .i64 zc] 47))
      rw [← HC.out, hwordZ, herrZ, hbm] at Z
      clear hbm
      generalize wr.alloc (.cells #[.int .i64 zk, .int .i64 zf, .int .i64 zr, .bool zm, .int .i64 zc] 47) = W9 at *
      generalize wr.heap.size = X9 at *
      rw [HC.out] at Z
      cases b
      · refine Z.mono ?_
        clear Z
        rintro e w9 ⟨rfl, hx10⟩
        have hxx := hx9.trans hx10
        simp only [Bool.false_eq_true, if_false]
        have q0 := r0 _ hxx
        have q1 := r1 _ hxx
        have q2 := r2 _ hxx
        have q3 := r3 _ hxx
        have q4 := r4 _ hxx
        have q5 := fr _ hxx
        clear r0 r1 r2 r3 r4 fr hb9
        go_wp2_with fail
        ((try simp only [Exit.inBlock, Exit.then]); refine bodyPost_ret (v := .tuple #[.agg #[.int .i64 0, .int .i64 0, .int .i64 0, .bool false, .int .i64 0], .int .i64 3]) (by simp only [results, Try.results73]; go_simp) rfl ?_)
        refine ⟨?_, (((((hx.out.trans hxx).setCell (by simp) _).setCell (by simp) _).setCell (by simp) _).setCell (by simp) _).setCell (by simp) _⟩
        have e : hdecB w = false := by rw [hdecB, HBM.out, Bool.and_false]
        rw [hdecH, hdecE, e]
        rfl
      · refine Z.mono ?_
        clear Z
        rintro e w9 ⟨rfl, hx10⟩
        have hxx := hx9.trans hx10
        simp only [if_true]
        have q0 := r0 _ hxx
        have q1 := r1 _ hxx
        have q2 := r2 _ hxx
        have q3 := r3 _ hxx
        have q4 := r4 _ hxx
        have q5 := fr _ hxx
        have hb10 := (hx10.block (lt_of_heap hb9)).trans hb9
        have p0 : w9.cell? ⟨X9, 0, none⟩ = some (.int .i64 zk) := by simp [World.cell?, hb10]
        have p1 : w9.cell? ⟨X9, 1, none⟩ = some (.int .i64 zf) := by simp [World.cell?, hb10]
        have p2 : w9.cell? ⟨X9, 2, none⟩ = some (.int .i64 zr) := by simp [World.cell?, hb10]
        have p3 : w9.cell? ⟨X9, 3, none⟩ = some (.bool zm) := by simp [World.cell?, hb10]
        have p4 : w9.cell? ⟨X9, 4, none⟩ = some (.int .i64 zc) := by simp [World.cell?, hb10]
        clear r0 r1 r2 r3 r4 fr hb9 hb10
        by_cases h3 : w % 4 = 3
        · have hne : (((hwordN ⟨zk, zf, zr, zm, zc⟩ : Nat) : Int) != (w : Int)) = false := by
            have := HQ.out.2 h3
            rw [HC.out] at this
            rw [this]
            simp
          generalize hwordN ⟨zk, zf, zr, zm, zc⟩ = hwn at *
          go_wp2_with fail
          ((try simp only [Exit.inBlock, Exit.then]); refine bodyPost_ret (v := .tuple #[.agg #[.int .i64 zk, .int .i64 zf, .int .i64 zr, .bool zm, .int .i64 zc], .int .i64 0]) (by simp only [results, Try.results73]; go_simp) rfl ?_)
          refine ⟨?_, (((((hx.out.trans hxx).setCell (by simp) _).setCell (by simp) _).setCell (by simp) _).setCell (by simp) _).setCell (by simp) _⟩
          have e : hdecB w = true := by rw [hdecB, HBM.out, h3]; rfl
          rw [hdecH, hdecE, e, if_pos rfl, if_pos rfl, HC.out]
        · have hne : (((hwordN ⟨zk, zf, zr, zm, zc⟩ : Nat) : Int) != (w : Int)) = true := by
            have this : ¬ (hwordN (decH w) = w) := fun h => h3 (HQ.out.1 h)
            rw [HC.out] at this
            simp only [bne_iff_ne, ne_eq]
            omega
          generalize hwordN ⟨zk, zf, zr, zm, zc⟩ = hwn at *
          go_wp2_with fail
          ((try simp only [Exit.inBlock, Exit.then]); refine bodyPost_ret (v := .tuple #[.agg #[.int .i64 0, .int .i64 0, .int .i64 0, .bool false, .int .i64 0], .int .i64 3]) (by simp only [results, Try.results73]; go_simp) rfl ?_)
          refine ⟨?_, (((((hx.out.trans hxx).setCell (by simp) _).setCell (by simp) _).setCell (by simp) _).setCell (by simp) _).setCell (by simp) _⟩
          have e : hdecB w = false := by rw [hdecB, decide_eq_false h3, Bool.false_and]
          rw [hdecH, hdecE, e]
          rfl
    have ib1 : (k : Int) < 5 := by omega
    have j0 := i0 k hlt
    obtain ⟨s1, s2, s3, s4, s5⟩ := p_step k hlt
    have HST := Lib.hid (dcells_set w k hlt)
    have hd : dz w k = w / 2 ^ pAt k % 2 ^ pN k := rfl
    have ck : wr.cell? ⟨V.heap.size + 1, k, none⟩ = some (dcell w k k) := by
      have := dcells_get w k k hlt
      simp [World.cell?, hb.out, this]
    have fk : wr.frozen? ⟨V.heap.size + 1, k, none⟩ = false := frozen_of_row _ _ _ _ _ hb.out
    have hgt := get_is w (pAt k) (pN k) s2 s3 s4 hw
    rw [← hd] at hgt
    clear i0 hd
    generalize pAt k = at_ at *
    generalize pN k = pn at *
    generalize pMost k = pm at *
    clear s1 s2 s3 s4 s5
    go_wp2_with fail
    refine (hgt _).mono ?_
    rintro e w4 ⟨rfl, hx4⟩
    have hxa := (Ext.refl wr).alloc (.cells #[.int .i64 (at_ : Int), .int .i64 (pn : Int), .int .i64 (pm : Int)] 169)
    have hxw := hxa.trans hx4
    have c4 := hxw.cell ck
    have HB4 := Lib.hid ((hxw.block (lt_of_heap hb.out)).trans hb.out)
    have HR4 := Lib.hid ((hxw.block (lt_of_heap hr.out)).trans hr.out)
    have f4 : w4.frozen? ⟨V.heap.size + 1, k, none⟩ = false := frozen_of_row _ _ _ _ _ HB4.out
    have HX4 := Lib.hid (hx.out.trans hxw)
    have hdl : dz w k < 18446744073709551616 := by
      have : dz w k ≤ w := Nat.le_trans (Nat.mod_le _ _) (Nat.div_le_self _ _)
      omega
    have HDL : Hid (dz w k < 9223372036854775808) := Lib.hid (dz_small w k hlt)
    clear hgt ck fk hxa hx4 hb hr hx hxw hdl
    generalize dz w k = dk at *
    have hdl := HDL.out
    go_wp2_with fail
    have h5 := HB4.out
    have hsame := heap_setCell_same w4 (V.heap.size + 1) k _ _ (.int .i64 (dk : Int)) h5
    rw [HST.out] at hsame
    exact ⟨⟨k + 1, by omega, by go_num, Lib.hid hsame, Lib.hid ((Below.heap_setCell w4 ⟨V.heap.size + 1, k, none⟩ _ V.heap.size (by simp)).trans HR4.out), Lib.hid (HX4.out.setCell (by simp) _)⟩, by simp [intOf]; omega⟩
end Go.Proofs.Ytkcpfimhbogdcaa
