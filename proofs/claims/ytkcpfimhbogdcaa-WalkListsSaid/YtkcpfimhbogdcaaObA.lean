/- Objects in arenas: the header at a place. -/
import Derived.Test.YtkcpfimhbogdcaaArA
set_option linter.unusedSimpArgs false
set_option linter.unusedVariables false
namespace Go.Proofs.Ytkcpfimhbogdcaa
open Go.RowKit

def hd0 : Hd := ⟨0, 0, 0, false, 0⟩
/-- The header at a place, and why there is none. -/
def headE (l : Option (List Int)) (i : Int) : Int := if atA l i = 0 then (if hdecB (rdA l i).toNat then (if lenA l - i < hsize (decH (rdA l i).toNat) then 2 else 0) else 3) else atA l i
def headH (l : Option (List Int)) (i : Int) : Hd := if headE l i = 0 then decH (rdA l i).toNat else hd0
theorem ext5 {V w : World} (h : Ext V w) (u0 u1 u2 u3 u4 : Value) : Ext V (((((w.setCell ⟨V.heap.size, 0, none⟩ u0).setCell ⟨V.heap.size, 1, none⟩ u1).setCell ⟨V.heap.size, 2, none⟩ u2).setCell ⟨V.heap.size, 3, none⟩ u3).setCell ⟨V.heap.size, 4, none⟩ u4) :=
  ((((h.setCell (by simp) _).setCell (by simp) _).setCell (by simp) _).setCell (by simp) _).setCell (by simp) _
theorem headH_bad {l : Option (List Int)} {i er : Int} (h : headE l i = er) (hne : er ≠ 0) : headH l i = hd0 := by rw [headH, h, if_neg hne]
theorem hdec_is (z : Int) (h : Hd) (er : Int) (h0 : 0 ≤ z ∧ z < 18446744073709551616) (h1 : hdecH z.toNat = h) (h2 : hdecE z.toNat = er) (V : World) : Calls Try.prog 73 #[.int .u64 z] V fun e w' => e = .returned (.tuple #[.agg #[.int .i64 h.k, .int .i64 h.f, .int .i64 h.r, .bool h.m, .int .i64 h.c], .int .i64 er]) ∧ Ext V w' := by
  have := hdec_any z.toNat (by omega) V
  rw [← h1, ← h2]
  rwa [Int.toNat_of_nonneg h0.1] at this
theorem hsize_is (h : Hd) (n : Int) (h1 : hsize h = n) (V : World) : Calls Try.prog 70 #[.agg #[.int .i64 h.k, .int .i64 h.f, .int .i64 h.r, .bool h.m, .int .i64 h.c]] V fun e w' => e = .returned (.int .i64 n) ∧ Ext V w' := by
  rw [← h1]; exact hsize_any h V
theorem alen_is (p : Option Addr) (l : Option (List Int)) (n : Int) (h1 : lenA l = n) (V : World) (h : ArP V p l) : Calls Try.prog 74 #[.pointer p] V fun e w' => e = .returned (.int .i64 n) ∧ Ext V w' := by
  rw [← h1]; exact alen_any p l V h
set_option maxRecDepth 100000
set_option maxHeartbeats 2000000
theorem ohead_any (p : Option Addr) (l : Option (List Int)) (i : Int) (V : World) (h : ArP V p l) (hi : -9223372036854775808 ≤ i ∧ i ≤ 9223372036854775807) : Calls Try.prog 24 #[.pointer p, .int .i64 i] V fun e w' => e = .returned (.tuple #[.agg #[.int .i64 (headH l i).k, .int .i64 (headH l i).f, .int .i64 (headH l i).r, .bool (headH l i).m, .int .i64 (headH l i).c], .int .i64 (headE l i)]) ∧ Ext V w' := by
  have HP := Lib.hid h
  obtain ⟨er, her⟩ : ∃ er, atA l i = er := ⟨_, rfl⟩
  obtain ⟨z, hz⟩ : ∃ z, rdA l i = z := ⟨_, rfl⟩
  have HE := Lib.hid her
  have HZ := Lib.hid hz
  have hx0 := (Ext.refl V).alloc (.cells #[.int .i64 0, .int .i64 0, .int .i64 0, .bool false, .int .i64 0] 47)
  have hbr := blk_new V #[.int .i64 0, .int .i64 0, .int .i64 0, .bool false, .int .i64 0] 47 _ rfl
  clear h her hz
  go_enter Try.func24, Try.ntmps24
  go_wp2_with fail
  generalize V.alloc (.cells #[.int .i64 0, .int .i64 0, .int .i64 0, .bool false, .int .i64 0] 47) = W at *
  have r0 : ∀ w', Ext W w' → w'.cell? ⟨V.heap.size, 0, none⟩ = some (.int .i64 0) := fun w' h => h.cell (by simp [World.cell?, hbr])
  have r1 : ∀ w', Ext W w' → w'.cell? ⟨V.heap.size, 1, none⟩ = some (.int .i64 0) := fun w' h => h.cell (by simp [World.cell?, hbr])
  have r2 : ∀ w', Ext W w' → w'.cell? ⟨V.heap.size, 2, none⟩ = some (.int .i64 0) := fun w' h => h.cell (by simp [World.cell?, hbr])
  have r3 : ∀ w', Ext W w' → w'.cell? ⟨V.heap.size, 3, none⟩ = some (.bool false) := fun w' h => h.cell (by simp [World.cell?, hbr])
  have r4 : ∀ w', Ext W w' → w'.cell? ⟨V.heap.size, 4, none⟩ = some (.int .i64 0) := fun w' h => h.cell (by simp [World.cell?, hbr])
  have fr : ∀ w', Ext W w' → ∀ o, w'.frozen? ⟨V.heap.size, o, none⟩ = false := fun w' h o => frozen_of_row _ _ _ _ _ ((h.block (lt_of_heap hbr)).trans hbr)
  have bl := lt_of_heap hbr
  clear hbr
  refine (aread_is p l i z er HZ.out HE.out _ (HP.out.ext hx0)).mono ?_
  rintro e w1 ⟨rfl, hx⟩
  by_cases h0 : er = 0
  rotate_left
  · have hne : (er != 0) = true := by simpa using h0
    have HR : Hid (headE l i = er) := Lib.hid (by rw [headE, HE.out, if_neg h0])
    have HH := Lib.hid (headH_bad HR.out h0)
    have q0 := r0 _ hx
    have q1 := r1 _ hx
    have q2 := r2 _ hx
    have q3 := r3 _ hx
    have q4 := r4 _ hx
    have q5 := fr _ hx
    clear r0 r1 r2 r3 r4 fr h0
    go_wp2_with fail
    ((try simp only [Exit.inBlock, Exit.then]); refine bodyPost_ret (v := .tuple #[.agg #[.int .i64 0, .int .i64 0, .int .i64 0, .bool false, .int .i64 0], .int .i64 er]) (by simp only [results, Try.results24]; go_simp) rfl ?_)
    refine ⟨?_, (((((hx0.trans hx).setCell (by simp) _).setCell (by simp) _).setCell (by simp) _).setCell (by simp) _).setCell (by simp) _⟩
    rw [HH.out, HR.out]
    rfl
  subst h0
  have hzb : 0 ≤ z ∧ z < 18446744073709551616 := by
    obtain ⟨ws, rfl, h1, h2⟩ := atA_zero HE.out
    rcases HP.out with ⟨_, h⟩ | ⟨b, A, cap, ws', rfl, hl, hb⟩
    · cases h
    injection hl with hl
    subst hl
    have := HZ.out
    rw [rdA, if_pos HE.out] at this
    have h3 : ws.getD i.toNat 0 = z := this
    rw [← h3]
    exact hb.bd _ (getD_mem (show i.toNat < ws.length by omega))
  obtain ⟨b, hb⟩ : ∃ b, hdecB z.toNat = b := ⟨_, rfl⟩
  have HB := Lib.hid hb
  clear hb
  go_wp2_with fail
  cases b
  · refine (hdec_is z hd0 3 hzb (by rw [hdecH, HB.out]; rfl) (by rw [hdecE, HB.out]; rfl) _).mono ?_
    rintro e w2 ⟨rfl, hx2⟩
    have HR : Hid (headE l i = 3) := Lib.hid (by rw [headE, HE.out, if_pos rfl, HZ.out, HB.out]; rfl)
    have HH := Lib.hid (headH_bad HR.out (by decide))
    replace hx := hx.trans hx2
    have q0 := r0 _ hx
    have q1 := r1 _ hx
    have q2 := r2 _ hx
    have q3 := r3 _ hx
    have q4 := r4 _ hx
    have q5 := fr _ hx
    have bl2 : V.heap.size < w2.heap.size := Nat.lt_of_lt_of_le bl hx.size
    clear r0 r1 r2 r3 r4 fr
    go_wp2_with fail
    ((try simp only [Exit.inBlock, Exit.then]); refine bodyPost_ret (v := .tuple #[.agg #[.int .i64 0, .int .i64 0, .int .i64 0, .bool false, .int .i64 0], .int .i64 3]) (by simp only [results, Try.results24]; go_simp) rfl ?_)
    refine ⟨?_, ?_⟩
    · rw [HH.out, HR.out]
      rfl
    · exact (ext5 (hx0.trans hx) _ _ _ _ _).alloc _
  · have hok : 0 ≤ i ∧ i < lenA l := by
      obtain ⟨ws, rfl, h1, h2⟩ := atA_zero HE.out
      exact ⟨h1, h2⟩
    have hll : lenA l ≤ 98304 := by
      rcases HP.out with ⟨_, rfl⟩ | ⟨b, A, cap, ws', rfl, rfl, hb⟩
      · simp [lenA]
      · have := hb.len; simp [lenA]; omega
    have HM : Hid (hmayB (decH z.toNat) = true) := Lib.hid (by have := HB.out; simp only [hdecB, Bool.and_eq_true] at this; exact this.2)
    refine (hdec_is z (decH z.toNat) 0 hzb (by rw [hdecH, HB.out]; rfl) (by rw [hdecE, HB.out]; rfl) _).mono ?_
    rintro e w2 ⟨rfl, hx2⟩
    have HHE : Hid (headE l i = if lenA l - i < hsize (decH z.toNat) then 2 else 0) := Lib.hid (by rw [headE, HE.out, if_pos rfl, HZ.out, HB.out, if_pos rfl])
    have HHH : Hid (headE l i = 0 → headH l i = decH z.toNat) := Lib.hid (fun h => by rw [headH, if_pos h, HZ.out])
    replace hx := hx.trans hx2
    have bl2 : V.heap.size < w2.heap.size := Nat.lt_of_lt_of_le bl hx.size
    generalize decH z.toNat = h at *
    clear hx2
    go_wp2_with fail
    have hxa := (Ext.refl w2).alloc (.cells #[.int .i64 h.k, .int .i64 h.f, .int .i64 h.r, .bool h.m, .int .i64 h.c] 47)
    have hb8 := blk_new w2 #[.int .i64 h.k, .int .i64 h.f, .int .i64 h.r, .bool h.m, .int .i64 h.c] 47 _ rfl
    have hx8 := hx.trans hxa
    clear bl2
    generalize w2.alloc (.cells #[.int .i64 h.k, .int .i64 h.f, .int .i64 h.r, .bool h.m, .int .i64 h.c] 47) = W8 at *
    generalize w2.heap.size = X8 at *
    obtain ⟨n, hn⟩ : ∃ n, hsize h = n := ⟨_, rfl⟩
    obtain ⟨m, hm⟩ : ∃ m, lenA l = m := ⟨_, rfl⟩
    have HN := Lib.hid hn
    have HMM := Lib.hid hm
    rw [hm] at hok hll
    clear hn hm
    refine (hsize_is h n HN.out _).mono ?_
    rintro e w3 ⟨rfl, hx3⟩
    go_wp2_with fail
    refine (alen_is p l m HMM.out _ (HP.out.ext (hx0.trans (hx8.trans hx3)))).mono ?_
    rintro e w4 ⟨rfl, hx4⟩
    have hx5 := hx8.trans (hx3.trans hx4)
    have hb9 := ((hx3.trans hx4).block (lt_of_heap hb8)).trans hb8
    have q0 := r0 _ hx5
    have q1 := r1 _ hx5
    have q2 := r2 _ hx5
    have q3 := r3 _ hx5
    have q4 := r4 _ hx5
    have q5 := fr _ hx5
    have p0 : w4.cell? ⟨X8, 0, none⟩ = some (.int .i64 h.k) := by simp [World.cell?, hb9]
    have p1 : w4.cell? ⟨X8, 1, none⟩ = some (.int .i64 h.f) := by simp [World.cell?, hb9]
    have p2 : w4.cell? ⟨X8, 2, none⟩ = some (.int .i64 h.r) := by simp [World.cell?, hb9]
    have p3 : w4.cell? ⟨X8, 3, none⟩ = some (.bool h.m) := by simp [World.cell?, hb9]
    have p4 : w4.cell? ⟨X8, 4, none⟩ = some (.int .i64 h.c) := by simp [World.cell?, hb9]
    have hsub : wrap64 (m - i) = m - i := by unfold wrap64; omega
    clear r0 r1 r2 r3 r4 fr hb8 hb9 hx3 hx4 hx8 hxa
    by_cases hc : m - i < n
    · have hd : decide (m - i < n) = true := by simpa using hc
      have HR : Hid (headE l i = 2) := Lib.hid (by rw [HHE.out, HMM.out, HN.out, if_pos hc])
      have HH := Lib.hid (headH_bad HR.out (by decide))
      clear hc
      go_wp2_with fail
      ((try simp only [Exit.inBlock, Exit.then]); refine bodyPost_ret (v := .tuple #[.agg #[.int .i64 0, .int .i64 0, .int .i64 0, .bool false, .int .i64 0], .int .i64 2]) (by simp only [results, Try.results24]; go_simp) rfl ?_)
      refine ⟨?_, ext5 (hx0.trans hx5) _ _ _ _ _⟩
      rw [HH.out, HR.out]
      rfl
    · have hd : decide (m - i < n) = false := by simpa using hc
      have HR : Hid (headE l i = 0) := Lib.hid (by rw [HHE.out, HMM.out, HN.out, if_neg hc])
      have HH := Lib.hid (HHH.out HR.out)
      clear hc
      go_wp2_with fail
      ((try simp only [Exit.inBlock, Exit.then]); refine bodyPost_ret (v := .tuple #[.agg #[.int .i64 h.k, .int .i64 h.f, .int .i64 h.r, .bool h.m, .int .i64 h.c], .int .i64 0]) (by simp only [results, Try.results24]; go_simp) rfl ?_)
      refine ⟨?_, ext5 (hx0.trans hx5) _ _ _ _ _⟩
      rw [HH.out, HR.out]
end Go.Proofs.Ytkcpfimhbogdcaa
