/- Merged by program (merge.py) out of: RfA, RfB. -/
import Derived.Test.YtkcpfimhbogdcaaMw9
import Derived.Test.YtkcpfimhbogdcaaMw1
/- The reference on headers: May, Size, Dec; and its Head. -/
set_option linter.unusedSimpArgs false
set_option linter.unusedVariables false
namespace Go.Proofs.Ytkcpfimhbogdcaa
open Go.RowKit Go.Shelf

set_option maxRecDepth 100000
set_option maxHeartbeats 2000000
theorem refhmay_any (h : Hd) (w : World) : Calls Try.prog 123 #[.agg #[.int .i64 h.k, .int .i64 h.f, .int .i64 h.r, .bool h.m, .int .i64 h.c]] w fun e w' => e = .returned (.bool (hmayB h)) ∧ Ext w w' := by
  obtain ⟨k, f, r, m, c⟩ := h
  simp only
  go_enter Try.func123, Try.ntmps123
  go_wp2
  all_goals go_ret
  all_goals exact ⟨ret_bool (by unfold hmayB; simp [*]; try omega), (Ext.refl _).alloc _⟩
theorem refhmay_is (h : Hd) (b : Bool) (hb : hmayB h = b) (w : World) : Calls Try.prog 123 #[.agg #[.int .i64 h.k, .int .i64 h.f, .int .i64 h.r, .bool h.m, .int .i64 h.c]] w fun e w' => e = .returned (.bool b) ∧ Ext w w' := by
  rw [← hb]; exact refhmay_any h w
theorem refhsize_any (h : Hd) (V : World) : Calls Try.prog 69 #[.agg #[.int .i64 h.k, .int .i64 h.f, .int .i64 h.r, .bool h.m, .int .i64 h.c]] V fun e w' => e = .returned (.int .i64 (hsize h)) ∧ Ext V w' := by
  have hb5 := blk_new V #[.int .i64 h.k, .int .i64 h.f, .int .i64 h.r, .bool h.m, .int .i64 h.c] 47 _ rfl
  have HX := Lib.hid ((Ext.refl V).alloc (.cells #[.int .i64 h.k, .int .i64 h.f, .int .i64 h.r, .bool h.m, .int .i64 h.c] 47))
  have HB5 := Lib.hid hb5
  obtain ⟨b, hb⟩ : ∃ b, hmayB h = b := ⟨_, rfl⟩
  have HM := Lib.hid hb
  clear hb5 hb
  go_enter Try.func69, Try.ntmps69
  go_wp2_with fail
  refine (refhmay_is h b HM.out _).mono ?_
  rintro e w1 ⟨rfl, hx⟩
  have hb1 := (hx.block (lt_of_heap HB5.out)).trans HB5.out
  have g1 : w1.cell? ⟨V.heap.size, 1, none⟩ = some (.int .i64 h.f) := by simp [World.cell?, hb1]
  have g2 : w1.cell? ⟨V.heap.size, 2, none⟩ = some (.int .i64 h.r) := by simp [World.cell?, hb1]
  have HX1 := Lib.hid (HX.out.trans hx)
  clear hx hb1
  cases b
  · have HS : Hid (hsize h = 0) := Lib.hid (by rw [hsize, HM.out]; rfl)
    go_wp2_with fail
    go_ret
    exact ⟨ret_int HS.out.symm, HX1.out⟩
  · have hm := HM.out
    simp only [hmayB, decide_eq_true_eq] at hm
    have HS : Hid (hsize h = 1 + h.f + h.r) := Lib.hid (by rw [hsize, HM.out]; rfl)
    have e1 : wrap64 (1 + h.f) = 1 + h.f := IntWalk.wrap64_in _ ⟨by omega, by omega⟩
    have e2 : wrap64 (1 + h.f + h.r) = 1 + h.f + h.r := IntWalk.wrap64_in _ ⟨by omega, by omega⟩
    have HE2 := Lib.hid (HS.out.trans e2.symm)
    clear hm e2
    go_wp2_with fail
    go_ret
    exact ⟨ret_int HE2.out.symm, HX1.out⟩
theorem refhsize_is (h : Hd) (n : Int) (hn : hsize h = n) (w : World) : Calls Try.prog 69 #[.agg #[.int .i64 h.k, .int .i64 h.f, .int .i64 h.r, .bool h.m, .int .i64 h.c]] w fun e w' => e = .returned (.int .i64 n) ∧ Ext w w' := by
  rw [← hn]; exact refhsize_any h w
theorem refhdec_any (w : Nat) (hw : w < 18446744073709551616) (V : World) : Calls Try.prog 122 #[.int .u64 (w : Int)] V fun e w' => e = .returned (.tuple #[.agg #[.int .i64 (hdecH w).k, .int .i64 (hdecH w).f, .int .i64 (hdecH w).r, .bool (hdecH w).m, .int .i64 (hdecH w).c], .int .i64 (hdecE w)]) ∧ Ext V w' := by
  have hd : decH w = ⟨(w : Int) / 8 % 32, (w : Int) / 256 % 65536, (w : Int) / 16777216 % 65536, ((w : Int) / 4 % 2 == 1), (w : Int) / 1099511627776⟩ := by
    rw [decH_cast]
    congr 1
    omega
  have HD := Lib.hid hd
  have hx2 : Ext V ((V.alloc (.cells #[.int .i64 0, .int .i64 0, .int .i64 0, .bool false, .int .i64 0] 47)).alloc (.cells #[.int .i64 ((w : Int) / 8 % 32), .int .i64 ((w : Int) / 256 % 65536), .int .i64 ((w : Int) / 16777216 % 65536), .bool ((w : Int) / 4 % 2 == 1), .int .i64 ((w : Int) / 1099511627776)] 47)) := ((Ext.refl V).alloc _).alloc _
  have HX2 := Lib.hid hx2
  clear hd hx2
  by_cases h4 : w % 4 = 3
  rotate_left
  · have d4 : ((w : Int) % 4 != 3) = true := by rw [bne_iff_ne]; omega
    have HB : Hid (hdecB w = false) := Lib.hid (by simp [hdecB, h4])
    have HR : Hid (hdecH w = ⟨0, 0, 0, false, 0⟩ ∧ hdecE w = 3) := Lib.hid (by rw [hdecH, hdecE, HB.out]; exact ⟨rfl, rfl⟩)
    clear h4
    rw [HR.out.1, HR.out.2]
    go_enter Try.func122, Try.ntmps122
    go_wp2_with fail
    ((try simp only [Exit.inBlock, Exit.then]); refine bodyPost_ret (v := .tuple #[.agg #[.int .i64 0, .int .i64 0, .int .i64 0, .bool false, .int .i64 0], .int .i64 3]) (by simp only [results, Try.results122]; go_simp) rfl ?_)
    exact ⟨rfl, ((Ext.refl V).alloc _).alloc _⟩
  have d4 : ((w : Int) % 4 != 3) = false := by simp; omega
  obtain ⟨b, hb⟩ : ∃ b, hmayB (decH w) = b := ⟨_, rfl⟩
  have HB : Hid (hdecB w = b) := Lib.hid (by rw [hdecB, hb]; simp [h4])
  have HM := Lib.hid (HD.out ▸ hb)
  have hbr := blk_old (o2 := .cells #[.int .i64 ((w : Int) / 8 % 32), .int .i64 ((w : Int) / 256 % 65536), .int .i64 ((w : Int) / 16777216 % 65536), .bool ((w : Int) / 4 % 2 == 1), .int .i64 ((w : Int) / 1099511627776)] 47) (blk_new V #[.int .i64 0, .int .i64 0, .int .i64 0, .bool false, .int .i64 0] 47 _ rfl)
  have HBR := Lib.hid hbr
  have hbh := blk_new (V.alloc (.cells #[.int .i64 0, .int .i64 0, .int .i64 0, .bool false, .int .i64 0] 47)) #[.int .i64 ((w : Int) / 8 % 32), .int .i64 ((w : Int) / 256 % 65536), .int .i64 ((w : Int) / 16777216 % 65536), .bool ((w : Int) / 4 % 2 == 1), .int .i64 ((w : Int) / 1099511627776)] 47 (V.heap.size + 1) (by simp)
  have HBH := Lib.hid hbh
  clear h4 hb hbr hbh
  go_enter Try.func122, Try.ntmps122
  go_wp2_with fail
  generalize (w : Int) / 8 % 32 = k at *
  generalize (w : Int) / 256 % 65536 = f at *
  generalize (w : Int) / 16777216 % 65536 = r at *
  generalize ((w : Int) / 4 % 2 == 1) = m at *
  generalize (w : Int) / 1099511627776 = c at *
  generalize (V.alloc (.cells #[.int .i64 0, .int .i64 0, .int .i64 0, .bool false, .int .i64 0] 47)).alloc (.cells #[.int .i64 k, .int .i64 f, .int .i64 r, .bool m, .int .i64 c] 47) = W at *
  refine (refhmay_is ⟨k, f, r, m, c⟩ b HM.out W).mono ?_
  rintro e w1 ⟨rfl, hx⟩
  have HX1 := Lib.hid (HX2.out.trans hx)
  have h1 := (hx.block (lt_of_heap HBR.out)).trans HBR.out
  have h2 := (hx.block (lt_of_heap HBH.out)).trans HBH.out
  have q0 : w1.cell? ⟨V.heap.size, 0, none⟩ = some (.int .i64 0) := by simp [World.cell?, h1]
  have q1 : w1.cell? ⟨V.heap.size, 1, none⟩ = some (.int .i64 0) := by simp [World.cell?, h1]
  have q2 : w1.cell? ⟨V.heap.size, 2, none⟩ = some (.int .i64 0) := by simp [World.cell?, h1]
  have q3 : w1.cell? ⟨V.heap.size, 3, none⟩ = some (.bool false) := by simp [World.cell?, h1]
  have q4 : w1.cell? ⟨V.heap.size, 4, none⟩ = some (.int .i64 0) := by simp [World.cell?, h1]
  have fr : ∀ o, w1.frozen? ⟨V.heap.size, o, none⟩ = false := fun o => frozen_of_row _ _ _ _ _ h1
  cases b
  · have HR : Hid (hdecH w = ⟨0, 0, 0, false, 0⟩ ∧ hdecE w = 3) := Lib.hid (by rw [hdecH, hdecE, HB.out]; exact ⟨rfl, rfl⟩)
    clear hx h1 h2
    go_wp2_with fail
    ((try simp only [Exit.inBlock, Exit.then]); refine bodyPost_ret (v := .tuple #[.agg #[.int .i64 0, .int .i64 0, .int .i64 0, .bool false, .int .i64 0], .int .i64 3]) (by simp only [results, Try.results122]; go_simp) rfl ?_)
    rw [HR.out.1, HR.out.2]
    exact ⟨rfl, ext5 HX1.out _ _ _ _ _⟩
  · have HR : Hid (hdecH w = ⟨k, f, r, m, c⟩ ∧ hdecE w = 0) := Lib.hid (by rw [hdecH, hdecE, HB.out]; exact ⟨HD.out, rfl⟩)
    have p0 : w1.cell? ⟨V.heap.size + 1, 0, none⟩ = some (.int .i64 k) := by simp [World.cell?, h2]
    have p1 : w1.cell? ⟨V.heap.size + 1, 1, none⟩ = some (.int .i64 f) := by simp [World.cell?, h2]
    have p2 : w1.cell? ⟨V.heap.size + 1, 2, none⟩ = some (.int .i64 r) := by simp [World.cell?, h2]
    have p3 : w1.cell? ⟨V.heap.size + 1, 3, none⟩ = some (.bool m) := by simp [World.cell?, h2]
    have p4 : w1.cell? ⟨V.heap.size + 1, 4, none⟩ = some (.int .i64 c) := by simp [World.cell?, h2]
    clear hx h1 h2
    go_wp2_with fail
    ((try simp only [Exit.inBlock, Exit.then]); refine bodyPost_ret (v := .tuple #[.agg #[.int .i64 k, .int .i64 f, .int .i64 r, .bool m, .int .i64 c], .int .i64 0]) (by simp only [results, Try.results122]; go_simp) rfl ?_)
    rw [HR.out.1, HR.out.2]
    exact ⟨rfl, ext5 HX1.out _ _ _ _ _⟩
end Go.Proofs.Ytkcpfimhbogdcaa

/- The reference's Head of a place. -/
set_option linter.unusedSimpArgs false
set_option linter.unusedVariables false
namespace Go.Proofs.Ytkcpfimhbogdcaa
open Go.RowKit Go.Shelf

theorem refhdec_is (z : Int) (h : Hd) (er : Int) (h0 : 0 ≤ z ∧ z < 18446744073709551616) (h1 : hdecH z.toNat = h) (h2 : hdecE z.toNat = er) (V : World) : Calls Try.prog 122 #[.int .u64 z] V fun e w' => e = .returned (.tuple #[.agg #[.int .i64 h.k, .int .i64 h.f, .int .i64 h.r, .bool h.m, .int .i64 h.c], .int .i64 er]) ∧ Ext V w' := by
  have := refhdec_any z.toNat (by omega) V
  rw [← h1, ← h2]
  rwa [Int.toNat_of_nonneg h0.1] at this
theorem hsize_bd (h : Hd) : 0 ≤ hsize h ∧ hsize h ≤ 8193 := by
  unfold hsize
  split
  · rename_i h1
    simp only [hmayB, decide_eq_true_eq] at h1
    omega
  · omega
set_option maxRecDepth 100000
set_option maxHeartbeats 2000000
theorem refhead_any (A : Option Addr) (cap : Nat) (ws : List Int) (i : Int) (V : World) (hl : WordsAt V A ws) (hlen : ws.length ≤ 98304) (hbd : ∀ z ∈ ws, 0 ≤ z ∧ z < 18446744073709551616) (hi : -9223372036854775808 ≤ i ∧ i ≤ 9223372036854775807) :
    Calls Try.prog 68 #[.slice A ws.length cap, .int .i64 i] V fun e w' => e = .returned (.tuple #[.agg #[.int .i64 (headH (some ws) i).k, .int .i64 (headH (some ws) i).f, .int .i64 (headH (some ws) i).r, .bool (headH (some ws) i).m, .int .i64 (headH (some ws) i).c], .int .i64 (headE (some ws) i)]) ∧ Ext V w' := by
  have HL := Lib.hid hl
  have hx0 := (Ext.refl V).alloc (.cells #[.int .i64 0, .int .i64 0, .int .i64 0, .bool false, .int .i64 0] 47)
  have hbr := blk_new V #[.int .i64 0, .int .i64 0, .int .i64 0, .bool false, .int .i64 0] 47 _ rfl
  have HX0 := Lib.hid hx0
  have HBR := Lib.hid hbr
  clear hl hbr hx0
  by_cases hin : 0 ≤ i ∧ i < ws.length
  rotate_left
  · have hat : atA (some ws) i = 2 := by simp only [atA]; rw [if_pos (by omega)]
    have HR : Hid (headE (some ws) i = 2) := Lib.hid (by rw [headE, hat]; rfl)
    have HH := Lib.hid (headH_bad HR.out (by decide))
    rw [HH.out, HR.out]
    by_cases h1 : i < 0
    · have d1 : decide (i < 0) = true := by simpa using h1
      clear hin hat
      go_enter Try.func68, Try.ntmps68
      go_wp2_with fail
      ((try simp only [Exit.inBlock, Exit.then]); refine bodyPost_ret (v := .tuple #[.agg #[.int .i64 0, .int .i64 0, .int .i64 0, .bool false, .int .i64 0], .int .i64 2]) (by simp only [results, Try.results68]; go_simp) rfl ?_)
      exact ⟨rfl, HX0.out⟩
    · have d1 : decide (i < 0) = false := by simpa using h1
      have d2 : decide ((ws.length : Int) ≤ i) = true := by simp; omega
      clear hin hat h1
      go_enter Try.func68, Try.ntmps68
      go_wp2_with fail
      ((try simp only [Exit.inBlock, Exit.then]); refine bodyPost_ret (v := .tuple #[.agg #[.int .i64 0, .int .i64 0, .int .i64 0, .bool false, .int .i64 0], .int .i64 2]) (by simp only [results, Try.results68]; go_simp) rfl ?_)
      exact ⟨rfl, HX0.out⟩
  obtain ⟨h1, h2⟩ := hin
  have hat : atA (some ws) i = 0 := by simp only [atA]; rw [if_neg (by omega)]
  obtain ⟨j, rfl⟩ := Int.eq_ofNat_of_zero_le h1
  have hj : j < ws.length := by omega
  obtain ⟨z, hz⟩ : ∃ z, ws.getD j 0 = z := ⟨_, rfl⟩
  have hzb : 0 ≤ z ∧ z < 18446744073709551616 := by rw [← hz]; exact hbd _ (getD_mem hj)
  have hrd : rdA (some ws) (j : Int) = z := by rw [rdA, if_pos hat]; simpa using hz
  obtain ⟨lb, off, rfl, hc⟩ := HL.out.get (by omega)
  have c0 := words_cell hc hj
  rw [hz] at c0
  obtain ⟨h, hh⟩ : ∃ h, hdecH z.toNat = h := ⟨_, rfl⟩
  obtain ⟨er, her⟩ : ∃ e, hdecE z.toNat = e := ⟨_, rfl⟩
  obtain ⟨n, hn⟩ : ∃ n, hsize h = n := ⟨_, rfl⟩
  have hnb := hsize_bd h
  rw [hn] at hnb
  have HE : Hid (headE (some ws) (j : Int) = if er = 0 then (if (ws.length : Int) - j < n then 2 else 0) else 3) := Lib.hid (by
    rw [headE, hat, hrd]
    simp only [if_true]
    rw [← her, ← hn, ← hh]
    cases hb : hdecB z.toNat
    · simp [hdecE, hb]
    · simp only [hdecE, hdecH, hb, lenA, if_true, Option.getD_some]
      rfl)
  have HH : Hid (headH (some ws) (j : Int) = if headE (some ws) (j : Int) = 0 then h else hd0) := Lib.hid (by
    rw [headH]
    split
    · rename_i h0
      rw [hrd, ← hh, hdecH]
      have : hdecB z.toNat = true := by
        cases hb : hdecB z.toNat
        · rw [headE, hat, hrd, hb] at h0; simp at h0
        · rfl
      rw [this]; rfl
    · rfl)
  have HD := Lib.hid hh
  have HER := Lib.hid her
  have HN := Lib.hid hn
  have HZB := Lib.hid hzb
  have ib1 : (j : Int) < (ws.length : Int) := by omega
  have ib2 : decide (ws.length ≤ j) = false := by simp; omega
  have hlb := cell_lt c0
  have ib3 : decide ((j : Int) < 0) = false := by simp
  clear hc hz hzb hrd hat hh her hn hbd h1 h2
  go_enter Try.func68, Try.ntmps68
  go_wp2_with fail
  generalize V.alloc (.cells #[.int .i64 0, .int .i64 0, .int .i64 0, .bool false, .int .i64 0] 47) = W at *
  refine (refhdec_is z h er HZB.out HD.out HER.out W).mono ?_
  rintro e w1 ⟨rfl, hx⟩
  have HX1 := Lib.hid (HX0.out.trans hx)
  have HB1 := Lib.hid ((hx.block (lt_of_heap HBR.out)).trans HBR.out)
  have hlb1 := lt_of_heap HB1.out
  clear hx HX0 HBR c0 hlb
  have q0 : w1.cell? ⟨V.heap.size, 0, none⟩ = some (.int .i64 0) := by simp [World.cell?, HB1.out]
  have q1 : w1.cell? ⟨V.heap.size, 1, none⟩ = some (.int .i64 0) := by simp [World.cell?, HB1.out]
  have q2 : w1.cell? ⟨V.heap.size, 2, none⟩ = some (.int .i64 0) := by simp [World.cell?, HB1.out]
  have q3 : w1.cell? ⟨V.heap.size, 3, none⟩ = some (.bool false) := by simp [World.cell?, HB1.out]
  have q4 : w1.cell? ⟨V.heap.size, 4, none⟩ = some (.int .i64 0) := by simp [World.cell?, HB1.out]
  have fr : ∀ o, w1.frozen? ⟨V.heap.size, o, none⟩ = false := fun o => frozen_of_row _ _ _ _ _ HB1.out
  by_cases h0 : er = 0
  rotate_left
  · have hne : (er != 0) = true := by simpa using h0
    have he3 : er = 3 := by
      have := HER.out
      unfold hdecE at this
      split at this
      · exact absurd this.symm h0
      · exact this.symm
    subst he3
    have HR : Hid (headE (some ws) (j : Int) = 3) := Lib.hid (by rw [HE.out]; rfl)
    have HHH := Lib.hid (headH_bad HR.out (by decide))
    clear h0 HE
    go_wp2_with fail
    ((try simp only [Exit.inBlock, Exit.then]); refine bodyPost_ret (v := .tuple #[.agg #[.int .i64 0, .int .i64 0, .int .i64 0, .bool false, .int .i64 0], .int .i64 3]) (by simp only [results, Try.results68]; go_simp) rfl ?_)
    rw [HHH.out, HR.out]
    exact ⟨rfl, (ext5 HX1.out _ _ _ _ _).alloc _⟩
  subst h0
  have HE2 : Hid (headE (some ws) (j : Int) = if (ws.length : Int) - j < n then 2 else 0) := Lib.hid (HE.out.trans (if_pos rfl))
  have hbh := blk_new w1 #[.int .i64 h.k, .int .i64 h.f, .int .i64 h.r, .bool h.m, .int .i64 h.c] 47 _ rfl
  have HBH := Lib.hid hbh
  have HX2 := Lib.hid (HX1.out.alloc (.cells #[.int .i64 h.k, .int .i64 h.f, .int .i64 h.r, .bool h.m, .int .i64 h.c] 47))
  have HB2 := Lib.hid (blk_old (o2 := .cells #[.int .i64 h.k, .int .i64 h.f, .int .i64 h.r, .bool h.m, .int .i64 h.c] 47) HB1.out)
  clear HE hbh HX1 HB1 q0 q1 q2 q3 q4 fr
  go_wp2_with fail
  generalize w1.alloc (.cells #[.int .i64 h.k, .int .i64 h.f, .int .i64 h.r, .bool h.m, .int .i64 h.c] 47) = w2 at *
  generalize w1.heap.size = X at *
  refine (refhsize_is h n HN.out w2).mono ?_
  rintro e w3 ⟨rfl, hx⟩
  have HX3 := Lib.hid (HX2.out.trans hx)
  have HB3 := Lib.hid ((hx.block (lt_of_heap HB2.out)).trans HB2.out)
  have hb4 := (hx.block (lt_of_heap HBH.out)).trans HBH.out
  clear hx
  have q0 : w3.cell? ⟨V.heap.size, 0, none⟩ = some (.int .i64 0) := by simp [World.cell?, HB3.out]
  have q1 : w3.cell? ⟨V.heap.size, 1, none⟩ = some (.int .i64 0) := by simp [World.cell?, HB3.out]
  have q2 : w3.cell? ⟨V.heap.size, 2, none⟩ = some (.int .i64 0) := by simp [World.cell?, HB3.out]
  have q3 : w3.cell? ⟨V.heap.size, 3, none⟩ = some (.bool false) := by simp [World.cell?, HB3.out]
  have q4 : w3.cell? ⟨V.heap.size, 4, none⟩ = some (.int .i64 0) := by simp [World.cell?, HB3.out]
  have fr : ∀ o, w3.frozen? ⟨V.heap.size, o, none⟩ = false := fun o => frozen_of_row _ _ _ _ _ HB3.out
  have p0 : w3.cell? ⟨X, 0, none⟩ = some (.int .i64 h.k) := by simp [World.cell?, hb4]
  have p1 : w3.cell? ⟨X, 1, none⟩ = some (.int .i64 h.f) := by simp [World.cell?, hb4]
  have p2 : w3.cell? ⟨X, 2, none⟩ = some (.int .i64 h.r) := by simp [World.cell?, hb4]
  have p3 : w3.cell? ⟨X, 3, none⟩ = some (.bool h.m) := by simp [World.cell?, hb4]
  have p4 : w3.cell? ⟨X, 4, none⟩ = some (.int .i64 h.c) := by simp [World.cell?, hb4]
  have hw : wrap64 ((j : Int) + n) = (j : Int) + n := IntWalk.wrap64_in _ ⟨by omega, by omega⟩
  clear hb4 HBH HB2 HX2
  by_cases hs : (ws.length : Int) - j < n
  · have d5 : decide ((ws.length : Int) < (j : Int) + n) = true := by simp; omega
    have HR : Hid (headE (some ws) (j : Int) = 2) := Lib.hid (HE2.out.trans (if_pos hs))
    have HHH := Lib.hid (headH_bad HR.out (by decide))
    clear hs HE2
    go_wp2_with fail
    ((try simp only [Exit.inBlock, Exit.then]); refine bodyPost_ret (v := .tuple #[.agg #[.int .i64 0, .int .i64 0, .int .i64 0, .bool false, .int .i64 0], .int .i64 2]) (by simp only [results, Try.results68]; go_simp) rfl ?_)
    rw [HHH.out, HR.out]
    exact ⟨rfl, ext5 HX3.out _ _ _ _ _⟩
  · have d5 : decide ((ws.length : Int) < (j : Int) + n) = false := by simp; omega
    have HR : Hid (headE (some ws) (j : Int) = 0) := Lib.hid (HE2.out.trans (if_neg hs))
    have HHH : Hid (headH (some ws) (j : Int) = h) := Lib.hid (HH.out.trans (if_pos HR.out))
    clear hs HE2
    go_wp2_with fail
    ((try simp only [Exit.inBlock, Exit.then]); refine bodyPost_ret (v := .tuple #[.agg #[.int .i64 h.k, .int .i64 h.f, .int .i64 h.r, .bool h.m, .int .i64 h.c], .int .i64 0]) (by simp only [results, Try.results68]; go_simp) rfl ?_)
    rw [HHH.out, HR.out]
    exact ⟨rfl, ext5 HX3.out _ _ _ _ _⟩
end Go.Proofs.Ytkcpfimhbogdcaa

