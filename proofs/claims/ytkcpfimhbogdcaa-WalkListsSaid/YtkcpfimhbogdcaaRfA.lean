/- The reference on headers: May, Size, Dec; and its Head. -/
import Derived.Test.YtkcpfimhbogdcaaObA
import Derived.Test.YtkcpfimhbogdcaaSpanA
set_option linter.unusedSimpArgs false
set_option linter.unusedVariables false
namespace Go.Proofs.Ytkcpfimhbogdcaa
open Go.RowKit Go.Shelf

set_option maxRecDepth 100000
set_option maxHeartbeats 2000000
theorem refhmay_any (h : Hd) (w : World) : Calls Try.prog 123 #[.agg #[.int .i64 h.k, .int .i64 h.f, .int .i64 h.r, .bool h.m, .int .i64 h.c]] w fun e w' => e = .returned (.bool (hmayB h)) ∧ Ext w w' := by
  obtain ⟨k, f, r, m, c⟩ := h
  simp only
  go_enter Try.func123, Try.ntmps123
  go_wp2
  all_goals go_ret
  all_goals exact ⟨ret_bool (by unfold hmayB; simp [*]; try omega), (Ext.refl _).alloc _⟩
theorem refhmay_is (h : Hd) (b : Bool) (hb : hmayB h = b) (w : World) : Calls Try.prog 123 #[.agg #[.int .i64 h.k, .int .i64 h.f, .int .i64 h.r, .bool h.m, .int .i64 h.c]] w fun e w' => e = .returned (.bool b) ∧ Ext w w' := by
  rw [← hb]; exact refhmay_any h w
theorem refhsize_any (h : Hd) (V : World) : Calls Try.prog 69 #[.agg #[.int .i64 h.k, .int .i64 h.f, .int .i64 h.r, .bool h.m, .int .i64 h.c]] V fun e w' => e = .returned (.int .i64 (hsize h)) ∧ Ext V w' := by
  have hb5 := blk_new V #[.int .i64 h.k, .int .i64 h.f, .int .i64 h.r, .bool h.m, .int .i64 h.c] 47 _ rfl
  have HX := Lib.hid ((Ext.refl V).alloc (.cells #[.int .i64 h.k, .int .i64 h.f, .int .i64 h.r, .bool h.m, .int .i64 h.c] 47))
  have HB5 := Lib.hid hb5
  obtain ⟨b, hb⟩ : ∃ b, hmayB h = b := ⟨_, rfl⟩
  have HM := Lib.hid hb
  clear hb5 hb
  go_enter Try.func69, Try.ntmps69
  go_wp2_with fail
  refine (refhmay_is h b HM.out _).mono ?_
  rintro e w1 ⟨rfl, hx⟩
  have hb1 := (hx.block (lt_of_heap HB5.out)).trans HB5.out
  have g1 : w1.cell? ⟨V.heap.size, 1, none⟩ = some (.int .i64 h.f) := by simp [World.cell?, hb1]
  have g2 : w1.cell? ⟨V.heap.size, 2, none⟩ = some (.int .i64 h.r) := by simp [World.cell?, hb1]
  have HX1 := Lib.hid (HX.out.trans hx)
  clear hx hb1
  cases b
  · have HS : Hid (hsize h = 0) := Lib.hid (by rw [hsize, HM.out]; rfl)
    go_wp2_with fail
    go_ret
    exact ⟨ret_int HS.out.symm, HX1.out⟩
  · have hm := HM.out
    simp only [hmayB, decide_eq_true_eq] at hm
    have HS : Hid (hsize h = 1 + h.f + h.r) := Lib.hid (by rw [hsize, HM.out]; rfl)
    have e1 : wrap64 (1 + h.f) = 1 + h.f := IntWalk.wrap64_in _ ⟨by omega, by omega⟩
    have e2 : wrap64 (1 + h.f + h.r) = 1 + h.f + h.r := IntWalk.wrap64_in _ ⟨by omega, by omega⟩
    have HE2 := Lib.hid (HS.out.trans e2.symm)
    clear hm e2
    go_wp2_with fail
    go_ret
    exact ⟨ret_int HE2.out.symm, HX1.out⟩
theorem refhsize_is (h : Hd) (n : Int) (hn : hsize h = n) (w : World) : Calls Try.prog 69 #[.agg #[.int .i64 h.k, .int .i64 h.f, .int .i64 h.r, .bool h.m, .int .i64 h.c]] w fun e w' => e = .returned (.int .i64 n) ∧ Ext w w' := by
  rw [← hn]; exact refhsize_any h w
theorem refhdec_any (w : Nat) (hw : w < 18446744073709551616) (V : World) : Calls Try.prog 122 #[.int .u64 (w : Int)] V fun e w' => e = .returned (.tuple #[.agg #[.int .i64 (hdecH w).k, .int .i64 (hdecH w).f, .int .i64 (hdecH w).r, .bool (hdecH w).m, .int .i64 (hdecH w).c], .int .i64 (hdecE w)]) ∧ Ext V w' := by
  have hd : decH w = ⟨(w : Int) / 8 % 32, (w : Int) / 256 % 65536, (w : Int) / 16777216 % 65536, ((w : Int) / 4 % 2 == 1), (w : Int) / 1099511627776⟩ := by
    rw [decH_cast]
    congr 1
    omega
  have HD := Lib.hid hd
  have hx2 : Ext V ((V.alloc (.cells #[.int .i64 0, .int .i64 0, .int .i64 0, .bool false, .int .i64 0] 47)).alloc (.cells #[.int .i64 ((w : Int) / 8 % 32), .int .i64 ((w : Int) / 256 % 65536), .int .i64 ((w : Int) / 16777216 % 65536), .bool ((w : Int) / 4 % 2 == 1), .int .i64 ((w : Int) / 1099511627776)] 47)) := ((Ext.refl V).alloc _).alloc _
  have HX2 := Lib.hid hx2
  clear hd hx2
  by_cases h4 : w % 4 = 3
  rotate_left
  · have d4 : ((w : Int) % 4 != 3) = true := by rw [bne_iff_ne]; omega
    have HB : Hid (hdecB w = false) := Lib.hid (by simp [hdecB, h4])
    have HR : Hid (hdecH w = ⟨0, 0, 0, false, 0⟩ ∧ hdecE w = 3) := Lib.hid (by rw [hdecH, hdecE, HB.out]; exact ⟨rfl, rfl⟩)
    clear h4
    rw [HR.out.1, HR.out.2]
    go_enter Try.func122, Try.ntmps122
    go_wp2_with fail
    ((try simp only [Exit.inBlock, Exit.then]); refine bodyPost_ret (v := .tuple #[.agg #[.int .i64 0, .int .i64 0, .int .i64 0, .bool false, .int .i64 0], .int .i64 3]) (by simp only [results, Try.results122]; go_simp) rfl ?_)
    exact ⟨rfl, ((Ext.refl V).alloc _).alloc _⟩
  have d4 : ((w : Int) % 4 != 3) = false := by simp; omega
  obtain ⟨b, hb⟩ : ∃ b, hmayB (decH w) = b := ⟨_, rfl⟩
  have HB : Hid (hdecB w = b) := Lib.hid (by rw [hdecB, hb]; simp [h4])
  have HM := Lib.hid (HD.out ▸ hb)
  have hbr := blk_old (o2 := .cells #[.int .i64 ((w : Int) / 8 % 32), .int .i64 ((w : Int) / 256 % 65536), .int .i64 ((w : Int) / 16777216 % 65536), .bool ((w : Int) / 4 % 2 == 1), .int .i64 ((w : Int) / 1099511627776)] 47) (blk_new V #[.int .i64 0, .int .i64 0, .int .i64 0, .bool false, .int .i64 0] 47 _ rfl)
  have HBR := Lib.hid hbr
  have hbh := blk_new (V.alloc (.cells #[.int .i64 0, .int .i64 0, .int .i64 0, .bool false, .int .i64 0] 47)) #[.int .i64 ((w : Int) / 8 % 32), .int .i64 ((w : Int) / 256 % 65536), .int .i64 ((w : Int) / 16777216 % 65536), .bool ((w : Int) / 4 % 2 == 1), .int .i64 ((w : Int) / 1099511627776)] 47 (V.heap.size + 1) (by simp)
  have HBH := Lib.hid hbh
  clear h4 hb hbr hbh
  go_enter Try.func122, Try.ntmps122
  go_wp2_with fail
  generalize (w : Int) / 8 % 32 = k at *
  generalize (w : Int) / 256 % 65536 = f at *
  generalize (w : Int) / 16777216 % 65536 = r at *
  generalize ((w : Int) / 4 % 2 == 1) = m at *
  generalize (w : Int) / 1099511627776 = c at *
  generalize (V.alloc (.cells #[.int .i64 0, .int .i64 0, .int .i64 0, .bool false, .int .i64 0] 47)).alloc (.cells #[.int .i64 k, .int .i64 f, .int .i64 r, .bool m, .int .i64 c] 47) = W at *
  refine (refhmay_is ⟨k, f, r, m, c⟩ b HM.out W).mono ?_
  rintro e w1 ⟨rfl, hx⟩
  have HX1 := Lib.hid (HX2.out.trans hx)
  have h1 := (hx.block (lt_of_heap HBR.out)).trans HBR.out
  have h2 := (hx.block (lt_of_heap HBH.out)).trans HBH.out
  have q0 : w1.cell? ⟨V.heap.size, 0, none⟩ = some (.int .i64 0) := by simp [World.cell?, h1]
  have q1 : w1.cell? ⟨V.heap.size, 1, none⟩ = some (.int .i64 0) := by simp [World.cell?, h1]
  have q2 : w1.cell? ⟨V.heap.size, 2, none⟩ = some (.int .i64 0) := by simp [World.cell?, h1]
  have q3 : w1.cell? ⟨V.heap.size, 3, none⟩ = some (.bool false) := by simp [World.cell?, h1]
  have q4 : w1.cell? ⟨V.heap.size, 4, none⟩ = some (.int .i64 0) := by simp [World.cell?, h1]
  have fr : ∀ o, w1.frozen? ⟨V.heap.size, o, none⟩ = false := fun o => frozen_of_row _ _ _ _ _ h1
  cases b
  · have HR : Hid (hdecH w = ⟨0, 0, 0, false, 0⟩ ∧ hdecE w = 3) := Lib.hid (by rw [hdecH, hdecE, HB.out]; exact ⟨rfl, rfl⟩)
    clear hx h1 h2
    go_wp2_with fail
    ((try simp only [Exit.inBlock, Exit.then]); refine bodyPost_ret (v := .tuple #[.agg #[.int .i64 0, .int .i64 0, .int .i64 0, .bool false, .int .i64 0], .int .i64 3]) (by simp only [results, Try.results122]; go_simp) rfl ?_)
    rw [HR.out.1, HR.out.2]
    exact ⟨rfl, ext5 HX1.out _ _ _ _ _⟩
  · have HR : Hid (hdecH w = ⟨k, f, r, m, c⟩ ∧ hdecE w = 0) := Lib.hid (by rw [hdecH, hdecE, HB.out]; exact ⟨HD.out, rfl⟩)
    have p0 : w1.cell? ⟨V.heap.size + 1, 0, none⟩ = some (.int .i64 k) := by simp [World.cell?, h2]
    have p1 : w1.cell? ⟨V.heap.size + 1, 1, none⟩ = some (.int .i64 f) := by simp [World.cell?, h2]
    have p2 : w1.cell? ⟨V.heap.size + 1, 2, none⟩ = some (.int .i64 r) := by simp [World.cell?, h2]
    have p3 : w1.cell? ⟨V.heap.size + 1, 3, none⟩ = some (.bool m) := by simp [World.cell?, h2]
    have p4 : w1.cell? ⟨V.heap.size + 1, 4, none⟩ = some (.int .i64 c) := by simp [World.cell?, h2]
    clear hx h1 h2
    go_wp2_with fail
    ((try simp only [Exit.inBlock, Exit.then]); refine bodyPost_ret (v := .tuple #[.agg #[.int .i64 k, .int .i64 f, .int .i64 r, .bool m, .int .i64 c], .int .i64 0]) (by simp only [results, Try.results122]; go_simp) rfl ?_)
    rw [HR.out.1, HR.out.2]
    exact ⟨rfl, ext5 HX1.out _ _ _ _ _⟩
end Go.Proofs.Ytkcpfimhbogdcaa
