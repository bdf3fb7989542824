/- An object is put into an arena: object.Put. -/
import Derived.Test.YtkcpfimhbogdcaaArE
set_option linter.unusedSimpArgs false
set_option linter.unusedVariables false
namespace Go.Proofs.Ytkcpfimhbogdcaa
open Go.RowKit Go.Shelf

def putE (ws : List Int) (i : Int) (h : Hd) : Int := if hmayB h then rowE ws i (hsize h) else 1
def putL (ws : List Int) (i : Int) (h : Hd) : List Int := if putE ws i h = 0 then (fillK ws i.toNat 0 (hsize h).toNat).set i.toNat (hwordN h) else ws
set_option maxRecDepth 100000
set_option maxHeartbeats 1000000
theorem put_any (b : Nat) (A : Option Addr) (cap : Nat) (ws : List Int) (i : Int) (h : Hd) (Bo : Nat) (V : World) (hA : ArO Bo V b A cap ws) (hi : -9223372036854775808 ≤ i ∧ i ≤ 9223372036854775807) :
    Calls Try.prog 65 #[.pointer (some ⟨b, 0, none⟩), .int .i64 i, .agg #[.int .i64 h.k, .int .i64 h.f, .int .i64 h.r, .bool h.m, .int .i64 h.c]] V fun e w' => e = .returned (.int .i64 (putE ws i h)) ∧ ArO Bo w' b A cap (putL ws i h) ∧ V.grownBy w' (Value.slice A ws.length cap).ownBlock := by
  have HP := Lib.hid hA
  have HI := Lib.hid hi
  have hb0 := blk_new V #[.int .i64 h.k, .int .i64 h.f, .int .i64 h.r, .bool h.m, .int .i64 h.c] 47 _ rfl
  have hx0 : Ext V (V.alloc (.cells #[.int .i64 h.k, .int .i64 h.f, .int .i64 h.r, .bool h.m, .int .i64 h.c] 47)) := (Ext.refl V).alloc _
  have HB0 := Lib.hid hb0
  have HX0 := Lib.hid hx0
  clear hA hi hb0 hx0
  cases hm : hmayB h
  · have HE : Hid (putE ws i h = 1) := Lib.hid (by rw [putE, hm]; rfl)
    have HL : Hid (putL ws i h = ws) := Lib.hid (by rw [putL, HE.out]; rfl)
    have HZ : Hid (hwordZ h = 0 ∧ herrZ h = 1) := Lib.hid (by simp [hwordZ, herrZ, hm])
    clear hm
    go_enter Try.func65, Try.ntmps65
    go_wp2_with fail
    refine (henc_any h _).mono ?_
    rw [HZ.out.1, HZ.out.2]
    rintro e w1 ⟨rfl, hx⟩
    have HX := Lib.hid (HX0.out.trans hx)
    clear hx
    go_wp2_with fail
    go_ret
    exact ⟨ret_int HE.out.symm, by rw [HL.out]; exact HP.out.ext HX.out, grown_of HX.out⟩
  have HZ : Hid (hwordZ h = (hwordN h : Int) ∧ herrZ h = 0) := Lib.hid (by simp [hwordZ, herrZ, hm])
  have HWB := Lib.hid (hword_lt h hm)
  obtain ⟨n, hn⟩ : ∃ n, hsize h = n := ⟨_, rfl⟩
  have HN := Lib.hid hn
  have hnb : 1 ≤ n ∧ n ≤ 8193 := by
    have h1 := hm
    simp only [hmayB, decide_eq_true_eq] at h1
    rw [← hn, hsize, if_pos hm]; omega
  obtain ⟨er, her⟩ : ∃ e, rowE ws i n = e := ⟨_, rfl⟩
  have HE : Hid (putE ws i h = er) := Lib.hid (by rw [putE, hm, hn]; exact her)
  have HER := Lib.hid her
  have HNB := Lib.hid hnb
  have HL : Hid (putL ws i h = if er = 0 then (fillK ws i.toNat 0 n.toNat).set i.toNat (hwordN h) else ws) := Lib.hid (by rw [putL, HE.out, hn])
  clear hm hn hnb her
  go_enter Try.func65, Try.ntmps65
  go_wp2_with fail
  refine (henc_any h _).mono ?_
  rw [HZ.out.1, HZ.out.2]
  rintro e w1 ⟨rfl, hx⟩
  have HX := Lib.hid (HX0.out.trans hx)
  have hb1 := (hx.block (lt_of_heap HB0.out)).trans HB0.out
  have g0 : w1.cell? ⟨V.heap.size, 0, none⟩ = some (.int .i64 h.k) := by simp [World.cell?, hb1]
  have g1 : w1.cell? ⟨V.heap.size, 1, none⟩ = some (.int .i64 h.f) := by simp [World.cell?, hb1]
  have g2 : w1.cell? ⟨V.heap.size, 2, none⟩ = some (.int .i64 h.r) := by simp [World.cell?, hb1]
  have g3 : w1.cell? ⟨V.heap.size, 3, none⟩ = some (.bool h.m) := by simp [World.cell?, hb1]
  have g4 : w1.cell? ⟨V.heap.size, 4, none⟩ = some (.int .i64 h.c) := by simp [World.cell?, hb1]
  clear hx hb1 HB0
  go_wp2_with fail
  refine (hsize_is h n HN.out _).mono ?_
  rintro e w2 ⟨rfl, hx⟩
  have HX2 := Lib.hid (HX.out.trans hx)
  clear hx g0 g1 g2 g3 g4 HX HX0
  go_wp2_with fail
  refine (afill_any b A cap ws i n 0 Bo w2 (HP.out.ext HX2.out) HI.out ⟨by have := HNB.out; omega, by have := HNB.out; omega⟩ (by decide)).mono ?_
  rw [HER.out]
  rintro e w3 ⟨rfl, ha3, hg3⟩
  have HA3 := Lib.hid ha3
  have HG3 := Lib.hid ((grown_of (ob := (Value.slice A ws.length cap).ownBlock) HX2.out).trans hg3)
  clear ha3 hg3
  by_cases h0 : er = 0
  · subst h0
    have HLL := Lib.hid (HL.out.trans (if_pos rfl))
    obtain ⟨h1, h2, h3⟩ := rowE_ok HER.out
    have hlen := fillK_len ws i.toNat 0 n.toNat
    have HFL : Hid (fillL ws i n 0 = fillK ws i.toNat 0 n.toNat) := Lib.hid (by rw [fillL, if_pos HER.out])
    have hat : atA (some (fillK ws i.toNat 0 n.toNat)) i = 0 := by
      have := HNB.out
      simp only [atA, hlen]
      rw [if_neg (by omega)]
    have HAT := Lib.hid hat
    have HWR : Hid (wrL (fillK ws i.toNat 0 n.toNat) i (hwordN h) = (fillK ws i.toNat 0 n.toNat).set i.toNat (hwordN h)) := Lib.hid (by rw [wrL, if_pos hat])
    have HLN := Lib.hid hlen
    rw [HFL.out] at HA3
    clear h1 h2 h3 hlen hat
    go_wp2_with fail
    have Z := awrite_any b A cap (fillK ws i.toNat 0 n.toNat) i (hwordN h) Bo w3 HA3.out ⟨by omega, by have := HWB.out; omega⟩
    refine Z.mono ?_
    clear Z
    rw [HAT.out, HWR.out, HLN.out]
    rintro e w4 ⟨rfl, ha4, hg4⟩
    have HA4 := Lib.hid ha4
    have HG4 := Lib.hid (HG3.out.trans hg4)
    clear ha4 hg4
    go_wp2_with fail
    go_ret
    exact ⟨ret_int HE.out.symm, by rw [HLL.out]; exact HA4.out, HG4.out⟩
  · have hne : (er != 0) = true := by simpa using h0
    have HLL := Lib.hid (HL.out.trans (if_neg h0))
    have HFL : Hid (fillL ws i n 0 = ws) := Lib.hid (by rw [fillL, if_neg (by rw [HER.out]; exact h0)])
    rw [HFL.out] at HA3
    clear h0
    go_wp2_with fail
    go_ret
    exact ⟨ret_int HE.out.symm, by rw [HLL.out]; exact HA3.out, HG3.out⟩
end Go.Proofs.Ytkcpfimhbogdcaa
