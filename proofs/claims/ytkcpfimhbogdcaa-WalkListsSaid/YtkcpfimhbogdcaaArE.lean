/- An arena's words are filled: Fill; object.Put. -/
import Derived.Test.YtkcpfimhbogdcaaArD
set_option linter.unusedSimpArgs false
set_option linter.unusedVariables false
namespace Go.Proofs.Ytkcpfimhbogdcaa
open Go.RowKit Go.Shelf

/-- Words from a place on, all the same. -/
def fillK (ws : List Int) (i : Nat) (z : Int) : Nat → List Int
  | 0 => ws
  | k + 1 => (fillK ws i z k).set (i + k) z
theorem fillK_len (ws : List Int) (i : Nat) (z : Int) : ∀ k, (fillK ws i z k).length = ws.length
  | 0 => rfl
  | k + 1 => by rw [fillK, List.length_set, fillK_len ws i z k]
def fillL (ws : List Int) (i n z : Int) : List Int := if rowE ws i n = 0 then fillK ws i.toNat z n.toNat else ws
theorem grown_of {V w : World} {ob : Option Nat} (h : Ext V w) : V.grownBy w ob := ⟨h.os, h.tape, h.output, h.size, fun k hk _ => h.block hk⟩
set_option maxRecDepth 100000
set_option maxHeartbeats 1000000
theorem afill_any (b : Nat) (A : Option Addr) (cap : Nat) (ws : List Int) (i n z : Int) (Bo : Nat) (V : World) (h : ArO Bo V b A cap ws) (hi : -9223372036854775808 ≤ i ∧ i ≤ 9223372036854775807) (hn : -9223372036854775808 ≤ n ∧ n ≤ 9223372036854775807) (hz : 0 ≤ z ∧ z < 18446744073709551616) :
    Calls Try.prog 120 #[.pointer (some ⟨b, 0, none⟩), .int .i64 i, .int .i64 n, .int .u64 z] V fun e w' => e = .returned (.int .i64 (rowE ws i n)) ∧ ArO Bo w' b A cap (fillL ws i n z) ∧ V.grownBy w' (Value.slice A ws.length cap).ownBlock := by
  obtain ⟨er, her⟩ : ∃ er, rowE ws i n = er := ⟨_, rfl⟩
  have HE := Lib.hid her
  have HP := Lib.hid h
  have HZ := Lib.hid hz
  have HI := Lib.hid hi
  have HN := Lib.hid hn
  clear h hz hi hn
  by_cases h0 : er = 0
  · subst h0
    obtain ⟨h1, h2, h3⟩ := rowE_ok her
    obtain ⟨k, rfl⟩ := Int.eq_ofNat_of_zero_le h2
    obtain ⟨m, rfl⟩ := Int.eq_ofNat_of_zero_le h1
    have hkm : k + m ≤ ws.length := by omega
    have HV := Lib.hid (rowV_ok (A := A) her)
    have HF : Hid (fillL ws k m z = fillK ws k z m) := Lib.hid (by rw [fillL, if_pos her]; simp)
    have hlw := HP.out.len
    obtain ⟨R, hR⟩ : ∃ R, rowA A k m = R := ⟨_, rfl⟩
    rw [hR] at HV
    have HR := Lib.hid hR
    clear her h1 h2 h3 hR
    go_enter Try.func120, Try.ntmps120
    go_wp2_with fail
    refine (arow_any b A cap ws k m Bo V HP.out HI.out HN.out).mono ?_
    rw [HV.out, HE.out]
    rintro e w1 ⟨rfl, hx⟩
    have HX := Lib.hid hx
    clear hx
    go_wp2_with fail
    go_loopw [11, 21] (fun j0 j wr => ∃ q : Nat, q ≤ m ∧ j = .int .i64 q ∧ Hid (ArO Bo wr b A cap (fillK ws k z q)) ∧ Hid (V.grownBy wr (Value.slice A ws.length cap).ownBlock)) (fun _ j _ => m - (intOf j).toNat)
    case atStart => exact ⟨0, by omega, rfl, Lib.hid (HP.out.ext HX.out), Lib.hid (grown_of HX.out)⟩
    case round =>
      obtain ⟨q, hq, rfl, hA, hG⟩ := hrel
      by_cases hlt : q < m
      rotate_left
      · obtain rfl : q = m := by omega
        go_wp2_with fail
        go_ret
        exact ⟨ret_int HE.out.symm, by rw [HF.out]; exact hA.out, hG.out⟩
      · have hls := fillK_len ws k z q
        obtain ⟨g, rfl, ⟨v, hv⟩, hf, hg, hs, hgr⟩ := hA.out.set (show k + q < (fillK ws k z q).length by omega) HZ.out
        obtain rfl : R = some ⟨g, k, none⟩ := by
          rw [← HR.out, rowA, if_neg (by omega)]
          simp [Addr.add]
          exact fun h => h.symm
        have HS := Lib.hid hs
        have HGR := Lib.hid hgr
        clear hs hgr hA
        have ib1 : (q : Int) < (m : Int) := by omega
        go_wp2_with fail
        go_roundw
        case rel => exact ⟨q + 1, by omega, by go_num, Lib.hid (by rw [fillK]; exact HS.out), Lib.hid (hG.out.trans HGR.out)⟩
        case measure => simp [intOf]; omega
  · have hne : (er == 0) = false := by simpa using h0
    have HF : Hid (fillL ws i n z = ws) := Lib.hid (by rw [fillL, if_neg (by rw [her]; exact h0)])
    have HV := Lib.hid (rowV_bad (A := A) her h0)
    clear her h0
    go_enter Try.func120, Try.ntmps120
    go_wp2_with fail
    refine (arow_any b A cap ws i n Bo V HP.out HI.out HN.out).mono ?_
    rw [HV.out, HE.out]
    rintro e w1 ⟨rfl, hx⟩
    have HX := Lib.hid hx
    clear hx
    go_wp2_with fail
    go_loopw [11, 21] (fun j0 j wr => j = .int .i64 0 ∧ Hid (Ext V wr)) (fun _ _ _ => 0)
    case atStart => exact ⟨rfl, HX⟩
    case round =>
      obtain ⟨rfl, hA⟩ := hrel
      go_wp2_with fail
      go_ret
      exact ⟨ret_int HE.out.symm, by rw [HF.out]; exact HP.out.ext hA.out, grown_of hA.out⟩
end Go.Proofs.Ytkcpfimhbogdcaa
