/- awake of the laws of walks, walked. -/
import Derived.Test.YtkcpfimhbogdcaaStA
import Derived.Test.YtkcpfimhbogdcaaWkD
import Derived.Test.YtkcpfimhbogdcaaObB
set_option linter.unusedSimpArgs false
set_option linter.unusedVariables false
namespace Go.Proofs.Ytkcpfimhbogdcaa
open Go.RowKit Go.Shelf

def aw1 : List Int := putL (List.replicate 12 0) 4 ⟨0, 2, 0, false, 0⟩
def aw2 : List Int := putL aw1 7 ⟨0, 0, 1, false, 0⟩
theorem aw_vals : putE (List.replicate 12 0) 4 ⟨0, 2, 0, false, 0⟩ = 0 ∧ putE aw1 7 ⟨0, 0, 1, false, 0⟩ = 0 ∧ listA (some aw2) 4 8 9 = [4, 7] ∧ stopE (some aw2) 4 8 9 = 0 ∧ wsumA (some aw2) 4 8 9 = (2, 5, 2) ∧ stopA (some aw2) 4 8 8 = 7 ∧ stopE (some aw2) 4 8 8 = 2 ∧ stopA (some aw2) 4 8 10 = 9 ∧ stopE (some aw2) 4 8 10 = 3 := by
  refine ⟨?_, ?_, ?_, ?_, ?_, ?_, ?_, ?_, ?_⟩ <;> decide +kernel
theorem sums_is (p : Option Addr) (l : Option (List Int)) (a s top x y z er : Int) (h1 : wsumA l a s top = (x, y, z)) (h2 : stopE l a s top = er) (V : World) (hp : ArP V p l) :
    Calls Try.prog 19 #[.pointer p, .agg #[.int .i64 (a), .int .i64 (s)], .int .i64 top] V fun e w' => e = .returned (.tuple #[.int .i64 x, .int .i64 y, .int .i64 z, .int .i64 er]) ∧ Ext V w' := by
  have := wsums_any p l a s top V hp
  rwa [h1, h2] at this
theorem list_is (p : Option Addr) (l : Option (List Int)) (a s top er : Int) (zs : List Int) (h1 : listA l a s top = zs) (h2 : stopE l a s top = er) (V : World) (hp : ArP V p l) :
    Calls Try.prog 13 #[.pointer p, .agg #[.int .i64 (a), .int .i64 (s)], .int .i64 top] V (RetIE V zs er) := by
  have := list_any p l a s top V hp
  rwa [h1, h2] at this
set_option maxRecDepth 100000
set_option maxHeartbeats 1000000
theorem awake09_any (V : World) : Calls Try.prog 16 #[] V fun e w' => e = .returned (.bool true) ∧ Ext V w' := by
  obtain ⟨v1, v2, v3, v4, v5, v6, v7, v8, v9⟩ := aw_vals
  have H1 := Lib.hid v1
  have H2 := Lib.hid v2
  have H3 := Lib.hid v3
  have H4 := Lib.hid v4
  have H5 := Lib.hid v5
  have H6 := Lib.hid v6
  have H7 := Lib.hid v7
  have H8 := Lib.hid v8
  have H9 := Lib.hid v9
  clear v1 v2 v3 v4 v5 v6 v7 v8 v9
  go_enter Try.func16, Try.ntmps16
  go_wp2_with fail
  refine (anew_any 12 (by decide) (by decide) V).mono ?_
  rintro e w1 ⟨⟨b, A, cap, rfl, hA⟩, hx⟩
  have HA := Lib.hid (show ArO V.heap.size w1 b A cap (List.replicate 12 0) from hA)
  have HX := Lib.hid hx
  clear hA hx
  go_wp2_with fail
  have Z := put_any b A cap (List.replicate 12 0) 4 ⟨0, 2, 0, false, 0⟩ V.heap.size w1 HA.out (by decide)
  rw [H1.out] at Z
  refine Z.mono ?_
  clear Z
  rintro e w2 ⟨rfl, ha, hg⟩
  have HA2 := Lib.hid (show ArO V.heap.size w2 b A cap aw1 from ha)
  have HX2 : Hid (Ext V w2) := Lib.hid (Own.below HA.out.own HX.out hg HX.out.size)
  clear ha hg HX
  go_wp2_with fail
  have Z := put_any b A cap aw1 7 ⟨0, 0, 1, false, 0⟩ V.heap.size w2 HA2.out (by decide)
  rw [H2.out] at Z
  refine Z.mono ?_
  clear Z
  rintro e w3 ⟨rfl, ha, hg⟩
  have HA3 := Lib.hid (show ArO V.heap.size w3 b A cap aw2 from ha)
  have HX3 : Hid (Ext V w3) := Lib.hid (Own.below HA2.out.own HX2.out hg HX2.out.size)
  clear ha hg HX2 HA2 HA
  go_wp2_with fail
  have hb5 := blk_new w3 #[.int .i64 4, .int .i64 8] 23 _ rfl
  have HX4 := Lib.hid (HX3.out.alloc (.cells #[.int .i64 4, .int .i64 8] 23))
  have HA4 := Lib.hid (HA3.out.ext ((Ext.refl w3).alloc (.cells #[.int .i64 4, .int .i64 8] 23)))
  clear HX3 HA3
  generalize w3.alloc (.cells #[.int .i64 4, .int .i64 8] 23) = w4 at *
  generalize w3.heap.size = S at *
  have HB5 := Lib.hid hb5
  clear hb5
  refine (list_is (some ⟨b, 0, none⟩) (some aw2) 4 8 9 0 [4, 7] H3.out H4.out w4 HA4.out.p).mono ?_
  rintro e w5 ⟨LA, lc, rfl, hl, hx⟩
  have HL5 := Lib.hid hl
  have HX5 := Lib.hid (HX4.out.trans hx)
  have HA5 := Lib.hid (HA4.out.ext hx)
  have HB6 := Lib.hid ((hx.block (lt_of_heap HB5.out)).trans HB5.out)
  clear hl hx HX4 HA4 HB5
  have g0 : w5.cell? ⟨S, 0, none⟩ = some (.int .i64 4) := by simp [World.cell?, HB6.out]
  have g1 : w5.cell? ⟨S, 1, none⟩ = some (.int .i64 8) := by simp [World.cell?, HB6.out]
  go_wp2_with fail
  refine (sums_is (some ⟨b, 0, none⟩) (some aw2) 4 8 9 2 5 2 0 H5.out H4.out w5 HA5.out.p).mono ?_
  rintro e w6 ⟨rfl, hx⟩
  have HX6 := Lib.hid (HX5.out.trans hx)
  have HA6 := Lib.hid (HA5.out.ext hx)
  have HL6 := Lib.hid (HL5.out.ext hx)
  have HB7 := Lib.hid ((hx.block (lt_of_heap HB6.out)).trans HB6.out)
  clear hx HX5 HA5 HL5 HB6 g0 g1
  have g0 : w6.cell? ⟨S, 0, none⟩ = some (.int .i64 4) := by simp [World.cell?, HB7.out]
  have g1 : w6.cell? ⟨S, 1, none⟩ = some (.int .i64 8) := by simp [World.cell?, HB7.out]
  go_wp2_with fail
  refine (stop_is (some ⟨b, 0, none⟩) (some aw2) 4 8 8 7 2 H6.out H7.out w6 HA6.out.p).mono ?_
  rintro e w7 ⟨rfl, hx⟩
  have HX7 := Lib.hid (HX6.out.trans hx)
  have HA7 := Lib.hid (HA6.out.ext hx)
  have HL7 := Lib.hid (HL6.out.ext hx)
  have HB8 := Lib.hid ((hx.block (lt_of_heap HB7.out)).trans HB7.out)
  clear hx HX6 HA6 HL6 HB7 g0 g1
  have g0 : w7.cell? ⟨S, 0, none⟩ = some (.int .i64 4) := by simp [World.cell?, HB8.out]
  have g1 : w7.cell? ⟨S, 1, none⟩ = some (.int .i64 8) := by simp [World.cell?, HB8.out]
  go_wp2_with fail
  refine (stop_is (some ⟨b, 0, none⟩) (some aw2) 4 8 10 9 3 H8.out H9.out w7 HA7.out.p).mono ?_
  rintro e w8 ⟨rfl, hx⟩
  have HX8 := Lib.hid (HX7.out.trans hx)
  have HL8 := Lib.hid (HL7.out.ext hx)
  clear hx HX7 HA7 HL7 HB8 g0 g1
  obtain ⟨lb, off, rfl, hc⟩ := HL8.out.get (by decide)
  have c0 := ints_cell hc (k := 0) (by decide)
  have c1 := ints_cell hc (k := 1) (by decide)
  have HI : Hid (∀ v r, decide (v ∈ ([4, 7] : List Int)) = r → ∀ W, Ext w8 W → Calls Try.prog 22 #[.slice (some ⟨lb, off, none⟩) 2 lc, .int .i64 v] W fun e w' => e = .returned (.bool r) ∧ Ext W w') := Lib.hid (fun v r hr W hW => by
    rw [← hr]; exact starts_any _ lc [4, 7] v W (by decide) (HL8.out.ext hW))
  simp only [List.getD_cons_zero, List.getD_cons_succ, Nat.add_zero] at c0 c1
  clear hc
  go_wp2_with fail
  have Z := HI.out 7 true (by decide) w8 (Ext.refl _)
  refine Z.mono ?_
  clear Z
  rintro e w9 ⟨rfl, hx⟩
  have HX9 := Lib.hid hx
  clear hx
  go_wp2_with fail
  have Z := HI.out 8 false (by decide) w9 HX9.out
  refine Z.mono ?_
  clear Z
  rintro e w10 ⟨rfl, hx⟩
  have HX10 := Lib.hid (HX8.out.trans (HX9.out.trans hx))
  clear hx
  go_wp2_with fail
  go_ret
  exact ⟨rfl, HX10.out⟩
end Go.Proofs.Ytkcpfimhbogdcaa
