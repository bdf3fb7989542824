/- Arenas that are only read. -/
import Derived.Test.YtkcpfimhbogdcaaHdD
set_option linter.unusedSimpArgs false
set_option linter.unusedVariables false
namespace Go.Proofs.Ytkcpfimhbogdcaa
open Go.RowKit

/-- An arena of words: block b. -/
structure ArB (w : World) (b : Nat) (A : Option Addr) (cap : Nat) (ws : List Int) : Prop where
  blk : w.heap[b]? = some (.cells #[.bool true, .slice A ws.length cap] 123 (0, 0))
  row : WordsAt w A ws
  len : ws.length ≤ 98304
  bd : ∀ z ∈ ws, 0 ≤ z ∧ z < 18446744073709551616
theorem ArB.ext {w w' : World} {b : Nat} {A : Option Addr} {cap : Nat} {ws : List Int} (h : ArB w b A cap ws) (hx : Ext w w') : ArB w' b A cap ws := ⟨(hx.block (lt_of_heap h.blk)).trans h.blk, h.row.ext hx, h.len, h.bd⟩
/-- A pointer to an arena: nobody's (none), or one of words. -/
def ArP (w : World) (p : Option Addr) (l : Option (List Int)) : Prop := (p = none ∧ l = none) ∨ ∃ b A cap ws, p = some ⟨b, 0, none⟩ ∧ l = some ws ∧ ArB w b A cap ws
theorem ArP.ext {w w' : World} {p : Option Addr} {l : Option (List Int)} (h : ArP w p l) (hx : Ext w w') : ArP w' p l := by
  rcases h with h | ⟨b, A, cap, ws, h1, h2, h3⟩
  · exact .inl h
  · exact .inr ⟨b, A, cap, ws, h1, h2, h3.ext hx⟩
theorem ArP.nil (w : World) : ArP w none none := .inl ⟨rfl, rfl⟩
theorem ArB.p {w : World} {b : Nat} {A : Option Addr} {cap : Nat} {ws : List Int} (h : ArB w b A cap ws) : ArP w (some ⟨b, 0, none⟩) (some ws) := .inr ⟨b, A, cap, ws, rfl, rfl, h⟩
def lenA (l : Option (List Int)) : Int := (l.getD []).length
def atA (l : Option (List Int)) (i : Int) : Int := match l with | none => 10 | some ws => if i < 0 ∨ (ws.length : Int) ≤ i then 2 else 0
def rdA (l : Option (List Int)) (i : Int) : Int := if atA l i = 0 then (l.getD []).getD i.toNat 0 else 0
set_option maxHeartbeats 1000000
theorem adead_any (p : Option Addr) (l : Option (List Int)) (V : World) (h : ArP V p l) : Calls Try.prog 100 #[.pointer p] V fun e w' => e = .returned (.bool l.isNone) ∧ Ext V w' := by
  rcases h with ⟨rfl, rfl⟩ | ⟨b, A, cap, ws, rfl, rfl, hb⟩
  · go_enter Try.func100, Try.ntmps100
    go_wp2_with fail
    go_ret
    exact ⟨rfl, Ext.refl _⟩
  · have c0 : V.cell? ⟨b, 0, none⟩ = some (.bool true) := by simp [World.cell?, hb.blk]
    clear hb
    go_enter Try.func100, Try.ntmps100
    go_wp2_with fail
    go_ret
    exact ⟨rfl, Ext.refl _⟩
theorem alen_any (p : Option Addr) (l : Option (List Int)) (V : World) (h : ArP V p l) : Calls Try.prog 74 #[.pointer p] V fun e w' => e = .returned (.int .i64 (lenA l)) ∧ Ext V w' := by
  have h0 := h
  rcases h with ⟨rfl, rfl⟩ | ⟨b, A, cap, ws, rfl, rfl, hb⟩
  · clear h0
    have hW := Ext.refl V
    go_enter Try.func74, Try.ntmps74
    go_wp2_with fail
    refine (adead_any none none V (ArP.nil V)).mono ?_
    rintro e w1 ⟨rfl, hx⟩
    go_wp2_with fail
    go_ret
    exact ⟨rfl, hx⟩
  · have HB := Lib.hid hb
    clear hb h0
    go_enter Try.func74, Try.ntmps74
    go_wp2_with fail
    refine (adead_any _ _ V HB.out.p).mono ?_
    rintro e w1 ⟨rfl, hx⟩
    have c1 : w1.cell? ⟨b, 1, none⟩ = some (.slice A ws.length cap) := hx.cell (by simp [World.cell?, HB.out.blk])
    go_wp2_with fail
    go_ret
    exact ⟨rfl, hx⟩
theorem aat_any (p : Option Addr) (l : Option (List Int)) (i : Int) (V : World) (h : ArP V p l) : Calls Try.prog 125 #[.pointer p, .int .i64 i] V fun e w' => e = .returned (.int .i64 (atA l i)) ∧ Ext V w' := by
  rcases h with ⟨rfl, rfl⟩ | ⟨b, A, cap, ws, rfl, rfl, hb⟩
  · have hW := Ext.refl V
    go_enter Try.func125, Try.ntmps125
    go_wp2_with fail
    refine (adead_any none none V (ArP.nil V)).mono ?_
    rintro e w1 ⟨rfl, hx⟩
    go_wp2_with fail
    go_ret
    exact ⟨rfl, hx⟩
  · have HB := Lib.hid hb
    clear hb
    go_enter Try.func125, Try.ntmps125
    go_wp2_with fail
    refine (adead_any _ _ V HB.out.p).mono ?_
    rintro e w1 ⟨rfl, hx⟩
    have c1 : w1.cell? ⟨b, 1, none⟩ = some (.slice A ws.length cap) := hx.cell (by simp [World.cell?, HB.out.blk])
    by_cases h1 : i < 0
    · have d1 : decide (i < 0) = true := by simpa using h1
      have HR : Hid (atA (some ws) i = 2) := Lib.hid (by simp [atA, h1])
      clear h1
      go_wp2_with fail
      go_ret
      exact ⟨ret_int HR.out.symm, hx⟩
    have d1 : decide (i < 0) = false := by simpa using h1
    by_cases h2 : (ws.length : Int) ≤ i
    · have d2 : decide ((ws.length : Int) ≤ i) = true := by simpa using h2
      have HR : Hid (atA (some ws) i = 2) := Lib.hid (by simp [atA, h2])
      clear h1 h2
      go_wp2_with fail
      go_ret
      exact ⟨ret_int HR.out.symm, hx⟩
    have d2 : decide ((ws.length : Int) ≤ i) = false := by simpa using h2
    have HR : Hid (atA (some ws) i = 0) := Lib.hid (by simp [atA, h1, h2])
    clear h1 h2
    go_wp2_with fail
    go_ret
    exact ⟨ret_int HR.out.symm, hx⟩
theorem aat_is (p : Option Addr) (l : Option (List Int)) (i er : Int) (h0 : atA l i = er) (V : World) (h : ArP V p l) : Calls Try.prog 125 #[.pointer p, .int .i64 i] V fun e w' => e = .returned (.int .i64 er) ∧ Ext V w' := by
  rw [← h0]; exact aat_any p l i V h
theorem atA_zero {l : Option (List Int)} {i : Int} (h : atA l i = 0) : ∃ ws, l = some ws ∧ 0 ≤ i ∧ i < ws.length := by
  cases l with
  | none => simp [atA] at h
  | some ws =>
    refine ⟨ws, rfl, ?_⟩
    simp only [atA] at h
    split at h
    · cases h
    · omega
theorem aread_any (p : Option Addr) (l : Option (List Int)) (i : Int) (V : World) (h : ArP V p l) : Calls Try.prog 72 #[.pointer p, .int .i64 i] V fun e w' => e = .returned (.tuple #[.int .u64 (rdA l i), .int .i64 (atA l i)]) ∧ Ext V w' := by
  obtain ⟨er, her⟩ : ∃ er, atA l i = er := ⟨_, rfl⟩
  have HE := Lib.hid her
  have HP := Lib.hid h
  clear h
  by_cases h0 : er = 0
  · subst h0
    obtain ⟨ws, rfl, h1, h2⟩ := atA_zero her
    rcases HP.out with ⟨_, h⟩ | ⟨b, A, cap, ws', rfl, hl, hb⟩
    · cases h
    injection hl with hl
    subst hl
    obtain ⟨j, rfl⟩ := Int.eq_ofNat_of_zero_le h1
    have hj : j < ws.length := by omega
    obtain ⟨lb, off, rfl, hc⟩ := hb.row.get (by omega)
    have d0 := words_cell hc hj
    have HR : Hid (rdA (some ws) (j : Int) = ws.getD j 0) := Lib.hid (by rw [rdA, HE.out]; simp)
    have HB := Lib.hid hb
    have ib1 : (j : Int) < (ws.length : Int) := by omega
    clear hc hb her h1 h2
    generalize ws.getD j 0 = z at *
    go_enter Try.func72, Try.ntmps72
    go_wp2_with fail
    refine (aat_is _ _ _ 0 HE.out V HP.out).mono ?_
    rintro e w1 ⟨rfl, hx⟩
    have c1 : w1.cell? ⟨b, 1, none⟩ = some (.slice (some ⟨lb, off, none⟩) ws.length cap) := hx.cell (by simp [World.cell?, HB.out.blk])
    have c2 := hx.cell d0
    go_wp2_with fail
    go_ret2
    exact ⟨by rw [HR.out, HE.out]; rfl, hx⟩
  · have hne : (er != 0) = true := by simpa using h0
    have HR : Hid (rdA l i = 0) := Lib.hid (by rw [rdA, if_neg (by rw [her]; exact h0)])
    clear her h0
    go_enter Try.func72, Try.ntmps72
    go_wp2_with fail
    refine (aat_is _ _ _ er HE.out V HP.out).mono ?_
    rintro e w1 ⟨rfl, hx⟩
    go_wp2_with fail
    go_ret2
    exact ⟨by rw [HR.out, HE.out]; rfl, hx⟩
theorem aread_is (p : Option Addr) (l : Option (List Int)) (i z er : Int) (h1 : rdA l i = z) (h2 : atA l i = er) (V : World) (h : ArP V p l) : Calls Try.prog 72 #[.pointer p, .int .i64 i] V fun e w' => e = .returned (.tuple #[.int .u64 z, .int .i64 er]) ∧ Ext V w' := by
  rw [← h1, ← h2]; exact aread_any p l i V h
end Go.Proofs.Ytkcpfimhbogdcaa
