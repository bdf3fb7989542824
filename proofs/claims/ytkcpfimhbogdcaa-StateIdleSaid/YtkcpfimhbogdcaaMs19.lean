/- Merged by program (merge.py) out of: ObC, StF, StA, AwA, LwN, StT, StU, StVa. -/
import Derived.Test.YtkcpfimhbogdcaaMs18
import Derived.Test.YtkcpfimhbogdcaaMs7
import Derived.Test.YtkcpfimhbogdcaaMs13
import Derived.Test.YtkcpfimhbogdcaaMs14
import Derived.Test.YtkcpfimhbogdcaaMs1
import Derived.Test.YtkcpfimhbogdcaaMs16
import Derived.Test.YtkcpfimhbogdcaaMs4
import Derived.Test.YtkcpfimhbogdcaaMs11
/- Where a field, or a raw word, of an object stands, and what it is: object.place, read, Field. -/
set_option linter.unusedSimpArgs false
set_option linter.unusedVariables false
namespace Go.Proofs.Ytkcpfimhbogdcaa
open Go.RowKit Go.Shelf

/-- An object's words are there. -/
theorem head_in {l : Option (List Int)} {i : Int} (h : headE l i = 0) : ∃ ws, l = some ws ∧ 0 ≤ i ∧ i + hsize (headH l i) ≤ ws.length := by
  have h2 := h
  rw [headE] at h2
  split at h2
  · rename_i h3
    obtain ⟨ws, rfl, h4, h5⟩ := atA_zero h3
    refine ⟨ws, rfl, h4, ?_⟩
    split at h2
    · split at h2
      · cases h2
      · rename_i h6
        rw [headH, if_pos h]
        simp only [lenA, Option.getD_some] at h6
        omega
    · cases h2
  · rename_i h3; exact absurd h2 h3
def placeN (h : Hd) (raw : Bool) : Int := if raw then h.r else h.f
def placeO (h : Hd) (raw : Bool) : Int := if raw then h.f else 0
def placeE (l : Option (List Int)) (i k : Int) (raw : Bool) : Int := if headE l i = 0 then (if 0 ≤ k ∧ k < placeN (headH l i) raw then 0 else 1) else headE l i
def placeZ (l : Option (List Int)) (i k : Int) (raw : Bool) : Int := if placeE l i k raw = 0 then i + 1 + placeO (headH l i) raw + k else 0
/-- It is a word of the object. -/
theorem place_in {l : Option (List Int)} {i k : Int} {raw : Bool} (h : placeE l i k raw = 0) : headE l i = 0 ∧ 0 ≤ k ∧ k < placeN (headH l i) raw ∧ atA l (placeZ l i k raw) = 0 ∧ i < placeZ l i k raw ∧ placeZ l i k raw < i + hsize (headH l i) := by
  have hz : placeZ l i k raw = i + 1 + placeO (headH l i) raw + k := by rw [placeZ, if_pos h]
  have h0 : headE l i = 0 := by
    by_cases h0 : headE l i = 0
    · exact h0
    · rw [placeE, if_neg h0] at h; exact h
  rw [placeE, if_pos h0] at h
  have hk : 0 ≤ k ∧ k < placeN (headH l i) raw := by
    by_cases hk : 0 ≤ k ∧ k < placeN (headH l i) raw
    · exact hk
    · rw [if_neg hk] at h; cases h
  obtain ⟨g1, g2, g3, g4, g5⟩ := head_sum h0
  obtain ⟨ws, rfl, h3, h4⟩ := head_in h0
  have h5 : i < placeZ (some ws) i k raw ∧ placeZ (some ws) i k raw < i + hsize (headH (some ws) i) := by
    rw [hz]
    cases raw <;> simp only [placeO, placeN, if_true, Bool.false_eq_true, if_false] at hk ⊢ <;> omega
  refine ⟨h0, hk.1, hk.2, ?_, h5.1, h5.2⟩
  simp only [atA]
  rw [if_neg (by omega)]
set_option maxRecDepth 100000
set_option maxHeartbeats 2000000
theorem oplace_any (p : Option Addr) (l : Option (List Int)) (i k : Int) (raw : Bool) (V : World) (hp : ArP V p l) (hi : -9223372036854775808 ≤ i ∧ i ≤ 9223372036854775807) :
    Calls Try.prog 155 #[.pointer p, .int .i64 i, .int .i64 k, .bool raw] V fun e w' => e = .returned (.tuple #[.int .i64 (placeZ l i k raw), .int .i64 (placeE l i k raw)]) ∧ Ext V w' := by
  have HP := Lib.hid hp
  obtain ⟨er, her⟩ : ∃ e, headE l i = e := ⟨_, rfl⟩
  obtain ⟨h, hh⟩ : ∃ h, headH l i = h := ⟨_, rfl⟩
  have HE := Lib.hid her
  have HH := Lib.hid hh
  clear hp
  by_cases h0 : er = 0
  rotate_left
  · have hne : (er != 0) = true := by simpa using h0
    have h1 : placeE l i k raw = er := by rw [placeE, if_neg (by rw [her]; exact h0), her]
    have HR : Hid (placeZ l i k raw = 0 ∧ placeE l i k raw = er) := Lib.hid ⟨by rw [placeZ, if_neg (by rw [h1]; exact h0)], h1⟩
    clear her hh h0 h1
    go_enter Try.func155, Try.ntmps155
    go_wp2_with fail
    refine (ohead_is p l i h er HH.out HE.out V HP.out hi).mono ?_
    rintro e w1 ⟨rfl, hx⟩
    go_wp2_with fail
    go_ret2
    exact ⟨by rw [HR.out.1, HR.out.2]; rfl, hx.alloc _⟩
  subst h0
  obtain ⟨g1, g2, g3, g4, g5⟩ := head_sum her
  obtain ⟨ws, rfl, h3, h4⟩ := head_in her
  have hs := head_size her
  have hws : ws.length ≤ 98304 := by
    rcases HP.out with ⟨_, hl⟩ | ⟨b, A, cap, ws', _, hl, hb⟩
    · cases hl
    · injection hl with hl; rw [hl]; exact hb.len
  rw [hh] at g1 g2 g3 g4 g5 h4 hs
  have HR : Hid (placeE (some ws) i k raw = (if 0 ≤ k ∧ k < placeN h raw then 0 else 1) ∧ placeZ (some ws) i k raw = if 0 ≤ k ∧ k < placeN h raw then i + 1 + placeO h raw + k else 0) := Lib.hid (by
    have e1 : placeE (some ws) i k raw = (if 0 ≤ k ∧ k < placeN h raw then 0 else 1) := by rw [placeE, if_pos HE.out, HH.out]
    refine ⟨e1, ?_⟩
    rw [placeZ, e1, HH.out]
    by_cases hk : 0 ≤ k ∧ k < placeN h raw
    · rw [if_pos hk, if_pos hk, if_pos rfl]
    · rw [if_neg hk, if_neg hk, if_neg (by decide)])
  have HB := pers_new V #[.int .i64 h.k, .int .i64 h.f, .int .i64 h.r, .bool h.m, .int .i64 h.c] 47 _ rfl
  clear her hh
  go_enter Try.func155, Try.ntmps155
  go_wp2_with fail
  refine (ohead_is p (some ws) i h 0 HH.out HE.out V HP.out hi).mono ?_
  rintro e w1 ⟨rfl, hx⟩
  have HBH := pers_new w1 #[.int .i64 h.k, .int .i64 h.f, .int .i64 h.r, .bool h.m, .int .i64 h.c] 47 _ rfl
  have HX := Lib.hid (hx.alloc (.cells #[.int .i64 h.k, .int .i64 h.f, .int .i64 h.r, .bool h.m, .int .i64 h.c] 47))
  clear hx
  go_wp2_with fail
  generalize w1.alloc (.cells #[.int .i64 h.k, .int .i64 h.f, .int .i64 h.r, .bool h.m, .int .i64 h.c] 47) = W at *
  generalize w1.heap.size = X at *
  have g := HBH.cells
  have hxw := Ext.refl W
  (refine wp_region_ext (W := W) (by kernel_rfl) (by kernel_rfl) (by with_reducible assumption) ?_; (repeat (go_big_quiet_step (fail))); refine wpQuiet_nil ?_; intro w1 hx)
  obtain ⟨uq, rfl⟩ : ∃ u : ExtOf W, w1 = u.1 := ⟨⟨w1, hx⟩, rfl⟩
  clear hx hxw
  cases raw
  · simp only [placeN, placeO, Bool.false_eq_true, if_false, Int.add_zero] at HR
    by_cases h5 : k < 0
    · have d1 : decide (k < 0) = true := by simpa using h5
      rw [if_neg (by omega), if_neg (by omega)] at HR
      clear h5
      go_wp2_with fail
      go_ret2
      exact ⟨by rw [HR.out.1, HR.out.2]; rfl, HX.out.trans uq.2⟩
    have d1 : decide (k < 0) = false := by simpa using h5
    by_cases h6 : k < h.f
    · have d2 : decide (h.f ≤ k) = false := by simp; omega
      rw [if_pos (by omega), if_pos (by omega)] at HR
      go_wp2_with fail
      go_ret2
      exact ⟨by rw [HR.out.1, HR.out.2]; rfl, HX.out.trans uq.2⟩
    · have d2 : decide (h.f ≤ k) = true := by simp; omega
      rw [if_neg (by omega), if_neg (by omega)] at HR
      clear h5 h6
      go_wp2_with fail
      go_ret2
      exact ⟨by rw [HR.out.1, HR.out.2]; rfl, HX.out.trans uq.2⟩
  · simp only [placeN, placeO, if_true] at HR
    go_wp2_with fail
    have hxw := uq.2
    (refine wp_region_ext (W := W) (by kernel_rfl) (by kernel_rfl) (by with_reducible assumption) ?_; (repeat (go_big_quiet_step (fail))); refine wpQuiet_nil ?_; intro w1 hx)
    obtain ⟨uq, rfl⟩ : ∃ u : ExtOf W, w1 = u.1 := ⟨⟨w1, hx⟩, rfl⟩
    clear hx hxw
    by_cases h5 : k < 0
    · have d1 : decide (k < 0) = true := by simpa using h5
      rw [if_neg (by omega), if_neg (by omega)] at HR
      clear h5
      go_wp2_with fail
      go_ret2
      exact ⟨by rw [HR.out.1, HR.out.2]; rfl, HX.out.trans uq.2⟩
    have d1 : decide (k < 0) = false := by simpa using h5
    by_cases h6 : k < h.r
    · have d2 : decide (h.r ≤ k) = false := by simp; omega
      rw [if_pos (by omega), if_pos (by omega)] at HR
      go_wp2_with fail
      go_ret2
      exact ⟨by rw [HR.out.1, HR.out.2]; rfl, HX.out.trans uq.2⟩
    · have d2 : decide (h.r ≤ k) = true := by simp; omega
      rw [if_neg (by omega), if_neg (by omega)] at HR
      clear h5 h6
      go_wp2_with fail
      go_ret2
      exact ⟨by rw [HR.out.1, HR.out.2]; rfl, HX.out.trans uq.2⟩
/-- The word of a field, or a raw word. -/
def fldZ (l : Option (List Int)) (i k : Int) (raw : Bool) : Int := if placeE l i k raw = 0 then rdA l (placeZ l i k raw) else 0
theorem oread_any (p : Option Addr) (l : Option (List Int)) (i k : Int) (raw : Bool) (V : World) (hp : ArP V p l) (hi : -9223372036854775808 ≤ i ∧ i ≤ 9223372036854775807) :
    Calls Try.prog 154 #[.pointer p, .int .i64 i, .int .i64 k, .bool raw] V fun e w' => e = .returned (.tuple #[.int .u64 (fldZ l i k raw), .int .i64 (placeE l i k raw)]) ∧ Ext V w' := by
  have HP := Lib.hid hp
  obtain ⟨er, her⟩ : ∃ e, placeE l i k raw = e := ⟨_, rfl⟩
  obtain ⟨z, hz⟩ : ∃ e, placeZ l i k raw = e := ⟨_, rfl⟩
  have Z := oplace_any p l i k raw V hp hi
  rw [her, hz] at Z
  rw [fldZ, her, hz]
  clear hp
  by_cases h0 : er = 0
  · subst h0
    have h1 := (place_in her).2.2.2.1
    rw [hz] at h1
    have H1 := Lib.hid h1
    clear her hz h1
    go_enter Try.func154, Try.ntmps154
    go_wp2_with fail
    refine Z.mono ?_
    clear Z
    rintro e w1 ⟨rfl, hx⟩
    go_wp2_with fail
    refine (aread_is p l z _ 0 rfl H1.out w1 (HP.out.ext hx)).mono ?_
    rintro e w2 ⟨rfl, hx2⟩
    go_wp2_with fail
    go_ret2
    exact ⟨rfl, hx.trans hx2⟩
  · have hne : (er != 0) = true := by simpa using h0
    rw [if_neg h0]
    clear her hz h0
    go_enter Try.func154, Try.ntmps154
    go_wp2_with fail
    refine Z.mono ?_
    clear Z
    rintro e w1 ⟨rfl, hx⟩
    go_wp2_with fail
    go_ret2
    exact ⟨rfl, hx⟩
theorem ofield_any (p : Option Addr) (l : Option (List Int)) (i k : Int) (V : World) (hp : ArP V p l) (hi : -9223372036854775808 ≤ i ∧ i ≤ 9223372036854775807) :
    Calls Try.prog 116 #[.pointer p, .int .i64 i, .int .i64 k] V fun e w' => e = .returned (.tuple #[.int .u64 (fldZ l i k false), .int .i64 (placeE l i k false)]) ∧ Ext V w' := by
  have Z := oread_any p l i k false V hp hi
  generalize fldZ l i k false = z at *
  generalize placeE l i k false = er at *
  go_enter Try.func116, Try.ntmps116
  go_wp2_with fail
  refine Z.mono ?_
  rintro e w1 ⟨rfl, hx⟩
  go_wp2_with fail
  go_ret2
  exact ⟨rfl, hx⟩
end Go.Proofs.Ytkcpfimhbogdcaa

/- The rules of a heap that read its numbers alone: state.config, words, top, slots; layout and roots at given values. -/
set_option linter.unusedSimpArgs false
set_option linter.unusedVariables false
namespace Go.Proofs.Ytkcpfimhbogdcaa
open Go.RowKit Go.Shelf

theorem check_is {s l t m : Int} {b : Bool} (h : cfgB s l t m = b) (w : World) : Calls Try.prog 76 #[.agg #[.int .i64 (s), .int .i64 (l), .int .i64 (t), .int .i64 (m)]] w fun e w' => e = .returned (.bool b) ∧ Ext w w' := by
  rw [← h]; exact check_any s l t m w
theorem lwords_is {s l t m n : Int} (h : wordsZ s l t m = n) (w : World) : Calls Try.prog 77 #[.agg #[.int .i64 (s), .int .i64 (l), .int .i64 (t), .int .i64 (m)]] w fun e w' => e = .returned (.int .i64 n) ∧ Ext w w' := by
  rw [← h]; exact words_any s l t m w
theorem lfrom_is {s l t m x y : Int} {b : Bool} (h1 : halfA s l t m b = x) (h2 : halfS s l t m = y) (w : World) : Calls Try.prog 134 #[.agg #[.int .i64 (s), .int .i64 (l), .int .i64 (t), .int .i64 (m)], .bool b] w fun e w' => e = .returned (.agg #[.int .i64 (x), .int .i64 (y)]) ∧ Ext w w' := by
  rw [← h1, ← h2]; exact from_any s l t m b w
theorem llarge_is {s l t m x y : Int} (h1 : largeA s l t m = x) (h2 : largeS s l t m = y) (w : World) : Calls Try.prog 78 #[.agg #[.int .i64 (s), .int .i64 (l), .int .i64 (t), .int .i64 (m)]] w fun e w' => e = .returned (.agg #[.int .i64 (x), .int .i64 (y)]) ∧ Ext w w' := by
  rw [← h1, ← h2]; exact large_any s l t m w
theorem lsmall_is {s l t m x : Int} {b : Bool} (h : smallB s l t m x = b) (w : World) : Calls Try.prog 178 #[.agg #[.int .i64 (s), .int .i64 (l), .int .i64 (t), .int .i64 (m)], .int .i64 x] w fun e w' => e = .returned (.bool b) ∧ Ext w w' := by
  rw [← h]; exact small_any s l t m x w
theorem rtright_is (A : Option Addr) (cap : Nat) (sl : List (Bool × Int × Int)) (n : Int) (b : Bool) (h : slotsB sl n = b) (V : World) (hl : SlotsAt V A sl) (hlen : sl.length ≤ 9223372036854775807) (hbd : ∀ x ∈ sl, 0 ≤ x.2.2 ∧ x.2.2 < 18446744073709551616) :
    Calls Try.prog 179 #[.slice A sl.length cap, .int .i64 n] V fun e w' => e = .returned (.bool b) ∧ Ext V w' := by
  rw [← h]; exact rtright_any A cap sl n V hl hlen hbd
theorem half_bd (s l t m : Int) (b : Bool) : 0 ≤ halfA s l t m b ∧ halfA s l t m b ≤ 32768 ∧ 0 ≤ halfS s l t m ∧ halfS s l t m ≤ 32768 := by
  unfold halfA halfS
  cases h : cfgB s l t m
  · simp
  · have := cfg_bd h
    cases b <;> simp <;> omega
/-- Is the top within the half where small objects are? -/
def topB (c0 c1 c2 c3 : Int) (sn : Bool) (top : Int) : Bool := decide (halfA c0 c1 c2 c3 sn ≤ top ∧ top ≤ halfA c0 c1 c2 c3 sn + halfS c0 c1 c2 c3)
section
variable {c0 c1 c2 c3 : Int} {sn : Bool} {wA : Option Addr} {ws : List Int} {wc : Nat} {top : Int} {tA : Option Addr} {tb : List (Int × Int)} {tc : Nat} {fA : Option Addr} {fr : List (Int × Int)} {fc : Nat} {sA : Option Addr} {sl : List (Bool × Int × Int)} {sc : Nat}
variable {p sm m : Value} {V : World} {L : Nat}
set_option maxRecDepth 100000
set_option maxHeartbeats 2000000
theorem stconfig_any (hL : Pers V (fun w => w.heap[L]? = some (.cells #[.int .i64 c0, .int .i64 c1, .int .i64 c2, .int .i64 c3, .bool sn, .slice wA ws.length wc, .int .i64 top, .slice tA tb.length tc, .slice fA fr.length fc, .slice sA sl.length sc, p, sm, m] 142 (0, 0)))) :
    Calls Try.prog 132 #[.pointer (some ⟨L, 0, none⟩)] V fun e w' => e = .returned (.bool (cfgB c0 c1 c2 c3)) ∧ Ext V w' := by
  obtain ⟨b, hb⟩ : ∃ b, cfgB c0 c1 c2 c3 = b := ⟨_, rfl⟩
  have HB := Lib.hid hb
  rw [hb]
  have g := hL.cells
  clear hb
  refine at_baseC fun uq => ?_
  go_enter Try.func132, Try.ntmps132
  go_wp2_with fail
  (refine (check_is HB.out _).mono ?_; rintro e wq ⟨rfl, hx⟩; replace hx := Ext.trans (a := V) (by repeat (first | (with_reducible exact Ext.refl _) | (with_reducible exact ExtOf.ext _) | (with_reducible assumption) | (with_reducible refine Ext.drew ?_) | (with_reducible refine Ext.alloc ?_ _))) hx; obtain ⟨uq, rfl⟩ : ∃ u : ExtOf V, wq = u.1 := ⟨⟨wq, hx⟩, rfl⟩; clear hx; go_wp2_with fail)
  go_ret
  exact ⟨rfl, ExtOf.ext _⟩
theorem stwords_any (hL : Pers V (fun w => w.heap[L]? = some (.cells #[.int .i64 c0, .int .i64 c1, .int .i64 c2, .int .i64 c3, .bool sn, .slice wA ws.length wc, .int .i64 top, .slice tA tb.length tc, .slice fA fr.length fc, .slice sA sl.length sc, p, sm, m] 142 (0, 0)))) (hlen : ws.length ≤ 9223372036854775807) :
    Calls Try.prog 163 #[.pointer (some ⟨L, 0, none⟩)] V fun e w' => e = .returned (.bool (decide ((ws.length : Int) = wordsZ c0 c1 c2 c3))) ∧ Ext V w' := by
  obtain ⟨n, hn⟩ : ∃ b, wordsZ c0 c1 c2 c3 = b := ⟨_, rfl⟩
  have HN := Lib.hid hn
  rw [hn]
  obtain ⟨b, hb⟩ : ∃ b, ((ws.length : Int) == n) = b := ⟨_, rfl⟩
  have HR : Hid (decide ((ws.length : Int) = n) = b) := Lib.hid (by rw [← hb]; exact Bool.eq_iff_iff.2 (by simp))
  have g := hL.cells
  clear hn
  refine at_baseC fun uq => ?_
  go_enter Try.func163, Try.ntmps163
  go_wp2_with fail
  have hu := uq.2
  (refine wp_region_ext (W := V) (by kernel_rfl) (by kernel_rfl) (by with_reducible assumption) ?_; (repeat (go_big_quiet_step (first | (go_at_call 77; with_reducible exact Calls.ext_of (lwords_is HN.out _))))); refine wpQuiet_nil ?_; intro w1 hx)
  (obtain ⟨uq, rfl⟩ : ∃ u : ExtOf V, w1 = u.1 := ⟨⟨w1, hx⟩, rfl⟩; clear hx; go_wp2_with fail)
  go_ret
  exact ⟨ret_bool HR.out.symm, ExtOf.ext _⟩
theorem sttop_any (hL : Pers V (fun w => w.heap[L]? = some (.cells #[.int .i64 c0, .int .i64 c1, .int .i64 c2, .int .i64 c3, .bool sn, .slice wA ws.length wc, .int .i64 top, .slice tA tb.length tc, .slice fA fr.length fc, .slice sA sl.length sc, p, sm, m] 142 (0, 0)))) :
    Calls Try.prog 133 #[.pointer (some ⟨L, 0, none⟩)] V fun e w' => e = .returned (.bool (topB c0 c1 c2 c3 sn top)) ∧ Ext V w' := by
  obtain ⟨a, ha⟩ : ∃ b, halfA c0 c1 c2 c3 sn = b := ⟨_, rfl⟩
  obtain ⟨n, hn⟩ : ∃ b, halfS c0 c1 c2 c3 = b := ⟨_, rfl⟩
  obtain ⟨b1, b2, b3, b4⟩ := half_bd c0 c1 c2 c3 sn
  rw [ha] at b1 b2
  rw [hn] at b3 b4
  have HA := Lib.hid ha
  have HN := Lib.hid hn
  have HT : Hid (topB c0 c1 c2 c3 sn top = decide (a ≤ top ∧ top ≤ a + n)) := Lib.hid (by rw [topB, ha, hn])
  have hw : wrap64 (a + n) = a + n := IntWalk.wrap64_in _ ⟨by omega, by omega⟩
  have HW := Lib.hid hw
  have g := hL.cells
  clear ha hn hw
  refine at_baseC fun uq => ?_
  go_enter Try.func133, Try.ntmps133
  go_wp2_with fail
  have hu := uq.2
  refine wp_norm (Behind fun a' w' => Ext V w' ∧ ∃ X, Hid (w'.heap[X]? = some (.cells #[.int .i64 a, .int .i64 n] 23 (0, 0))) ∧ a' = { tmps := #[.pointer (some ⟨L, 0, none⟩), undef, .bool false, .pointer (some ⟨X, 0, none⟩), .pointer (some ⟨L, 0, none⟩), .pointer (some ⟨L, 0, none⟩), .pointer (some ⟨L, 0, none⟩), .pointer (some ⟨L, 0, none⟩), .agg #[.int .i64 (c0), .int .i64 (c1), .int .i64 (c2), .int .i64 (c3)], .pointer (some ⟨L, 0, none⟩), .pointer (some ⟨L, 0, none⟩), .pointer (some ⟨L, 0, none⟩), .pointer (some ⟨L, 4, none⟩), .bool sn, .agg #[.int .i64 (a), .int .i64 (n)], undef, undef, undef, undef, undef, undef, undef, undef, undef, undef, undef, undef, undef, undef, undef, undef, undef, undef, undef, undef, undef], defers := [] }) ?_ ?_
  · (refine wp_region_fork (W := V) [(0, true), (1, true), (2, true), (3, true), (4, true), (5, true), (6, true), (7, true), (8, true), (9, true)] 1 [(10, [11]), (11, [10])] [12] (by kernel_rfl) (by kernel_rfl) (by intro c a d v w h; cases d <;> first | exact h | cases h.1) (by with_reducible assumption) ?_; simp only [opsOf, List.map_cons, List.map_nil, List.getD_cons_zero, List.getD_cons_succ]; (repeat (go_big_quiet_step (fail))); refine wpQuiet_nil ?_; refine all_two ?_ ?_ <;> (simp only [opsOf, List.map_cons, List.map_nil, List.getD_cons_zero, List.getD_cons_succ]; intro w1 hx))
    · (refine mid_step (by rfl) ?_; intro K hK; go_simp)
      refine (lfrom_is HA.out HN.out _).mono ?_
      rintro e w2 ⟨rfl, hx2⟩
      refine hK _ _ (hx.trans hx2) ?_
      clear hK K
      (refine mid_step (by rfl) ?_; intro K hK; go_simp)
      refine hK _ _ ((hx.trans hx2).alloc _) ?_
      clear hK K
      refine mid_nil ?_
      go_wp2_with fail
      exact Behind.mk ⟨(hx.trans hx2).alloc _, w2.heap.size, Lib.hid (World.alloc_heap_new _ _), rfl⟩
    · (refine mid_step (by rfl) ?_; intro K hK; go_simp)
      refine hK _ _ (hx.alloc _) ?_
      clear hK K
      have hb := blk_new w1 #[.int .i64 0, .int .i64 0] 23 _ rfl
      have hx1 := hx.alloc (.cells #[.int .i64 0, .int .i64 0] 23)
      generalize w1.alloc (.cells #[.int .i64 0, .int .i64 0] 23) = w3 at *
      have hX : V.heap.size ≤ w1.heap.size := hx.size
      generalize w1.heap.size = X at *
      (refine mid_step (by rfl) ?_; intro K hK; go_simp)
      refine (lfrom_is HA.out HN.out _).mono ?_
      rintro e w2 ⟨rfl, hx2⟩
      refine hK _ _ (hx1.trans hx2) ?_
      clear hK K
      have hb2 := (hx2.block (lt_of_heap hb)).trans hb
      have g3 : ∀ i, w2.cell? ⟨X, i, none⟩ = (#[.int .i64 0, .int .i64 0] : Array Value)[i]? := fun i => by simp [World.cell?, hb2]
      have g4 : ∀ i, w2.frozen? ⟨X, i, none⟩ = false := fun i => by simp [World.frozen?, hb2]
      refine mid_nil ?_
      go_wp2_with fail
      exact Behind.mk ⟨((hx1.trans hx2).setCell hX _).setCell hX _, X, Lib.hid (blk_set (blk_set hb2 _) _), rfl⟩
  intro a' W hbeh
  obtain ⟨hx2, X, hS0, rfl⟩ := hbeh.out
  clear hbeh
  have hS := pers_blk hS0.out
  have HX := Lib.hid hx2
  replace hL := hL.re hx2
  clear hx2 g hu hS0
  go_wp2_with fail
  have g1 := hL.cells
  have g2 := hS.cells
  have hxw := Ext.refl W
  have hw := HW.out
  by_cases h1 : a ≤ top
  · have d1 : decide (a ≤ top) = true := by simpa using h1
    obtain ⟨b, hb⟩ : ∃ b, decide (top ≤ a + n) = b := ⟨_, rfl⟩
    have HR : Hid (topB c0 c1 c2 c3 sn top = b) := Lib.hid (by rw [HT.out, ← hb]; simp [h1])
    clear h1
    (refine wp_region_ext (W := W) (by kernel_rfl) (by kernel_rfl) (by with_reducible assumption) ?_; (repeat (go_big_quiet_step (fail))); refine wpQuiet_nil ?_; intro w1 hx)
    (obtain ⟨uq, rfl⟩ : ∃ u : ExtOf W, w1 = u.1 := ⟨⟨w1, hx⟩, rfl⟩; clear hx; go_wp2_with fail)
    go_ret
    exact ⟨ret_bool HR.out.symm, HX.out.trans (ExtOf.ext _)⟩
  · have d1 : decide (a ≤ top) = false := by simpa using h1
    have HR : Hid (topB c0 c1 c2 c3 sn top = false) := Lib.hid (by rw [HT.out]; simp [h1])
    clear h1
    (refine wp_region_ext (W := W) (by kernel_rfl) (by kernel_rfl) (by with_reducible assumption) ?_; (repeat (go_big_quiet_step (fail))); refine wpQuiet_nil ?_; intro w1 hx)
    (obtain ⟨uq, rfl⟩ : ∃ u : ExtOf W, w1 = u.1 := ⟨⟨w1, hx⟩, rfl⟩; clear hx; go_wp2_with fail)
    go_ret
    exact ⟨ret_bool HR.out.symm, HX.out.trans (ExtOf.ext _)⟩
theorem stslots_any (hL : Pers V (fun w => w.heap[L]? = some (.cells #[.int .i64 c0, .int .i64 c1, .int .i64 c2, .int .i64 c3, .bool sn, .slice wA ws.length wc, .int .i64 top, .slice tA tb.length tc, .slice fA fr.length fc, .slice sA sl.length sc, p, sm, m] 142 (0, 0)))) (HS : Pers V (fun w => SlotsAt w sA sl)) (hlen : sl.length ≤ 9223372036854775807) (hbd : ∀ x ∈ sl, 0 ≤ x.2.2 ∧ x.2.2 < 18446744073709551616) :
    Calls Try.prog 167 #[.pointer (some ⟨L, 0, none⟩)] V fun e w' => e = .returned (.bool (slotsB sl c2)) ∧ Ext V w' := by
  obtain ⟨b, hb⟩ : ∃ b, slotsB sl c2 = b := ⟨_, rfl⟩
  have HB := Lib.hid hb
  have HBD := Lib.hid hbd
  rw [hb]
  have g := hL.cells
  clear hb hbd
  refine at_baseC fun uq => ?_
  go_enter Try.func167, Try.ntmps167
  go_wp2_with fail
  have hu := uq.2
  (refine wp_region_ext (W := V) (by kernel_rfl) (by kernel_rfl) (by with_reducible assumption) ?_; (repeat (go_big_quiet_step (first | (go_at_call 179; with_reducible exact Calls.ext_of (rtright_is sA sc sl c2 b HB.out _ (HS.at (by repeat (first | (with_reducible exact Ext.refl _) | (with_reducible exact ExtOf.ext _) | (with_reducible assumption) | (with_reducible refine Ext.drew ?_) | (with_reducible refine Ext.alloc ?_ _)))) hlen HBD.out))))); refine wpQuiet_nil ?_; intro w1 hx)
  (obtain ⟨uq, rfl⟩ : ∃ u : ExtOf V, w1 = u.1 := ⟨⟨w1, hx⟩, rfl⟩; clear hx; go_wp2_with fail)
  go_ret
  exact ⟨rfl, ExtOf.ext _⟩
end
/-- state.quiet. -/
def quietB (h : Hd) : Bool := !h.m && (h.c == 0)
set_option maxRecDepth 100000 in
theorem quiet_is (h : Hd) (b : Bool) (hb : quietB h = b) (V : World) : Calls Try.prog 177 #[.agg #[.int .i64 h.k, .int .i64 h.f, .int .i64 h.r, .bool h.m, .int .i64 h.c]] V fun e w' => e = .returned (.bool b) ∧ Ext V w' := by
  obtain ⟨hk, hf, hr, m, c⟩ := h
  subst hb
  obtain ⟨b, hb⟩ : ∃ b, (c == 0) = b := ⟨_, rfl⟩
  cases m
  · have HR : Hid (quietB ⟨hk, hf, hr, false, c⟩ = b) := Lib.hid (by simp [quietB, ← hb])
    go_enter Try.func177, Try.ntmps177
    go_wp2_with fail
    go_ret
    exact ⟨ret_bool HR.out.symm, (Ext.refl V).alloc _⟩
  · have HR : Hid (quietB ⟨hk, hf, hr, true, c⟩ = false) := Lib.hid (by simp [quietB])
    go_enter Try.func177, Try.ntmps177
    go_wp2_with fail
    go_ret
    exact ⟨ret_bool HR.out.symm, (Ext.refl V).alloc _⟩
end Go.Proofs.Ytkcpfimhbogdcaa

/- Is a number among some: slices.Index, Contains, walk.Starts, and the references' Starts and Ints. -/
set_option linter.unusedSimpArgs false
set_option linter.unusedVariables false
namespace Go.Proofs.Ytkcpfimhbogdcaa
open Go.RowKit Go.Shelf

set_option maxRecDepth 100000
set_option maxHeartbeats 4000000
/-- A number stands in a row, or in none of its places. -/
theorem mem_at {zs : List Int} {k : Nat} (hk : k < zs.length) {v : Int} (h : v = zs.getD k 0) : decide (v ∈ zs) = true := by
  rw [decide_eq_true_eq, h, List.getD_eq_getElem?_getD, List.getElem?_eq_getElem hk]
  exact List.getElem_mem hk
theorem mem_none {zs : List Int} {v : Int} (h : ∀ i, i < zs.length → v ≠ zs.getD i 0) : decide (v ∈ zs) = false := by
  rw [decide_eq_false_iff_not]
  intro hm
  obtain ⟨i, hi, he⟩ := List.getElem_of_mem hm
  exact h i hi (by rw [List.getD_eq_getElem?_getD, List.getElem?_eq_getElem hi]; exact he.symm)
theorem indexI_any (A : Option Addr) (cap : Nat) (zs : List Int) (v : Int) (W : World) (hlen : zs.length ≤ 9223372036854775807) (hl : IntsAt W A zs) :
    Calls Try.prog 124 #[.slice A zs.length cap, .int .i64 v] W fun e w' => (∃ r : Int, e = .returned (.int .i64 r) ∧ decide (0 ≤ r) = decide (v ∈ zs)) ∧ Ext W w' := by
  have HL := Lib.hid hl
  clear hl
  go_enter Try.func124, Try.ntmps124
  go_wp2_with fail
  go_loopw [5, 8] (fun _ i wr => ∃ k : Nat, k ≤ zs.length ∧ i = .int .i64 k ∧ Ext W wr ∧ Hid (∀ i, i < k → v ≠ zs.getD i 0)) (fun _ i _ => zs.length - (intOf i).toNat)
  case atStart => exact ⟨0, by omega, rfl, Ext.refl _, Lib.hid (by omega)⟩
  case round =>
    obtain ⟨k, hk, rfl, hxr, hq⟩ := hrel
    by_cases hlt : k < zs.length
    rotate_left
    · have HR := Lib.hid (mem_none fun i hi => hq.out i (by omega))
      clear hq
      go_wp2_with fail
      go_ret
      exact ⟨⟨-1, rfl, by rw [HR.out]; rfl⟩, hxr⟩
    obtain ⟨lb, off, rfl, hc⟩ := HL.out.get (by omega)
    have c1 := hxr.cell (ints_cell hc hlt)
    have HS := Lib.hid (fun (h : v ≠ zs.getD k 0) => (fun i (hi : i < k + 1) => by
      rcases Nat.lt_or_ge i k with h' | h'
      · exact hq.out i h'
      · obtain rfl : i = k := by omega
        exact h : ∀ i, i < k + 1 → v ≠ zs.getD i 0))
    have HD := Lib.hid (fun (h : v = zs.getD k 0) => mem_at hlt h)
    clear hc HL hq
    generalize zs.getD k 0 = x at *
    have ib1 : (k : Int) < (zs.length : Int) := by omega
    by_cases he : v = x
    · have HE := Lib.hid (HD.out he)
      have hb : (v == x) = true := by rw [beq_iff_eq]; exact he
      clear he HD HS
      go_wp2_with fail
      go_ret
      exact ⟨⟨k, rfl, by rw [HE.out]; simp⟩, hxr⟩
    · have hb : (v == x) = false := by rw [beq_eq_false_iff_ne]; exact he
      have HE := Lib.hid (HS.out he)
      clear he HD HS
      go_wp2_with fail
      go_roundw
      case rel => exact ⟨k + 1, by omega, by go_num, hxr, HE⟩
      case measure => simp [intOf]; omega
theorem containsI_any (A : Option Addr) (cap : Nat) (zs : List Int) (v : Int) (W : World) (hlen : zs.length ≤ 9223372036854775807) (hl : IntsAt W A zs) :
    Calls Try.prog 71 #[.slice A zs.length cap, .int .i64 v] W fun e w' => e = .returned (.bool (decide (v ∈ zs))) ∧ Ext W w' := by
  have HL := Lib.hid hl
  clear hl
  go_enter Try.func71, Try.ntmps71
  go_wp2_with fail
  refine (indexI_any A cap zs v W hlen HL.out).mono ?_
  rintro e w1 ⟨⟨r, rfl, hr⟩, hx⟩
  have HR := Lib.hid hr
  clear hr
  go_wp2_with fail
  go_ret
  exact ⟨ret_bool HR.out, hx⟩
theorem starts_any (A : Option Addr) (cap : Nat) (zs : List Int) (v : Int) (W : World) (hlen : zs.length ≤ 9223372036854775807) (hl : IntsAt W A zs) :
    Calls Try.prog 22 #[.slice A zs.length cap, .int .i64 v] W fun e w' => e = .returned (.bool (decide (v ∈ zs))) ∧ Ext W w' := by
  have HL := Lib.hid hl
  clear hl
  go_enter Try.func22, Try.ntmps22
  go_wp2_with fail
  refine (containsI_any A cap zs v W hlen HL.out).mono ?_
  rintro e w1 ⟨rfl, hx⟩
  go_wp2_with fail
  go_ret
  exact ⟨rfl, hx⟩
theorem refstarts_any (A : Option Addr) (cap : Nat) (zs : List Int) (v : Int) (W : World) (hlen : zs.length ≤ 9223372036854775807) (hl : IntsAt W A zs) :
    Calls Try.prog 23 #[.slice A zs.length cap, .int .i64 v] W fun e w' => e = .returned (.bool (decide (v ∈ zs))) ∧ Ext W w' := by
  have HL := Lib.hid hl
  clear hl
  go_enter Try.func23, Try.ntmps23
  go_wp2_with fail
  go_loopw [5] (fun i wr => ∃ k : Nat, k ≤ zs.length ∧ i = .int .i64 k ∧ Ext W wr ∧ Hid (∀ i, i < k → v ≠ zs.getD i 0)) (fun i _ => zs.length - (intOf i).toNat)
  case atStart => exact ⟨0, by omega, rfl, Ext.refl _, Lib.hid (by omega)⟩
  case round =>
    obtain ⟨k, hk, rfl, hxr, hq⟩ := hrel
    by_cases hlt : k < zs.length
    rotate_left
    · have HR := Lib.hid (mem_none fun i hi => hq.out i (by omega))
      clear hq
      go_wp2_with fail
      go_ret
      exact ⟨ret_bool HR.out.symm, hxr⟩
    obtain ⟨lb, off, rfl, hc⟩ := HL.out.get (by omega)
    have c1 := hxr.cell (ints_cell hc hlt)
    have HS := Lib.hid (fun (h : v ≠ zs.getD k 0) => (fun i (hi : i < k + 1) => by
      rcases Nat.lt_or_ge i k with h' | h'
      · exact hq.out i h'
      · obtain rfl : i = k := by omega
        exact h : ∀ i, i < k + 1 → v ≠ zs.getD i 0))
    have HD := Lib.hid (fun (h : v = zs.getD k 0) => mem_at hlt h)
    clear hc HL hq
    generalize zs.getD k 0 = x at *
    have ib1 : (k : Int) < (zs.length : Int) := by omega
    by_cases he : v = x
    · have HE := Lib.hid (HD.out he)
      have hb : (x == v) = true := by rw [beq_iff_eq]; exact he.symm
      clear he HD HS
      go_wp2_with fail
      go_ret
      exact ⟨ret_bool HE.out.symm, hxr⟩
    · have hb : (x == v) = false := by rw [beq_eq_false_iff_ne]; exact fun h => he h.symm
      have HE := Lib.hid (HS.out he)
      clear he HD HS
      go_wp2_with fail
      go_roundw
      case rel => exact ⟨k + 1, by omega, by go_num, hxr, HE⟩
      case measure => simp [intOf]; omega
end Go.Proofs.Ytkcpfimhbogdcaa

/- awake of the laws of walks, walked. -/
set_option linter.unusedSimpArgs false
set_option linter.unusedVariables false
namespace Go.Proofs.Ytkcpfimhbogdcaa
open Go.RowKit Go.Shelf

def aw1 : List Int := putL (List.replicate 12 0) 4 ⟨0, 2, 0, false, 0⟩
def aw2 : List Int := putL aw1 7 ⟨0, 0, 1, false, 0⟩
theorem aw_vals : putE (List.replicate 12 0) 4 ⟨0, 2, 0, false, 0⟩ = 0 ∧ putE aw1 7 ⟨0, 0, 1, false, 0⟩ = 0 ∧ listA (some aw2) 4 8 9 = [4, 7] ∧ stopE (some aw2) 4 8 9 = 0 ∧ wsumA (some aw2) 4 8 9 = (2, 5, 2) ∧ stopA (some aw2) 4 8 8 = 7 ∧ stopE (some aw2) 4 8 8 = 2 ∧ stopA (some aw2) 4 8 10 = 9 ∧ stopE (some aw2) 4 8 10 = 3 := by
  refine ⟨?_, ?_, ?_, ?_, ?_, ?_, ?_, ?_, ?_⟩ <;> decide +kernel
theorem sums_is (p : Option Addr) (l : Option (List Int)) (a s top x y z er : Int) (h1 : wsumA l a s top = (x, y, z)) (h2 : stopE l a s top = er) (V : World) (hp : ArP V p l) :
    Calls Try.prog 19 #[.pointer p, .agg #[.int .i64 (a), .int .i64 (s)], .int .i64 top] V fun e w' => e = .returned (.tuple #[.int .i64 x, .int .i64 y, .int .i64 z, .int .i64 er]) ∧ Ext V w' := by
  have := wsums_any p l a s top V hp
  rwa [h1, h2] at this
theorem list_is (p : Option Addr) (l : Option (List Int)) (a s top er : Int) (zs : List Int) (h1 : listA l a s top = zs) (h2 : stopE l a s top = er) (V : World) (hp : ArP V p l) :
    Calls Try.prog 13 #[.pointer p, .agg #[.int .i64 (a), .int .i64 (s)], .int .i64 top] V (RetIE V zs er) := by
  have := list_any p l a s top V hp
  rwa [h1, h2] at this
set_option maxRecDepth 100000
set_option maxHeartbeats 1000000
theorem awake09_any (V : World) : Calls Try.prog 16 #[] V fun e w' => e = .returned (.bool true) ∧ Ext V w' := by
  obtain ⟨v1, v2, v3, v4, v5, v6, v7, v8, v9⟩ := aw_vals
  have H1 := Lib.hid v1
  have H2 := Lib.hid v2
  have H3 := Lib.hid v3
  have H4 := Lib.hid v4
  have H5 := Lib.hid v5
  have H6 := Lib.hid v6
  have H7 := Lib.hid v7
  have H8 := Lib.hid v8
  have H9 := Lib.hid v9
  clear v1 v2 v3 v4 v5 v6 v7 v8 v9
  go_enter Try.func16, Try.ntmps16
  go_wp2_with fail
  refine (anew_any 12 (by decide) (by decide) V).mono ?_
  rintro e w1 ⟨⟨b, A, cap, rfl, hA⟩, hx⟩
  have HA := Lib.hid (show ArO V.heap.size w1 b A cap (List.replicate 12 0) from hA)
  have HX := Lib.hid hx
  clear hA hx
  go_wp2_with fail
  have Z := put_any b A cap (List.replicate 12 0) 4 ⟨0, 2, 0, false, 0⟩ V.heap.size w1 HA.out (by decide)
  rw [H1.out] at Z
  refine Z.mono ?_
  clear Z
  rintro e w2 ⟨rfl, ha, hg⟩
  have HA2 := Lib.hid (show ArO V.heap.size w2 b A cap aw1 from ha)
  have HX2 : Hid (Ext V w2) := Lib.hid (Own.below HA.out.own HX.out hg HX.out.size)
  clear ha hg HX
  go_wp2_with fail
  have Z := put_any b A cap aw1 7 ⟨0, 0, 1, false, 0⟩ V.heap.size w2 HA2.out (by decide)
  rw [H2.out] at Z
  refine Z.mono ?_
  clear Z
  rintro e w3 ⟨rfl, ha, hg⟩
  have HA3 := Lib.hid (show ArO V.heap.size w3 b A cap aw2 from ha)
  have HX3 : Hid (Ext V w3) := Lib.hid (Own.below HA2.out.own HX2.out hg HX2.out.size)
  clear ha hg HX2 HA2 HA
  go_wp2_with fail
  have hb5 := blk_new w3 #[.int .i64 4, .int .i64 8] 23 _ rfl
  have HX4 := Lib.hid (HX3.out.alloc (.cells #[.int .i64 4, .int .i64 8] 23))
  have HA4 := Lib.hid (HA3.out.ext ((Ext.refl w3).alloc (.cells #[.int .i64 4, .int .i64 8] 23)))
  clear HX3 HA3
  generalize w3.alloc (.cells #[.int .i64 4, .int .i64 8] 23) = w4 at *
  generalize w3.heap.size = S at *
  have HB5 := Lib.hid hb5
  clear hb5
  refine (list_is (some ⟨b, 0, none⟩) (some aw2) 4 8 9 0 [4, 7] H3.out H4.out w4 HA4.out.p).mono ?_
  rintro e w5 ⟨LA, lc, rfl, hl, hx⟩
  have HL5 := Lib.hid hl
  have HX5 := Lib.hid (HX4.out.trans hx)
  have HA5 := Lib.hid (HA4.out.ext hx)
  have HB6 := Lib.hid ((hx.block (lt_of_heap HB5.out)).trans HB5.out)
  clear hl hx HX4 HA4 HB5
  have g0 : w5.cell? ⟨S, 0, none⟩ = some (.int .i64 4) := by simp [World.cell?, HB6.out]
  have g1 : w5.cell? ⟨S, 1, none⟩ = some (.int .i64 8) := by simp [World.cell?, HB6.out]
  go_wp2_with fail
  refine (sums_is (some ⟨b, 0, none⟩) (some aw2) 4 8 9 2 5 2 0 H5.out H4.out w5 HA5.out.p).mono ?_
  rintro e w6 ⟨rfl, hx⟩
  have HX6 := Lib.hid (HX5.out.trans hx)
  have HA6 := Lib.hid (HA5.out.ext hx)
  have HL6 := Lib.hid (HL5.out.ext hx)
  have HB7 := Lib.hid ((hx.block (lt_of_heap HB6.out)).trans HB6.out)
  clear hx HX5 HA5 HL5 HB6 g0 g1
  have g0 : w6.cell? ⟨S, 0, none⟩ = some (.int .i64 4) := by simp [World.cell?, HB7.out]
  have g1 : w6.cell? ⟨S, 1, none⟩ = some (.int .i64 8) := by simp [World.cell?, HB7.out]
  go_wp2_with fail
  refine (stop_is (some ⟨b, 0, none⟩) (some aw2) 4 8 8 7 2 H6.out H7.out w6 HA6.out.p).mono ?_
  rintro e w7 ⟨rfl, hx⟩
  have HX7 := Lib.hid (HX6.out.trans hx)
  have HA7 := Lib.hid (HA6.out.ext hx)
  have HL7 := Lib.hid (HL6.out.ext hx)
  have HB8 := Lib.hid ((hx.block (lt_of_heap HB7.out)).trans HB7.out)
  clear hx HX6 HA6 HL6 HB7 g0 g1
  have g0 : w7.cell? ⟨S, 0, none⟩ = some (.int .i64 4) := by simp [World.cell?, HB8.out]
  have g1 : w7.cell? ⟨S, 1, none⟩ = some (.int .i64 8) := by simp [World.cell?, HB8.out]
  go_wp2_with fail
  refine (stop_is (some ⟨b, 0, none⟩) (some aw2) 4 8 10 9 3 H8.out H9.out w7 HA7.out.p).mono ?_
  rintro e w8 ⟨rfl, hx⟩
  have HX8 := Lib.hid (HX7.out.trans hx)
  have HL8 := Lib.hid (HL7.out.ext hx)
  clear hx HX7 HA7 HL7 HB8 g0 g1
  obtain ⟨lb, off, rfl, hc⟩ := HL8.out.get (by decide)
  have c0 := ints_cell hc (k := 0) (by decide)
  have c1 := ints_cell hc (k := 1) (by decide)
  have HI : Hid (∀ v r, decide (v ∈ ([4, 7] : List Int)) = r → ∀ W, Ext w8 W → Calls Try.prog 22 #[.slice (some ⟨lb, off, none⟩) 2 lc, .int .i64 v] W fun e w' => e = .returned (.bool r) ∧ Ext W w') := Lib.hid (fun v r hr W hW => by
    rw [← hr]; exact starts_any _ lc [4, 7] v W (by decide) (HL8.out.ext hW))
  simp only [List.getD_cons_zero, List.getD_cons_succ, Nat.add_zero] at c0 c1
  clear hc
  go_wp2_with fail
  have Z := HI.out 7 true (by decide) w8 (Ext.refl _)
  refine Z.mono ?_
  clear Z
  rintro e w9 ⟨rfl, hx⟩
  have HX9 := Lib.hid hx
  clear hx
  go_wp2_with fail
  have Z := HI.out 8 false (by decide) w9 HX9.out
  refine Z.mono ?_
  clear Z
  rintro e w10 ⟨rfl, hx⟩
  have HX10 := Lib.hid (HX8.out.trans (HX9.out.trans hx))
  clear hx
  go_wp2_with fail
  go_ret
  exact ⟨rfl, HX10.out⟩
end Go.Proofs.Ytkcpfimhbogdcaa

/- The law WalkNobody. -/
set_option linter.unusedSimpArgs false
set_option linter.unusedVariables false
namespace Go.Proofs.Ytkcpfimhbogdcaa
open Go.RowKit Go.Shelf

/-- What the openers give. -/
abbrev IsSpan (v : Value) : Prop := ∃ a s : Int, v = .agg #[.int .i64 (a), .int .i64 (s)] ∧ (-9223372036854775808 ≤ a ∧ a ≤ 9223372036854775807) ∧ (-9223372036854775808 ≤ s ∧ s ≤ 9223372036854775807)
/-- Nobody's arena: where a walk ends, and why. -/
theorem nobody_bad {a s top : Int} (h : wkB a s top = false) : listA none a s top = [] ∧ stopE none a s top = 1 ∧ stopA none a s top = 0 := by
  have h1 : stopE none a s top = 1 := by rw [stopE, h]; rfl
  exact ⟨by rw [listA, h1]; rfl, h1, by rw [stopA, h]; rfl⟩
theorem nobody_at {a s : Int} (h : wkB a s a = true) : listA none a s a = [] ∧ stopE none a s a = 0 ∧ stopA none a s a = a := by
  have he := steps_end (l := none) (top := a) (i := a) (by omega)
  have h1 : lastS none a a = ⟨a, hd0, 0, true⟩ := by rw [lastS, he]; rfl
  have h2 : stopE none a s a = 0 := by rw [stopE, h, h1]; rfl
  exact ⟨by rw [listA, h2, he]; rfl, h2, by rw [stopA, h, h1]; rfl⟩
theorem nobody_on {a s top : Int} (h : wkB a s top = true) (hlt : a < top) : listA none a s top = [] ∧ stopE none a s top = 10 ∧ stopA none a s top = a := by
  have hw : wkE none top a = 10 := by
    have h1 : headE none a = 10 := by rw [headE]; rfl
    rw [wkE, h1]; rfl
  have he := steps_err (l := none) hlt (by rw [hw]; decide)
  have h1 : lastS none top a = ⟨a, hd0, 10, true⟩ := by rw [lastS, he, hw]; rfl
  have h2 : stopE none a s top = 10 := by rw [stopE, h, h1]; rfl
  exact ⟨by rw [listA, h2]; rfl, h2, by rw [stopA, h, h1]; rfl⟩
set_option maxRecDepth 100000
set_option maxHeartbeats 1000000
theorem walkNobody_any (a s top : Int) (V : World) (ha : -9223372036854775808 ≤ a ∧ a ≤ 9223372036854775807) (hs : -9223372036854775808 ≤ s ∧ s ≤ 9223372036854775807) :
    Calls Try.prog 3 #[.agg #[.int .i64 (a), .int .i64 (s)], .int .i64 top] V fun e w' => e = .returned (.bool true) ∧ Ext V w' := by
  obtain ⟨b, hb⟩ : ∃ b, mayB a s = b := ⟨_, rfl⟩
  have HB := Lib.hid hb
  obtain ⟨x, er, HL, HE, HA, HK⟩ : ∃ x er, Hid (listA none a s top = []) ∧ Hid (stopE none a s top = er) ∧ Hid (stopA none a s top = x) ∧ Hid ((wkB a s top = false ∧ x = 0 ∧ er = 1) ∨ (wkB a s top = true ∧ x = a ∧ ((top = a ∧ er = 0) ∨ (a < top ∧ er = 10)))) := by
    cases hk : wkB a s top
    · obtain ⟨h1, h2, h3⟩ := nobody_bad hk
      exact ⟨0, 1, Lib.hid h1, Lib.hid h2, Lib.hid h3, Lib.hid (.inl ⟨rfl, rfl, rfl⟩)⟩
    · have hk2 := hk
      simp only [wkB, Bool.and_eq_true, decide_eq_true_eq] at hk2
      by_cases ht : top = a
      · subst ht
        obtain ⟨h1, h2, h3⟩ := nobody_at hk
        exact ⟨top, 0, Lib.hid h1, Lib.hid h2, Lib.hid h3, Lib.hid (.inr ⟨rfl, rfl, .inl ⟨rfl, rfl⟩⟩)⟩
      · obtain ⟨h1, h2, h3⟩ := nobody_on hk (by omega)
        exact ⟨a, 10, Lib.hid h1, Lib.hid h2, Lib.hid h3, Lib.hid (.inr ⟨rfl, rfl, .inr ⟨by omega, rfl⟩⟩)⟩
  clear hb
  have hb5 := blk_new V #[.int .i64 a, .int .i64 s] 23 _ rfl
  have HX := Lib.hid ((Ext.refl V).alloc (.cells #[.int .i64 a, .int .i64 s] 23))
  have HB5 := Lib.hid hb5
  clear hb5
  go_enter Try.func3, Try.ntmps3
  go_wp2_with fail
  generalize V.alloc (.cells #[.int .i64 a, .int .i64 s] 23) = w4 at *
  generalize V.heap.size = S at *
  refine (list_is none none a s top er [] HL.out HE.out w4 (ArP.nil w4)).mono ?_
  rintro e w5 ⟨LA, lc, rfl, hl, hx⟩
  have HX5 := Lib.hid (HX.out.trans hx)
  have HB6 := Lib.hid ((hx.block (lt_of_heap HB5.out)).trans HB5.out)
  clear hl hx HX HB5
  have g0 : w5.cell? ⟨S, 0, none⟩ = some (.int .i64 a) := by simp [World.cell?, HB6.out]
  have g1 : w5.cell? ⟨S, 1, none⟩ = some (.int .i64 s) := by simp [World.cell?, HB6.out]
  go_wp2_with fail
  refine (stop_is none none a s top x er HA.out HE.out w5 (ArP.nil w5)).mono ?_
  rintro e w6 ⟨rfl, hx⟩
  have HX6 := Lib.hid (HX5.out.trans hx)
  have HB7 := Lib.hid ((hx.block (lt_of_heap HB6.out)).trans HB6.out)
  clear hx HX5 HB6 g0 g1
  have g0 : w6.cell? ⟨S, 0, none⟩ = some (.int .i64 a) := by simp [World.cell?, HB7.out]
  have g1 : w6.cell? ⟨S, 1, none⟩ = some (.int .i64 s) := by simp [World.cell?, HB7.out]
  go_wp2_with fail
  refine (mayS_is a s b HB.out w6).mono ?_
  rintro e w7 ⟨rfl, hx⟩
  have HX7 := Lib.hid (HX6.out.trans hx)
  have HB8 := Lib.hid ((hx.block (lt_of_heap HB7.out)).trans HB7.out)
  clear hx HX6 HB7 g0 g1
  have g0 : w7.cell? ⟨S, 0, none⟩ = some (.int .i64 a) := by simp [World.cell?, HB8.out]
  have g1 : w7.cell? ⟨S, 1, none⟩ = some (.int .i64 s) := by simp [World.cell?, HB8.out]
  rcases HK.out with ⟨hk, rfl, rfl⟩ | ⟨hk, rfl, hc⟩
  · -- no walk may be asked
    cases b
    · clear hk HK
      go_wp2_with fail
      refine (awake09_any w7).mono ?_
      rintro e w8 ⟨rfl, hx⟩
      have HX8 := Lib.hid (HX7.out.trans hx)
      clear hx
      go_wp2_with fail
      go_ret
      exact ⟨rfl, HX8.out⟩
    · obtain ⟨m1, m2, m3, m4⟩ := may_bd HB.out
      have hw : wrap64 (a + s) = a + s := IntWalk.wrap64_in _ ⟨by omega, by omega⟩
      by_cases h1 : top < a
      · have d1 : decide (top < a) = true := by simpa using h1
        clear hk HK
        go_wp2_with fail
        refine (awake09_any w7).mono ?_
        rintro e w8 ⟨rfl, hx⟩
        have HX8 := Lib.hid (HX7.out.trans hx)
        clear hx
        go_wp2_with fail
        go_ret
        exact ⟨rfl, HX8.out⟩
      · have d1 : decide (top < a) = false := by simpa using h1
        have d2 : decide (a + s < top) = true := by
          have := HB.out
          simp only [wkB, this, Bool.true_and, decide_eq_false_iff_not] at hk
          simp only [decide_eq_true_eq]
          omega
        clear hk HK
        go_wp2_with fail
        refine (awake09_any w7).mono ?_
        rintro e w8 ⟨rfl, hx⟩
        have HX8 := Lib.hid (HX7.out.trans hx)
        clear hx
        go_wp2_with fail
        go_ret
        exact ⟨rfl, HX8.out⟩
  · obtain rfl : b = true := by
      have := HB.out
      unfold wkB at hk
      rw [this] at hk
      cases b
      · simp at hk
      · rfl
    obtain ⟨m1, m2, m3, m4⟩ := may_bd HB.out
    have hw : wrap64 (x + s) = x + s := IntWalk.wrap64_in _ ⟨by omega, by omega⟩
    obtain ⟨t1, t2⟩ : x ≤ top ∧ top ≤ x + s := by simpa [wkB, HB.out] using hk
    have d1 : decide (top < x) = false := by simp; omega
    have d2 : decide (x + s < top) = false := by simp; omega
    clear hk HK
    rcases hc with ⟨hc, rfl⟩ | ⟨hc, rfl⟩
    · have d3 : (top == x) = true := by simpa using hc
      clear hc
      go_wp2_with fail
      refine (awake09_any w7).mono ?_
      rintro e w8 ⟨rfl, hx⟩
      have HX8 := Lib.hid (HX7.out.trans hx)
      clear hx
      go_wp2_with fail
      go_ret
      exact ⟨rfl, HX8.out⟩
    · have d3 : (top == x) = false := by simp; omega
      clear hc
      go_wp2_with fail
      refine (awake09_any w7).mono ?_
      rintro e w8 ⟨rfl, hx⟩
      have HX8 := Lib.hid (HX7.out.trans hx)
      clear hx
      go_wp2_with fail
      go_ret
      exact ⟨rfl, HX8.out⟩
theorem walkNobody_fin {v0 : Value} {p : Int} {w : World} (h0 : IsSpan v0) (h2 : (Lit.int .i64 p).wf = true) :
    Calls Try.prog 3 #[v0, .int .i64 p] w fun e w' => e = .returned (.bool true) ∧ Ext w w' := by
  obtain ⟨a, s, rfl, h1, h3⟩ := h0
  exact walkNobody_any a s p w h1 h3
end Go.Proofs.Ytkcpfimhbogdcaa

/- New heaps: state.New, and its reference. -/
set_option linter.unusedSimpArgs false
set_option linter.unusedVariables false
namespace Go.Proofs.Ytkcpfimhbogdcaa
open Go.RowKit Go.Shelf

/-- A new heap's large part. -/
def newFr (c0 c1 c2 c3 : Int) : List (Int × Int) := if largeS c0 c1 c2 c3 = 0 then [] else [(largeA c0 c1 c2 c3, largeS c0 c1 c2 c3)]
/-- A new heap, but for where it lies; 0 if there is none. -/
def newS (c0 c1 c2 c3 : Int) : StD := if cfgB c0 c1 c2 c3 then ⟨c0, c1, c2, c3, false, none, List.replicate (wordsZ c0 c1 c2 c3).toNat 0, 0, 0, none, [], 0, none, newFr c0 c1 c2 c3, 0, none, List.replicate c2.toNat (false, 0, 0), 0⟩
  else ⟨0, 0, 0, 0, false, none, [], 0, 0, none, [], 0, none, [], 0, none, [], 0⟩
def newE (c0 c1 c2 c3 : Int) : Int := if cfgB c0 c1 c2 c3 then 0 else 1
theorem ext10x {V w : World} (h : Ext V w) {X : Nat} (hX : V.heap.size ≤ X) (u0 u1 u2 u3 u4 u5 u6 u7 u8 u9 : Value) : Ext V ((((((((((w.setCell ⟨X, 0, none⟩ u0).setCell ⟨X, 1, none⟩ u1).setCell ⟨X, 2, none⟩ u2).setCell ⟨X, 3, none⟩ u3).setCell ⟨X, 4, none⟩ u4).setCell ⟨X, 5, none⟩ u5).setCell ⟨X, 6, none⟩ u6).setCell ⟨X, 7, none⟩ u7).setCell ⟨X, 8, none⟩ u8).setCell ⟨X, 9, none⟩ u9) :=
  (((((((((h.setCell hX _).setCell hX _).setCell hX _).setCell hX _).setCell hX _).setCell hX _).setCell hX _).setCell hX _).setCell hX _).setCell hX _
theorem ext_uS {W w : World} (h : Ext W w) : ∃ u : ExtOf W, w = u.1 := ⟨⟨w, h⟩, rfl⟩
theorem own10 {α : Type} {e : TypeId} {n : Nat} {f : α → List Value} {B : Nat} {v : Value} {xs : List α} {w : World} (h : Own e n f w B v xs) {X : Nat} {cs : Array Value} {t : TypeId} {r : Nat × Nat} (hb : w.heap[X]? = some (.cells cs t r)) (hne : t ≠ e) (u0 u1 u2 u3 u4 u5 u6 u7 u8 u9 : Value) :
    Own e n f ((((((((((w.setCell ⟨X, 0, none⟩ u0).setCell ⟨X, 1, none⟩ u1).setCell ⟨X, 2, none⟩ u2).setCell ⟨X, 3, none⟩ u3).setCell ⟨X, 4, none⟩ u4).setCell ⟨X, 5, none⟩ u5).setCell ⟨X, 6, none⟩ u6).setCell ⟨X, 7, none⟩ u7).setCell ⟨X, 8, none⟩ u8).setCell ⟨X, 9, none⟩ u9) B v xs := by
  have n1 := (h.ne_block hb hne).symm
  repeat (first | with_reducible exact h | with_reducible refine Own.setNe ?_ n1)
theorem blk10 {w : World} {X : Nat} {v0 v1 v2 v3 v4 v5 v6 v7 v8 v9 : Value} {t : TypeId} (hb : w.heap[X]? = some (.cells #[v0, v1, v2, v3, v4, v5, v6, v7, v8, v9] t (0, 0))) (u0 u1 u2 u3 u4 u5 u6 u7 u8 u9 : Value) :
    ((((((((((w.setCell ⟨X, 0, none⟩ u0).setCell ⟨X, 1, none⟩ u1).setCell ⟨X, 2, none⟩ u2).setCell ⟨X, 3, none⟩ u3).setCell ⟨X, 4, none⟩ u4).setCell ⟨X, 5, none⟩ u5).setCell ⟨X, 6, none⟩ u6).setCell ⟨X, 7, none⟩ u7).setCell ⟨X, 8, none⟩ u8).setCell ⟨X, 9, none⟩ u9).heap[X]? = some (.cells #[u0, u1, u2, u3, u4, u5, u6, u7, u8, u9] t (0, 0)) := by
  have h0 : (w.setCell ⟨X, 0, none⟩ u0).heap[X]? = some (.cells #[u0, v1, v2, v3, v4, v5, v6, v7, v8, v9] t (0, 0)) := blk_set hb u0
  have h1 : ((w.setCell ⟨X, 0, none⟩ u0).setCell ⟨X, 1, none⟩ u1).heap[X]? = some (.cells #[u0, u1, v2, v3, v4, v5, v6, v7, v8, v9] t (0, 0)) := blk_set h0 u1
  have h2 : (((w.setCell ⟨X, 0, none⟩ u0).setCell ⟨X, 1, none⟩ u1).setCell ⟨X, 2, none⟩ u2).heap[X]? = some (.cells #[u0, u1, u2, v3, v4, v5, v6, v7, v8, v9] t (0, 0)) := blk_set h1 u2
  have h3 : ((((w.setCell ⟨X, 0, none⟩ u0).setCell ⟨X, 1, none⟩ u1).setCell ⟨X, 2, none⟩ u2).setCell ⟨X, 3, none⟩ u3).heap[X]? = some (.cells #[u0, u1, u2, u3, v4, v5, v6, v7, v8, v9] t (0, 0)) := blk_set h2 u3
  have h4 : (((((w.setCell ⟨X, 0, none⟩ u0).setCell ⟨X, 1, none⟩ u1).setCell ⟨X, 2, none⟩ u2).setCell ⟨X, 3, none⟩ u3).setCell ⟨X, 4, none⟩ u4).heap[X]? = some (.cells #[u0, u1, u2, u3, u4, v5, v6, v7, v8, v9] t (0, 0)) := blk_set h3 u4
  have h5 : ((((((w.setCell ⟨X, 0, none⟩ u0).setCell ⟨X, 1, none⟩ u1).setCell ⟨X, 2, none⟩ u2).setCell ⟨X, 3, none⟩ u3).setCell ⟨X, 4, none⟩ u4).setCell ⟨X, 5, none⟩ u5).heap[X]? = some (.cells #[u0, u1, u2, u3, u4, u5, v6, v7, v8, v9] t (0, 0)) := blk_set h4 u5
  have h6 : (((((((w.setCell ⟨X, 0, none⟩ u0).setCell ⟨X, 1, none⟩ u1).setCell ⟨X, 2, none⟩ u2).setCell ⟨X, 3, none⟩ u3).setCell ⟨X, 4, none⟩ u4).setCell ⟨X, 5, none⟩ u5).setCell ⟨X, 6, none⟩ u6).heap[X]? = some (.cells #[u0, u1, u2, u3, u4, u5, u6, v7, v8, v9] t (0, 0)) := blk_set h5 u6
  have h7 : ((((((((w.setCell ⟨X, 0, none⟩ u0).setCell ⟨X, 1, none⟩ u1).setCell ⟨X, 2, none⟩ u2).setCell ⟨X, 3, none⟩ u3).setCell ⟨X, 4, none⟩ u4).setCell ⟨X, 5, none⟩ u5).setCell ⟨X, 6, none⟩ u6).setCell ⟨X, 7, none⟩ u7).heap[X]? = some (.cells #[u0, u1, u2, u3, u4, u5, u6, u7, v8, v9] t (0, 0)) := blk_set h6 u7
  have h8 : (((((((((w.setCell ⟨X, 0, none⟩ u0).setCell ⟨X, 1, none⟩ u1).setCell ⟨X, 2, none⟩ u2).setCell ⟨X, 3, none⟩ u3).setCell ⟨X, 4, none⟩ u4).setCell ⟨X, 5, none⟩ u5).setCell ⟨X, 6, none⟩ u6).setCell ⟨X, 7, none⟩ u7).setCell ⟨X, 8, none⟩ u8).heap[X]? = some (.cells #[u0, u1, u2, u3, u4, u5, u6, u7, u8, v9] t (0, 0)) := blk_set h7 u8
  have h9 : ((((((((((w.setCell ⟨X, 0, none⟩ u0).setCell ⟨X, 1, none⟩ u1).setCell ⟨X, 2, none⟩ u2).setCell ⟨X, 3, none⟩ u3).setCell ⟨X, 4, none⟩ u4).setCell ⟨X, 5, none⟩ u5).setCell ⟨X, 6, none⟩ u6).setCell ⟨X, 7, none⟩ u7).setCell ⟨X, 8, none⟩ u8).setCell ⟨X, 9, none⟩ u9).heap[X]? = some (.cells #[u0, u1, u2, u3, u4, u5, u6, u7, u8, u9] t (0, 0)) := blk_set h8 u9
  exact h9
theorem wp_makeU {o : Oper} {a : Act} {w : World} {K : Act → World → Prop} {Q : Exit → Act → World → Prop} (l : Operand) (hop : o.op = Op.makeSlice 33 l l) (n : Nat) (hl : a.eval l = .int .i64 (n : Int)) (hn : n ≤ 17592186044416)
    (hK : ∀ w', Own 64 1 u64C w' w.heap.size (.slice (some ⟨w.heap.size, 0, none⟩) n n) (List.replicate n (0 : Int)) → Ext w w' → K (a.put o.dst (.slice (some ⟨w.heap.size, 0, none⟩) n n)) w') : o.wp Try.prog a w K Q := by
  obtain ⟨i, hi, hz0, hz1, hz2⟩ := info_parts u64Info0
  obtain ⟨w', hrun, r1, r2⟩ := run_make_full (P := Try.prog) w w.heap.size 33 64 i (.int .u64 0) 1 Try.underlying33 hi hz0 hz1 .i64 .i64 n (by rw [hz2]; omega) (by unfold maxLen; omega) (Nat.le_refl _)
  have hown : Own 64 1 u64C w' w.heap.size (.slice (some ⟨w.heap.size, 0, none⟩) n n) (List.replicate n (0 : Int)) := by
    unfold Own
    have e : (List.replicate n (0 : Int)).flatMap u64C = (madeCells (Value.int .u64 0).cells (n * 1)).toList := by
      rw [Nat.mul_one, show (Value.int .u64 0).cells = #[Value.int .u64 0] from rfl, toList_madeCells_one]
      clear r1 r2 hl hn hK hrun
      induction n with
      | zero => rfl
      | succ n ih => rw [List.replicate_succ, List.flatMap_cons, ih]; rfl
    rw [e, List.length_replicate]
    exact r1
  unfold Oper.wp
  simp [execOp, hop, hl, hrun, Result.andThen]
  exact hK _ hown ⟨r2.os, r2.tape, r2.output, r2.size, fun k hk => r2.block k hk (by simp)⟩
theorem wp_makeSl {o : Oper} {a : Act} {w : World} {K : Act → World → Prop} {Q : Exit → Act → World → Prop} (l : Operand) (hop : o.op = Op.makeSlice 54 l l) (n : Nat) (hl : a.eval l = .int .i64 (n : Int)) (hn : n ≤ 4000000000000)
    (hK : ∀ w', Own 66 3 slotC w' w.heap.size (.slice (some ⟨w.heap.size, 0, none⟩) n n) (List.replicate n ((false, 0, 0) : Bool × Int × Int)) → Ext w w' → K (a.put o.dst (.slice (some ⟨w.heap.size, 0, none⟩) n n)) w') : o.wp Try.prog a w K Q := by
  obtain ⟨i, hi, hz0, hz1, hz2⟩ := info_parts slotInfo0
  obtain ⟨w', hrun, r1, r2⟩ := run_make_full (P := Try.prog) w w.heap.size 54 66 i (.agg #[.bool false, .int .i64 0, .int .u64 0]) 3 Try.underlying54 hi hz0 hz1 .i64 .i64 n (by rw [hz2]; omega) (by unfold maxLen; omega) (Nat.le_refl _)
  have hown : Own 66 3 slotC w' w.heap.size (.slice (some ⟨w.heap.size, 0, none⟩) n n) (List.replicate n ((false, 0, 0) : Bool × Int × Int)) := by
    unfold Own
    rw [made_slots, List.length_replicate]
    exact r1
  unfold Oper.wp
  simp [execOp, hop, hl, hrun, Result.andThen]
  exact hK _ hown ⟨r2.os, r2.tape, r2.output, r2.size, fun k hk => r2.block k hk (by simp)⟩
/-- A new heap comes back. -/
def RetNew (V : World) (s : StD) (er : Int) (e : Ending) (w' : World) : Prop := ∃ t : StD, e = .returned (.tuple #[.agg #[.int .i64 t.c0, .int .i64 t.c1, .int .i64 t.c2, .int .i64 t.c3, .bool t.snd, .slice t.wA t.ws.length t.wc, .int .i64 t.top, .slice t.tA t.tb.length t.tc, .slice t.fA t.fr.length t.fc, .slice t.sA t.sl.length t.sc], .int .i64 er]) ∧ StOwn V.heap.size w' t ∧ eqvS t s = true ∧ Ext V w'
set_option maxRecDepth 100000
set_option maxHeartbeats 1000000
theorem stnew_no (c0 c1 c2 c3 : Int) (hb : cfgB c0 c1 c2 c3 = false) (V : World) : Calls Try.prog 26 #[.agg #[.int .i64 (c0), .int .i64 (c1), .int .i64 (c2), .int .i64 (c3)]] V (RetNew V (newS c0 c1 c2 c3) (newE c0 c1 c2 c3)) := by
  have hS := pers_new2 V #[.int .i64 c0, .int .i64 c1, .int .i64 c2, .int .i64 c3] 53 _ rfl (.cells #[.int .i64 0, .int .i64 0, .int .i64 0, .int .i64 0, .bool false, .slice none 0 0, .int .i64 0, .slice none 0 0, .slice none 0 0, .slice none 0 0] 56)
  have hR := pers_new (V.alloc (.cells #[.int .i64 c0, .int .i64 c1, .int .i64 c2, .int .i64 c3] 53)) #[.int .i64 0, .int .i64 0, .int .i64 0, .int .i64 0, .bool false, .slice none 0 0, .int .i64 0, .slice none 0 0, .slice none 0 0, .slice none 0 0] 56 (V.heap.size + 1) (by simp)
  have HX := Lib.hid (((Ext.refl V).alloc (.cells #[.int .i64 c0, .int .i64 c1, .int .i64 c2, .int .i64 c3] 53)).alloc (.cells #[.int .i64 0, .int .i64 0, .int .i64 0, .int .i64 0, .bool false, .slice none 0 0, .int .i64 0, .slice none 0 0, .slice none 0 0, .slice none 0 0] 56))
  have HVR : Hid (V.heap.size ≤ V.heap.size + 1) := Lib.hid (by omega)
  have HB := Lib.hid hb
  have HN : Hid (newS c0 c1 c2 c3 = ⟨0, 0, 0, 0, false, none, [], 0, 0, none, [], 0, none, [], 0, none, [], 0⟩ ∧ newE c0 c1 c2 c3 = 1) := Lib.hid (by simp [newS, newE, hb])
  clear hb
  go_enter Try.func26, Try.ntmps26
  go_wp2_with fail
  generalize (V.alloc (.cells #[.int .i64 c0, .int .i64 c1, .int .i64 c2, .int .i64 c3] 53)).alloc (.cells #[.int .i64 0, .int .i64 0, .int .i64 0, .int .i64 0, .bool false, .slice none 0 0, .int .i64 0, .slice none 0 0, .slice none 0 0, .slice none 0 0] 56) = W at *
  generalize V.heap.size + 1 = R at *
  have gS := hS.cells
  have gR := hR.cells
  have fR := hR.frees
  have lR := hR.lt
  ((first | refine at_baseC (W := W) ?_ | refine at_base (W := W) ?_); intro uq; (try go_wp2_with fail))
  (refine (check_is HB.out _).mono ?_; rintro e wq ⟨rfl, hx⟩; replace hx := Ext.trans (a := W) (by repeat (first | (with_reducible exact Ext.refl _) | (with_reducible exact ExtOf.ext _) | (with_reducible assumption) | (with_reducible refine Ext.drew ?_) | (with_reducible refine Ext.alloc ?_ _))) hx; obtain ⟨uq, rfl⟩ : ∃ u : ExtOf W, wq = u.1 := ⟨⟨wq, hx⟩, rfl⟩; clear hx; go_wp2_with fail)
  ((try simp only [Exit.inBlock, Exit.then]); refine bodyPost_ret (v := .tuple #[.agg #[.int .i64 0, .int .i64 0, .int .i64 0, .int .i64 0, .bool false, .slice none 0 0, .int .i64 0, .slice none 0 0, .slice none 0 0, .slice none 0 0], .int .i64 1]) (by simp only [results, Try.results26]; go_simp) rfl ?_)
  refine ⟨⟨0, 0, 0, 0, false, none, [], 0, 0, none, [], 0, none, [], 0, none, [], 0⟩, by rw [HN.out.2]; rfl, ⟨Own.nil _ _ _ _ _, Own.nil _ _ _ _ _, Own.nil _ _ _ _ _, Own.nil _ _ _ _ _⟩, by rw [HN.out.1]; rfl, ext10x (HX.out.trans uq.2) HVR.out _ _ _ _ _ _ _ _ _ _⟩
end Go.Proofs.Ytkcpfimhbogdcaa

/- New heaps: where there is one. -/
set_option linter.unusedSimpArgs false
set_option linter.unusedVariables false
namespace Go.Proofs.Ytkcpfimhbogdcaa
open Go.RowKit Go.Shelf
set_option maxRecDepth 100000
set_option maxHeartbeats 1000000
theorem may_large {c0 c1 c2 c3 : Int} (hb : cfgB c0 c1 c2 c3 = true) : mayB (largeA c0 c1 c2 c3) (largeS c0 c1 c2 c3) = decide (largeS c0 c1 c2 c3 ≠ 0) := by
  obtain ⟨h1, h2, h3, h4, h5, h6, h7, h8⟩ := cfg_bd hb
  simp only [largeA, largeS, hb, if_true]
  by_cases h : c1 = 0
  · subst h; simp [mayB]
  · rw [if_neg h]; simp [mayB, h]; omega
theorem stnew_yes (c0 c1 c2 c3 : Int) (hb : cfgB c0 c1 c2 c3 = true) (V : World) : Calls Try.prog 26 #[.agg #[.int .i64 (c0), .int .i64 (c1), .int .i64 (c2), .int .i64 (c3)]] V (RetNew V (newS c0 c1 c2 c3) (newE c0 c1 c2 c3)) := by
  obtain ⟨h1, h2, h3, h4, h5, h6, h7, h8⟩ := cfg_bd hb
  obtain ⟨m, rfl⟩ := Int.eq_ofNat_of_zero_le (show 0 ≤ c2 by omega)
  obtain ⟨n, hn⟩ : ∃ n : Nat, wordsZ c0 c1 m c3 = n := ⟨(2 * c0 + c1).toNat, by simp only [wordsZ, hb, if_true]; omega⟩
  have HNB : Hid (n ≤ 98304) := Lib.hid (by simp only [wordsZ, hb, if_true] at hn; omega)
  have HNW : Hid (newS c0 c1 m c3 = ⟨c0, c1, m, c3, false, none, List.replicate n 0, 0, 0, none, [], 0, none, newFr c0 c1 m c3, 0, none, List.replicate m (false, 0, 0), 0⟩ ∧ newE c0 c1 m c3 = 0) := Lib.hid (by simp [newS, newE, hb, hn])
  have HFR : Hid (newFr c0 c1 m c3 = if largeS c0 c1 m c3 = 0 then [] else [(largeA c0 c1 m c3, largeS c0 c1 m c3)]) := Lib.hid rfl
  have hmay := may_large hb
  obtain ⟨la, hla⟩ : ∃ x, largeA c0 c1 m c3 = x := ⟨_, rfl⟩
  obtain ⟨ls, hls⟩ : ∃ x, largeS c0 c1 m c3 = x := ⟨_, rfl⟩
  rw [hla, hls] at HFR hmay
  have HM1 : Hid (1 ≤ m ∧ m ≤ 1024) := Lib.hid (by omega)
  have HN := Lib.hid hn
  have HB := Lib.hid hb
  have HLA := Lib.hid hla
  have HLS := Lib.hid hls
  obtain ⟨mb, hmb⟩ : ∃ b, decide (ls ≠ 0) = b := ⟨_, rfl⟩
  rw [hmb] at hmay
  have HMB := Lib.hid hmb
  have HMAY := Lib.hid hmay
  clear h1 h2 h3 h4 h5 h6 h7 h8 hn hb hla hls hmb hmay
  have hS := pers_new2 V #[.int .i64 c0, .int .i64 c1, .int .i64 m, .int .i64 c3] 53 _ rfl (.cells #[.int .i64 0, .int .i64 0, .int .i64 0, .int .i64 0, .bool false, .slice none 0 0, .int .i64 0, .slice none 0 0, .slice none 0 0, .slice none 0 0] 56)
  have hR := pers_new (V.alloc (.cells #[.int .i64 c0, .int .i64 c1, .int .i64 m, .int .i64 c3] 53)) #[.int .i64 0, .int .i64 0, .int .i64 0, .int .i64 0, .bool false, .slice none 0 0, .int .i64 0, .slice none 0 0, .slice none 0 0, .slice none 0 0] 56 (V.heap.size + 1) (by simp)
  have HXV := Lib.hid (((Ext.refl V).alloc (.cells #[.int .i64 c0, .int .i64 c1, .int .i64 m, .int .i64 c3] 53)).alloc (.cells #[.int .i64 0, .int .i64 0, .int .i64 0, .int .i64 0, .bool false, .slice none 0 0, .int .i64 0, .slice none 0 0, .slice none 0 0, .slice none 0 0] 56))
  have HVR : Hid (V.heap.size ≤ V.heap.size + 1) := Lib.hid (by omega)
  go_enter Try.func26, Try.ntmps26
  go_wp2_with fail
  generalize (V.alloc (.cells #[.int .i64 c0, .int .i64 c1, .int .i64 m, .int .i64 c3] 53)).alloc (.cells #[.int .i64 0, .int .i64 0, .int .i64 0, .int .i64 0, .bool false, .slice none 0 0, .int .i64 0, .slice none 0 0, .slice none 0 0, .slice none 0 0] 56) = W at *
  generalize V.heap.size + 1 = R at *
  have gS := hS.cells
  ((first | refine at_baseC (W := W) ?_ | refine at_base (W := W) ?_); intro uq; (try go_wp2_with fail))
  (refine (check_is HB.out _).mono ?_; rintro e wq ⟨rfl, hx⟩; replace hx := Ext.trans (a := W) (by repeat (first | (with_reducible exact Ext.refl _) | (with_reducible exact ExtOf.ext _) | (with_reducible assumption) | (with_reducible refine Ext.drew ?_) | (with_reducible refine Ext.alloc ?_ _))) hx; obtain ⟨uq, rfl⟩ : ∃ u : ExtOf W, wq = u.1 := ⟨⟨wq, hx⟩, rfl⟩; clear hx; go_wp2_with fail)
  have hu := uq.2
  refine wp_norm (Behind fun a' w' => ∃ A, Hid (Own 64 1 u64C w' V.heap.size (.slice A n n) (List.replicate n 0)) ∧ ∃ X, Hid (w'.heap[X]? = some (.cells #[.int .i64 c0, .int .i64 c1, .int .i64 m, .int .i64 c3, .bool false, .slice A n n, .int .i64 0, .slice none 0 0, .slice none 0 0, .slice none 0 0] 56 (0, 0))) ∧ Hid (Ext W w') ∧ Hid (W.heap.size ≤ X) ∧ a' = { tmps := #[.agg #[.int .i64 c0, .int .i64 c1, .int .i64 m, .int .i64 c3], .pointer (some ⟨V.heap.size, 0, none⟩), .pointer (some ⟨R, 0, none⟩), .int .i64 0, .pointer (some ⟨X, 0, none⟩), undef, .agg #[.int .i64 c0, .int .i64 c1, .int .i64 m, .int .i64 c3], .bool true, .bool false, undef, .agg #[.int .i64 c0, .int .i64 c1, .int .i64 m, .int .i64 c3], .agg #[.int .i64 c0, .int .i64 c1, .int .i64 m, .int .i64 c3], .int .i64 n, .slice A n n, .agg #[.int .i64 c0, .int .i64 c1, .int .i64 m, .int .i64 c3, .bool false, .slice A n n, .int .i64 0, .slice none 0 0, .slice none 0 0, .slice none 0 0], undef, undef, undef, undef, undef, undef, undef, undef, undef, undef, undef, undef, undef, undef, undef], defers := [] }) ?_ ?_
  · refine wp_region_tree (fun w' => ∃ u : ExtOf W, w' = u.1) [0, 1] 4 [(2, [(3, [(4, [(5, ())]), (5, [(4, ())])]), (5, [(3, [(4, ())])])]), (5, [(2, [(3, [(4, ())])])])] [6] (by kernel_rfl) (by kernel_rfl) (by intro c a d v w h; cases h.1) ⟨⟨_, hu.drew⟩, rfl⟩ ?_
    simp only [opsOf, List.map_cons, List.map_nil, List.getD_cons_zero, List.getD_cons_succ]
    (repeat (go_big_quiet_step (fail)))
    refine wpQuiet_nil ?_
    have HX := Lib.hid hu.drew
    have HZ : Hid (V.heap.size ≤ W.heap.size) := Lib.hid HXV.out.size
    clear hu gS
    generalize uq.1.drew = wN at *
    ((first | refine tr_one ?_ | refine tr_two ?_ ?_) <;> (refine op_step (by rfl) ?_; intro K hK; first | (go_simp; refine (lwords_is HN.out _).mono ?_; rintro e wN ⟨rfl, hy⟩; refine hK _ _ (ext_uS (HX.out.trans hy)) ?_; clear hK K; (try replace HO := Lib.hid (HO.out.ext hy)); (try replace HO2 := Lib.hid (HO2.out.ext hy)); (try replace HBK := Lib.hid ((hy.block (lt_of_heap HBK.out)).trans HBK.out)); replace HX := Lib.hid (HX.out.trans hy); clear hy) | (refine wp_makeU (.tmp 12) rfl n (by rfl) (by have := HNB.out; omega) ?_; intro wN ho hy; refine hK _ _ (ext_uS (HX.out.trans hy)) ?_; clear hK K; have HO := Lib.hid (ho.mono (B' := V.heap.size) (by have := HX.out.size; have := HZ.out; omega)); clear ho; (try replace HBK := Lib.hid ((hy.block (lt_of_heap HBK.out)).trans HBK.out)); replace HX := Lib.hid (HX.out.trans hy); clear hy) | (go_simp; refine hK _ _ (ext_uS (HX.out.alloc _)) ?_; clear hK K; have hy := (Ext.refl wN).alloc (.cells #[.int .i64 0, .int .i64 0, .int .i64 0, .int .i64 0, .bool false, .slice none 0 0, .int .i64 0, .slice none 0 0, .slice none 0 0, .slice none 0 0] 56); have HBK := Lib.hid (blk_new wN #[.int .i64 0, .int .i64 0, .int .i64 0, .int .i64 0, .bool false, .slice none 0 0, .int .i64 0, .slice none 0 0, .slice none 0 0, .slice none 0 0] 56 _ rfl); have HWX : Hid (W.heap.size ≤ wN.heap.size) := Lib.hid HX.out.size; (try replace HO := Lib.hid (HO.out.ext hy)); replace HX := Lib.hid (HX.out.trans hy); clear hy; generalize wN.alloc (.cells #[.int .i64 0, .int .i64 0, .int .i64 0, .int .i64 0, .bool false, .slice none 0 0, .int .i64 0, .slice none 0 0, .slice none 0 0, .slice none 0 0] 56) = wM at *; generalize wN.heap.size = X at *; rename World => wN) | (go_simp; refine hK _ _ (ext_uS HX.out) ?_; clear hK K)))
    all_goals ((first | refine tr_one ?_ | refine tr_two ?_ ?_) <;> (refine op_step (by rfl) ?_; intro K hK; first | (go_simp; refine (lwords_is HN.out _).mono ?_; rintro e wN ⟨rfl, hy⟩; refine hK _ _ (ext_uS (HX.out.trans hy)) ?_; clear hK K; (try replace HO := Lib.hid (HO.out.ext hy)); (try replace HO2 := Lib.hid (HO2.out.ext hy)); (try replace HBK := Lib.hid ((hy.block (lt_of_heap HBK.out)).trans HBK.out)); replace HX := Lib.hid (HX.out.trans hy); clear hy) | (refine wp_makeU (.tmp 12) rfl n (by rfl) (by have := HNB.out; omega) ?_; intro wN ho hy; refine hK _ _ (ext_uS (HX.out.trans hy)) ?_; clear hK K; have HO := Lib.hid (ho.mono (B' := V.heap.size) (by have := HX.out.size; have := HZ.out; omega)); clear ho; (try replace HBK := Lib.hid ((hy.block (lt_of_heap HBK.out)).trans HBK.out)); replace HX := Lib.hid (HX.out.trans hy); clear hy) | (go_simp; refine hK _ _ (ext_uS (HX.out.alloc _)) ?_; clear hK K; have hy := (Ext.refl wN).alloc (.cells #[.int .i64 0, .int .i64 0, .int .i64 0, .int .i64 0, .bool false, .slice none 0 0, .int .i64 0, .slice none 0 0, .slice none 0 0, .slice none 0 0] 56); have HBK := Lib.hid (blk_new wN #[.int .i64 0, .int .i64 0, .int .i64 0, .int .i64 0, .bool false, .slice none 0 0, .int .i64 0, .slice none 0 0, .slice none 0 0, .slice none 0 0] 56 _ rfl); have HWX : Hid (W.heap.size ≤ wN.heap.size) := Lib.hid HX.out.size; (try replace HO := Lib.hid (HO.out.ext hy)); replace HX := Lib.hid (HX.out.trans hy); clear hy; generalize wN.alloc (.cells #[.int .i64 0, .int .i64 0, .int .i64 0, .int .i64 0, .bool false, .slice none 0 0, .int .i64 0, .slice none 0 0, .slice none 0 0, .slice none 0 0] 56) = wM at *; generalize wN.heap.size = X at *; rename World => wN) | (go_simp; refine hK _ _ (ext_uS HX.out) ?_; clear hK K)))
    all_goals ((first | refine tr_one ?_ | refine tr_two ?_ ?_) <;> (refine op_step (by rfl) ?_; intro K hK; first | (go_simp; refine (lwords_is HN.out _).mono ?_; rintro e wN ⟨rfl, hy⟩; refine hK _ _ (ext_uS (HX.out.trans hy)) ?_; clear hK K; (try replace HO := Lib.hid (HO.out.ext hy)); (try replace HO2 := Lib.hid (HO2.out.ext hy)); (try replace HBK := Lib.hid ((hy.block (lt_of_heap HBK.out)).trans HBK.out)); replace HX := Lib.hid (HX.out.trans hy); clear hy) | (refine wp_makeU (.tmp 12) rfl n (by rfl) (by have := HNB.out; omega) ?_; intro wN ho hy; refine hK _ _ (ext_uS (HX.out.trans hy)) ?_; clear hK K; have HO := Lib.hid (ho.mono (B' := V.heap.size) (by have := HX.out.size; have := HZ.out; omega)); clear ho; (try replace HBK := Lib.hid ((hy.block (lt_of_heap HBK.out)).trans HBK.out)); replace HX := Lib.hid (HX.out.trans hy); clear hy) | (go_simp; refine hK _ _ (ext_uS (HX.out.alloc _)) ?_; clear hK K; have hy := (Ext.refl wN).alloc (.cells #[.int .i64 0, .int .i64 0, .int .i64 0, .int .i64 0, .bool false, .slice none 0 0, .int .i64 0, .slice none 0 0, .slice none 0 0, .slice none 0 0] 56); have HBK := Lib.hid (blk_new wN #[.int .i64 0, .int .i64 0, .int .i64 0, .int .i64 0, .bool false, .slice none 0 0, .int .i64 0, .slice none 0 0, .slice none 0 0, .slice none 0 0] 56 _ rfl); have HWX : Hid (W.heap.size ≤ wN.heap.size) := Lib.hid HX.out.size; (try replace HO := Lib.hid (HO.out.ext hy)); replace HX := Lib.hid (HX.out.trans hy); clear hy; generalize wN.alloc (.cells #[.int .i64 0, .int .i64 0, .int .i64 0, .int .i64 0, .bool false, .slice none 0 0, .int .i64 0, .slice none 0 0, .slice none 0 0, .slice none 0 0] 56) = wM at *; generalize wN.heap.size = X at *; rename World => wN) | (go_simp; refine hK _ _ (ext_uS HX.out) ?_; clear hK K)))
    all_goals ((first | refine tr_one ?_ | refine tr_two ?_ ?_) <;> (refine op_step (by rfl) ?_; intro K hK; first | (go_simp; refine (lwords_is HN.out _).mono ?_; rintro e wN ⟨rfl, hy⟩; refine hK _ _ (ext_uS (HX.out.trans hy)) ?_; clear hK K; (try replace HO := Lib.hid (HO.out.ext hy)); (try replace HO2 := Lib.hid (HO2.out.ext hy)); (try replace HBK := Lib.hid ((hy.block (lt_of_heap HBK.out)).trans HBK.out)); replace HX := Lib.hid (HX.out.trans hy); clear hy) | (refine wp_makeU (.tmp 12) rfl n (by rfl) (by have := HNB.out; omega) ?_; intro wN ho hy; refine hK _ _ (ext_uS (HX.out.trans hy)) ?_; clear hK K; have HO := Lib.hid (ho.mono (B' := V.heap.size) (by have := HX.out.size; have := HZ.out; omega)); clear ho; (try replace HBK := Lib.hid ((hy.block (lt_of_heap HBK.out)).trans HBK.out)); replace HX := Lib.hid (HX.out.trans hy); clear hy) | (go_simp; refine hK _ _ (ext_uS (HX.out.alloc _)) ?_; clear hK K; have hy := (Ext.refl wN).alloc (.cells #[.int .i64 0, .int .i64 0, .int .i64 0, .int .i64 0, .bool false, .slice none 0 0, .int .i64 0, .slice none 0 0, .slice none 0 0, .slice none 0 0] 56); have HBK := Lib.hid (blk_new wN #[.int .i64 0, .int .i64 0, .int .i64 0, .int .i64 0, .bool false, .slice none 0 0, .int .i64 0, .slice none 0 0, .slice none 0 0, .slice none 0 0] 56 _ rfl); have HWX : Hid (W.heap.size ≤ wN.heap.size) := Lib.hid HX.out.size; (try replace HO := Lib.hid (HO.out.ext hy)); replace HX := Lib.hid (HX.out.trans hy); clear hy; generalize wN.alloc (.cells #[.int .i64 0, .int .i64 0, .int .i64 0, .int .i64 0, .bool false, .slice none 0 0, .int .i64 0, .slice none 0 0, .slice none 0 0, .slice none 0 0] 56) = wM at *; generalize wN.heap.size = X at *; rename World => wN) | (go_simp; refine hK _ _ (ext_uS HX.out) ?_; clear hK K)))
    all_goals
      refine tr_nil ?_
      try simp only [opsOf, List.map_cons, List.map_nil, List.getD_cons_zero, List.getD_cons_succ]
      have gX := fun i => (cells_of HBK.out).1 i
      have fX := fun i => (cells_of HBK.out).2 i
      go_wp2_with fail
      exact Behind.mk ⟨_, Lib.hid (own10 HO.out HBK.out (by decide) _ _ _ _ _ _ _ _ _ _), X, Lib.hid (blk10 HBK.out _ _ _ _ _ _ _ _ _ _), Lib.hid (ext10x HX.out HWX.out _ _ _ _ _ _ _ _ _ _), HWX, rfl⟩
  intro a' w3 hbeh
  obtain ⟨A, ho, X, hb, hx, hX, rfl⟩ := hbeh.out
  clear hbeh hu gS
  replace hx := hx.out
  have HO := pers_own ho.out
  have hK := pers_blk hb.out
  have HVX : Hid (V.heap.size ≤ X) := Lib.hid (Nat.le_trans HXV.out.size hX.out)
  have HSX : Hid (V.heap.size ≠ X) := Lib.hid (by have := lt_of_heap hS.here; have := hX.out; omega)
  have HRX : Hid (R ≠ X) := Lib.hid (by have := lt_of_heap hR.here; have := hX.out; omega)
  (replace hS := hS.re hx; replace hR := hR.re hx)
  replace HXV := Lib.hid (HXV.out.trans hx)
  clear ho hb hx hX
  have gS := hS.cells
  ((first | refine at_baseC (W := w3) ?_ | refine at_base (W := w3) ?_); intro uq; (try go_wp2_with fail))
  (refine (llarge_is HLA.out HLS.out _).mono ?_; rintro e wq ⟨rfl, hx⟩; replace hx := Ext.trans (a := w3) (by repeat (first | (with_reducible exact Ext.refl _) | (with_reducible exact ExtOf.ext _) | (with_reducible assumption) | (with_reducible refine Ext.drew ?_) | (with_reducible refine Ext.alloc ?_ _))) hx; obtain ⟨uq, rfl⟩ : ∃ u : ExtOf w3, wq = u.1 := ⟨⟨wq, hx⟩, rfl⟩; clear hx; go_wp2_with fail)
  have hY := pers_new uq.1 #[.int .i64 la, .int .i64 ls] 23 _ rfl
  have hyx := uq.2.alloc (.cells #[.int .i64 la, .int .i64 ls] 23)
  (replace hS := hS.re hyx; replace hR := hR.re hyx; replace hK := hK.re hyx; replace HO := HO.re hyx)
  replace HXV := Lib.hid (HXV.out.trans hyx)
  clear hyx gS
  generalize uq.1.alloc (.cells #[.int .i64 la, .int .i64 ls] 23) = w4 at *
  generalize uq.1.heap.size = Y at *
  have gS := hS.cells
  have gY := hY.cells
  have gK := hK.cells
  have fK := hK.frees
  have lK := hK.lt
  have HV4 : Hid (V.heap.size ≤ w4.heap.size) := Lib.hid HXV.out.size
  cases mb
  · ((first | refine at_baseC (W := w4) ?_ | refine at_base (W := w4) ?_); intro uq; (try go_wp2_with fail))
    (refine (mayS_is la ls false HMAY.out _).mono ?_; rintro e wq ⟨rfl, hx⟩; replace hx := Ext.trans (a := w4) (by repeat (first | (with_reducible exact Ext.refl _) | (with_reducible exact ExtOf.ext _) | (with_reducible assumption) | (with_reducible refine Ext.drew ?_) | (with_reducible refine Ext.alloc ?_ _))) hx; obtain ⟨uq, rfl⟩ : ∃ u : ExtOf w4, wq = u.1 := ⟨⟨wq, hx⟩, rfl⟩; clear hx; go_wp2_with fail)
    clear gS gY gK fK lK
    (refine (rnew_any m HM1.out.1 HM1.out.2 _).mono ?_; rintro e w6 ⟨rfl, ho2, hx⟩; replace hx := Ext.trans (a := w4) (by repeat (first | (with_reducible exact Ext.refl _) | (with_reducible exact ExtOf.ext _) | (with_reducible assumption) | (with_reducible refine Ext.drew ?_) | (with_reducible refine Ext.alloc ?_ _))) hx; replace hR := hR.re hx; replace hK := hK.re hx; replace HO := HO.re hx)
    replace HXV := Lib.hid (HXV.out.trans hx)
    have HO2 := pers_own (ho2.mono (B' := V.heap.size) (by have := HV4.out; have := uq.2.size; omega))
    clear ho2 hx
    generalize uq.1.heap.size = G at *
    have gR := hR.cells
    have fR := hR.frees
    have lR := hR.lt
    have gK := hK.cells
    have fK := hK.frees
    have lK := hK.lt
    have hq := HRX.out
    ((first | refine at_baseC (W := w6) ?_ | refine at_base (W := w6) ?_); intro uq; (try go_wp2_with fail))
    ((try simp only [Exit.inBlock, Exit.then]); refine bodyPost_ret (v := .tuple #[.agg #[.int .i64 c0, .int .i64 c1, .int .i64 m, .int .i64 c3, .bool false, .slice A n n, .int .i64 0, .slice none 0 0, .slice none 0 0, .slice (some ⟨G, 0, none⟩) m m], .int .i64 0]) (by simp only [results, Try.results26]; go_simp) rfl ?_)
    have o1 := HO.at uq.2
    have o2 := HO2.at uq.2
    have x1 := HXV.out.trans uq.2
    have bk := hK.at uq.2
    have br := hR.at uq.2
    refine ⟨⟨c0, c1, m, c3, false, A, List.replicate n 0, n, 0, none, [], 0, none, [], 0, some ⟨G, 0, none⟩, List.replicate m (false, 0, 0), m⟩, ?_, ⟨?_, Own.nil _ _ _ _ _, Own.nil _ _ _ _ _, ?_⟩, ?_, ?_⟩
    · rw [HNW.out.2]; simp
    · have n1 := (o1.ne_block bk (by decide)).symm
      have n2 := (o1.ne_block br (by decide)).symm
      simp only [List.length_replicate]
      repeat (first | with_reducible exact o1 | with_reducible refine Own.setNe ?_ n1 | with_reducible refine Own.setNe ?_ n2)
    · have n1 := (o2.ne_block bk (by decide)).symm
      have n2 := (o2.ne_block br (by decide)).symm
      simp only [List.length_replicate]
      repeat (first | with_reducible exact o2 | with_reducible refine Own.setNe ?_ n1 | with_reducible refine Own.setNe ?_ n2)
    · rw [HNW.out.1, HFR.out]
      have := HMB.out
      simp [eqvS] at this ⊢
      simp [this]
    · have n1 := HVX.out
      have n2 := HVR.out
      repeat (first | with_reducible exact x1 | with_reducible refine Ext.setCell ?_ n1 _ | with_reducible refine Ext.setCell ?_ n2 _)
  · ((first | refine at_baseC (W := w4) ?_ | refine at_base (W := w4) ?_); intro uq; (try go_wp2_with fail))
    refine (mayS_is la ls true HMAY.out _).mono ?_
    rintro e wq ⟨rfl, hx⟩
    replace hx := uq.2.trans hx
    obtain ⟨uq, rfl⟩ : ∃ u : ExtOf w4, wq = u.1 := ⟨⟨wq, hx⟩, rfl⟩
    clear hx
    have hs5 : ((uq.1.setCell ⟨X, 8, none⟩ (.slice (some ⟨uq.1.heap.size, 0, none⟩) 1 1)).alloc (.cells #[.int .i64 la, .int .i64 ls] 23)).heap[V.heap.size]? = some (.cells #[.int .i64 c0, .int .i64 c1, .int .i64 m, .int .i64 c3] 53 (0, 0)) := blk_old (blk_set_other (hS.at uq.2) _ HSX.out)
    have c1 := (cells_of hs5).1
    go_wp2_with fail
    clear c1 hs5 gS gY gK fK lK
    have hk5 : ((uq.1.setCell ⟨X, 8, none⟩ (.slice (some ⟨uq.1.heap.size, 0, none⟩) 1 1)).alloc (.cells #[.int .i64 la, .int .i64 ls] 23)).heap[X]? = some (.cells #[.int .i64 c0, .int .i64 c1, .int .i64 m, .int .i64 c3, .bool false, .slice A n n, .int .i64 0, .slice none 0 0, .slice (some ⟨uq.1.heap.size, 0, none⟩) 1 1, .slice none 0 0] 56 (0, 0)) := blk_old (blk_set (hK.at uq.2) _)
    have hr5 : ((uq.1.setCell ⟨X, 8, none⟩ (.slice (some ⟨uq.1.heap.size, 0, none⟩) 1 1)).alloc (.cells #[.int .i64 la, .int .i64 ls] 23)).heap[R]? = some (.cells #[.int .i64 0, .int .i64 0, .int .i64 0, .int .i64 0, .bool false, .slice none 0 0, .int .i64 0, .slice none 0 0, .slice none 0 0, .slice none 0 0] 56 (0, 0)) := blk_old (blk_set_other (hR.at uq.2) _ HRX.out)
    have ho5 := ((HO.at uq.2).setOther (i := 8) (u := .slice (some ⟨uq.1.heap.size, 0, none⟩) 1 1) (hK.at uq.2) (by decide)).ext ((Ext.refl _).alloc (.cells #[.int .i64 la, .int .i64 ls] 23))
    have hf5 : Own 23 2 spanC ((uq.1.setCell ⟨X, 8, none⟩ (.slice (some ⟨uq.1.heap.size, 0, none⟩) 1 1)).alloc (.cells #[.int .i64 la, .int .i64 ls] 23)) V.heap.size (.slice (some ⟨uq.1.heap.size, 0, none⟩) 1 1) [(la, ls)] := Own.lit spanCells [(la, ls)] _ rfl 1 rfl (by have := HV4.out; have := uq.2.size; simp; omega) (by simp [maxLen]) _ (by simp)
    have hx5 : Ext V ((uq.1.setCell ⟨X, 8, none⟩ (.slice (some ⟨uq.1.heap.size, 0, none⟩) 1 1)).alloc (.cells #[.int .i64 la, .int .i64 ls] 23)) := ((HXV.out.trans uq.2).setCell HVX.out _).alloc _
    generalize (uq.1.setCell ⟨X, 8, none⟩ (.slice (some ⟨uq.1.heap.size, 0, none⟩) 1 1)).alloc (.cells #[.int .i64 la, .int .i64 ls] 23) = w5 at *
    generalize uq.1.heap.size = Fr at *
    clear hS hR hK HO HXV
    have hK := pers_blk hk5
    have hR := pers_blk hr5
    have HO := pers_own ho5
    have HO3 := pers_own hf5
    have HXV := Lib.hid hx5
    clear hk5 hr5 ho5 hf5 hx5
    have HV5 : Hid (V.heap.size ≤ w5.heap.size) := Lib.hid HXV.out.size
    ((first | refine at_baseC (W := w5) ?_ | refine at_base (W := w5) ?_); intro uq; (try go_wp2_with fail))
    (refine (rnew_any m HM1.out.1 HM1.out.2 _).mono ?_; rintro e w6 ⟨rfl, ho2, hx⟩; replace hx := Ext.trans (a := w5) (by repeat (first | (with_reducible exact Ext.refl _) | (with_reducible exact ExtOf.ext _) | (with_reducible assumption) | (with_reducible refine Ext.drew ?_) | (with_reducible refine Ext.alloc ?_ _))) hx; replace hR := hR.re hx; replace hK := hK.re hx; replace HO := HO.re hx; replace HO3 := HO3.re hx)
    replace HXV := Lib.hid (HXV.out.trans hx)
    have HO2 := pers_own (ho2.mono (B' := V.heap.size) (by have := HV5.out; have := uq.2.size; omega))
    clear ho2 hx
    generalize uq.1.heap.size = G at *
    have gR := hR.cells
    have fR := hR.frees
    have lR := hR.lt
    have gK := hK.cells
    have fK := hK.frees
    have lK := hK.lt
    have hq := HRX.out
    ((first | refine at_baseC (W := w6) ?_ | refine at_base (W := w6) ?_); intro uq; (try go_wp2_with fail))
    ((try simp only [Exit.inBlock, Exit.then]); refine bodyPost_ret (v := .tuple #[.agg #[.int .i64 c0, .int .i64 c1, .int .i64 m, .int .i64 c3, .bool false, .slice A n n, .int .i64 0, .slice none 0 0, .slice (some ⟨Fr, 0, none⟩) 1 1, .slice (some ⟨G, 0, none⟩) m m], .int .i64 0]) (by simp only [results, Try.results26]; go_simp) rfl ?_)
    have o1 := HO.at uq.2
    have o2 := HO2.at uq.2
    have x1 := HXV.out.trans uq.2
    have bk := hK.at uq.2
    have br := hR.at uq.2
    refine ⟨⟨c0, c1, m, c3, false, A, List.replicate n 0, n, 0, none, [], 0, some ⟨Fr, 0, none⟩, [(la, ls)], 1, some ⟨G, 0, none⟩, List.replicate m (false, 0, 0), m⟩, ?_, ⟨?_, Own.nil _ _ _ _ _, ?_, ?_⟩, ?_, ?_⟩
    · rw [HNW.out.2]; simp
    · have n1 := (o1.ne_block bk (by decide)).symm
      have n2 := (o1.ne_block br (by decide)).symm
      simp only [List.length_replicate]
      repeat (first | with_reducible exact o1 | with_reducible refine Own.setNe ?_ n1 | with_reducible refine Own.setNe ?_ n2)
    · have o3 := HO3.at uq.2
      simp only [List.length_cons, List.length_nil, Nat.zero_add]
      have n1 := (o3.ne_block bk (by decide)).symm
      have n2 := (o3.ne_block br (by decide)).symm
      repeat (first | with_reducible exact o3 | with_reducible refine Own.setNe ?_ n1 | with_reducible refine Own.setNe ?_ n2)
    · have n1 := (o2.ne_block bk (by decide)).symm
      have n2 := (o2.ne_block br (by decide)).symm
      simp only [List.length_replicate]
      repeat (first | with_reducible exact o2 | with_reducible refine Own.setNe ?_ n1 | with_reducible refine Own.setNe ?_ n2)
    · rw [HNW.out.1, HFR.out]
      have := HMB.out
      simp [eqvS] at this ⊢
      simp [this]
    · have n1 := HVX.out
      have n2 := HVR.out
      repeat (first | with_reducible exact x1 | with_reducible refine Ext.setCell ?_ n1 _ | with_reducible refine Ext.setCell ?_ n2 _)
theorem stnew_any (c0 c1 c2 c3 : Int) (V : World) : Calls Try.prog 26 #[.agg #[.int .i64 (c0), .int .i64 (c1), .int .i64 (c2), .int .i64 (c3)]] V (RetNew V (newS c0 c1 c2 c3) (newE c0 c1 c2 c3)) := by
  by_cases hb : cfgB c0 c1 c2 c3 = true
  · exact stnew_yes c0 c1 c2 c3 hb V
  · exact stnew_no c0 c1 c2 c3 (by simpa using hb) V
end Go.Proofs.Ytkcpfimhbogdcaa

/- A heap is stored. -/
set_option linter.unusedSimpArgs false
set_option linter.unusedVariables false
namespace Go.Proofs.Ytkcpfimhbogdcaa
open Go.RowKit Go.Shelf
set_option maxRecDepth 100000
set_option maxHeartbeats 1000000
theorem run_store_blk {P : Program} {w : World} {X i : Nat} {u : Value} {cs : Array Value} {t : TypeId} (hb : w.heap[X]? = some (.cells cs t (0, 0))) (hi : i < cs.size) (h1 : u.oneCell' = true) : (store ⟨X, i, none⟩ u).run P w = .ok () (w.setCell ⟨X, i, none⟩ u) := by
  have h2 := (cells_of hb).1 i
  have h3 := (cells_of hb).2 i
  rw [run_store P w _ u _ h1, h2, Array.getElem?_eq_getElem hi]
  simp only [h3]
  rfl
theorem wpList_storeSt {ops : Array Oper} {o : Oper} {a : Act} {w : World} {Q : Exit → Act → World → Prop} (hg : o.guard = none) (p v : Operand) (hop : o.op = Op.store 56 p v) (X : Nat) (u0 u1 u2 u3 u4 u5 u6 u7 u8 u9 v0 v1 v2 v3 v4 v5 v6 v7 v8 v9 : Value)
    (hp : a.eval p = .pointer (some ⟨X, 0, none⟩)) (hv : a.eval v = .agg #[u0, u1, u2, u3, u4, u5, u6, u7, u8, u9]) (hb : w.heap[X]? = some (.cells #[v0, v1, v2, v3, v4, v5, v6, v7, v8, v9] 56 (0, 0)))
    (h1 : ([u0, u1, u2, u3, u4, u5, u6, u7, u8, u9].all Value.oneCell') = true)
    (hK : ∀ w', w'.heap[X]? = some (.cells #[u0, u1, u2, u3, u4, u5, u6, u7, u8, u9] 56 (0, 0)) → (∀ {α : Type} {e : TypeId} {n : Nat} {f : α → List Value} {B : Nat} {v : Value} {xs : List α}, 56 ≠ e → Own e n f w B v xs → Own e n f w' B v xs) →
      (∀ V : World, Ext V w → V.heap.size ≤ X → Ext V w') → Q .normal (a.put o.dst undef) w') : wpList Try.prog ops Q [o] a w := by
  simp only [List.all_cons, List.all_nil, Bool.and_true, Bool.and_eq_true] at h1
  obtain ⟨q0, q1, q2, q3, q4, q5, q6, q7, q8, q9⟩ := h1
  have r0 := run_store_blk (i := 0) (P := Try.prog) (u := u0) hb (by simp) q0
  have b0 : (w.setCell ⟨X, 0, none⟩ u0).heap[X]? = some (.cells #[u0, v1, v2, v3, v4, v5, v6, v7, v8, v9] 56 (0, 0)) := blk_set hb u0
  have r1 := run_store_blk (i := 1) (P := Try.prog) (u := u1) b0 (by simp) q1
  have b1 : ((w.setCell ⟨X, 0, none⟩ u0).setCell ⟨X, 1, none⟩ u1).heap[X]? = some (.cells #[u0, u1, v2, v3, v4, v5, v6, v7, v8, v9] 56 (0, 0)) := blk_set b0 u1
  have r2 := run_store_blk (i := 2) (P := Try.prog) (u := u2) b1 (by simp) q2
  have b2 : (((w.setCell ⟨X, 0, none⟩ u0).setCell ⟨X, 1, none⟩ u1).setCell ⟨X, 2, none⟩ u2).heap[X]? = some (.cells #[u0, u1, u2, v3, v4, v5, v6, v7, v8, v9] 56 (0, 0)) := blk_set b1 u2
  have r3 := run_store_blk (i := 3) (P := Try.prog) (u := u3) b2 (by simp) q3
  have b3 : ((((w.setCell ⟨X, 0, none⟩ u0).setCell ⟨X, 1, none⟩ u1).setCell ⟨X, 2, none⟩ u2).setCell ⟨X, 3, none⟩ u3).heap[X]? = some (.cells #[u0, u1, u2, u3, v4, v5, v6, v7, v8, v9] 56 (0, 0)) := blk_set b2 u3
  have r4 := run_store_blk (i := 4) (P := Try.prog) (u := u4) b3 (by simp) q4
  have b4 : (((((w.setCell ⟨X, 0, none⟩ u0).setCell ⟨X, 1, none⟩ u1).setCell ⟨X, 2, none⟩ u2).setCell ⟨X, 3, none⟩ u3).setCell ⟨X, 4, none⟩ u4).heap[X]? = some (.cells #[u0, u1, u2, u3, u4, v5, v6, v7, v8, v9] 56 (0, 0)) := blk_set b3 u4
  have r5 := run_store_blk (i := 5) (P := Try.prog) (u := u5) b4 (by simp) q5
  have b5 : ((((((w.setCell ⟨X, 0, none⟩ u0).setCell ⟨X, 1, none⟩ u1).setCell ⟨X, 2, none⟩ u2).setCell ⟨X, 3, none⟩ u3).setCell ⟨X, 4, none⟩ u4).setCell ⟨X, 5, none⟩ u5).heap[X]? = some (.cells #[u0, u1, u2, u3, u4, u5, v6, v7, v8, v9] 56 (0, 0)) := blk_set b4 u5
  have r6 := run_store_blk (i := 6) (P := Try.prog) (u := u6) b5 (by simp) q6
  have b6 : (((((((w.setCell ⟨X, 0, none⟩ u0).setCell ⟨X, 1, none⟩ u1).setCell ⟨X, 2, none⟩ u2).setCell ⟨X, 3, none⟩ u3).setCell ⟨X, 4, none⟩ u4).setCell ⟨X, 5, none⟩ u5).setCell ⟨X, 6, none⟩ u6).heap[X]? = some (.cells #[u0, u1, u2, u3, u4, u5, u6, v7, v8, v9] 56 (0, 0)) := blk_set b5 u6
  have r7 := run_store_blk (i := 7) (P := Try.prog) (u := u7) b6 (by simp) q7
  have b7 : ((((((((w.setCell ⟨X, 0, none⟩ u0).setCell ⟨X, 1, none⟩ u1).setCell ⟨X, 2, none⟩ u2).setCell ⟨X, 3, none⟩ u3).setCell ⟨X, 4, none⟩ u4).setCell ⟨X, 5, none⟩ u5).setCell ⟨X, 6, none⟩ u6).setCell ⟨X, 7, none⟩ u7).heap[X]? = some (.cells #[u0, u1, u2, u3, u4, u5, u6, u7, v8, v9] 56 (0, 0)) := blk_set b6 u7
  have r8 := run_store_blk (i := 8) (P := Try.prog) (u := u8) b7 (by simp) q8
  have b8 : (((((((((w.setCell ⟨X, 0, none⟩ u0).setCell ⟨X, 1, none⟩ u1).setCell ⟨X, 2, none⟩ u2).setCell ⟨X, 3, none⟩ u3).setCell ⟨X, 4, none⟩ u4).setCell ⟨X, 5, none⟩ u5).setCell ⟨X, 6, none⟩ u6).setCell ⟨X, 7, none⟩ u7).setCell ⟨X, 8, none⟩ u8).heap[X]? = some (.cells #[u0, u1, u2, u3, u4, u5, u6, u7, u8, v9] 56 (0, 0)) := blk_set b7 u8
  have r9 := run_store_blk (i := 9) (P := Try.prog) (u := u9) b8 (by simp) q9
  have b9 : ((((((((((w.setCell ⟨X, 0, none⟩ u0).setCell ⟨X, 1, none⟩ u1).setCell ⟨X, 2, none⟩ u2).setCell ⟨X, 3, none⟩ u3).setCell ⟨X, 4, none⟩ u4).setCell ⟨X, 5, none⟩ u5).setCell ⟨X, 6, none⟩ u6).setCell ⟨X, 7, none⟩ u7).setCell ⟨X, 8, none⟩ u8).setCell ⟨X, 9, none⟩ u9).heap[X]? = some (.cells #[u0, u1, u2, u3, u4, u5, u6, u7, u8, u9] 56 (0, 0)) := blk_set b8 u9
  refine wpList_plain hg fun K hK' => ?_
  unfold Oper.wp
  simp only [execOp, hop, hp, hv]
  go_simp
  exact hK' _ _ (hK _ b9 (fun hne h => own10 h hb hne _ _ _ _ _ _ _ _ _ _) (fun V h hX => ext10x h hX _ _ _ _ _ _ _ _ _ _))
end Go.Proofs.Ytkcpfimhbogdcaa

