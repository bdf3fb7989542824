/- Merged by program (merge.py) out of: CpO. -/
import Derived.Test.YtkcpfimhbogdcaaMo36
import Derived.Test.YtkcpfimhbogdcaaMo37
import Derived.Test.YtkcpfimhbogdcaaMo19
import Derived.Test.YtkcpfimhbogdcaaMo14
/- The law CopierOnce, behind its guard. -/
set_option linter.unusedSimpArgs false
set_option linter.unusedVariables false
namespace Go.Proofs.Ytkcpfimhbogdcaa
open Go.RowKit Go.Shelf
set_option maxRecDepth 100000
set_option maxHeartbeats 2000000
theorem onceX_all : ∀ r : Fin 51, bits .or .u64 (IntKind.u64.wrap (IntKind.u64.wrap ((r.1 : Int) + 1) * 4)) 2 = 4 * ((r.1 : Int) + 1) + 2 := by decide +kernel
theorem onceX (r : Nat) (hr : r ≤ 50) : bits .or .u64 (IntKind.u64.wrap (IntKind.u64.wrap ((r : Int) + 1) * 4)) 2 = 4 * ((r : Int) + 1) + 2 := onceX_all ⟨r, by omega⟩
/-- What the loop keeps: ahead of the first round, behind it. -/
def OnceI (W4 : World) (R p b B r : Nat) (A : Option Addr) (cap k : Nat) (rs : List Int) (j : Nat) (w : World) : Prop :=
  (j = 0 ∧ RunV W4 (kO R p b B (r + 1) A cap) ⟨onceL (onceW k r) rs, 0, 0, 0, 0, 0, 0⟩ w) ∨ (1 ≤ j ∧ RunV W4 (kO R p b B (r + 1) A cap) ⟨onceD (onceW k r) rs, (r + 1 : Nat), (r + 1 : Nat), 0, 0, 0, 0⟩ w)
theorem onceI_step {W4 w : World} {R p b B r : Nat} {A : Option Addr} {cap k : Nat} {rs : List Int} {j : Nat} (hk : k ≤ 31) (hr : r ≤ 50) (hrr : rs.length = r) (h : OnceI W4 R p b B r A cap k rs j w) :
    Calls Try.prog 39 #[.pointer (some ⟨R, 0, none⟩), .int .u64 2] w fun e w' => e = .returned (.tuple #[.int .u64 (4 * (r + 1 : Nat) + 2), .bool (decide (j = 0)), .int .i64 0]) ∧ OnceI W4 R p b B r A cap k rs (j + 1) w' := by
  subst hrr
  rcases h with ⟨rfl, h⟩ | ⟨h1, h⟩
  · refine (once_first k rs hk hr h).mono ?_
    rintro e w' ⟨rfl, h2, -⟩
    exact ⟨rfl, .inr ⟨by omega, h2⟩⟩
  · refine (once_next _ rs _ hr h).mono ?_
    rintro e w' ⟨rfl, h2, -⟩
    exact ⟨by rw [decide_eq_false (by omega)], .inr ⟨by omega, h2⟩⟩
theorem once_main (k r : Nat) (m u : Int) (A : Option Addr) (cap : Nat) (rs : List Int) (V : World) (hrr : rs.length = r) (hu : 0 ≤ u ∧ u < 18446744073709551616) (hA : A = none → cap = 0) (hl : WordsAt V A rs) (hbd : ∀ z ∈ rs, 0 ≤ z ∧ z < 18446744073709551616)
    (h2 : k ≤ 31) (h3 : r ≤ 50) (h4 : 1 ≤ m) (h5 : m ≤ 50) (h6 : ¬ u % 4 = 2) :
    Calls Try.prog 9 #[.int .i64 k, .slice A r cap, .int .i64 m, .int .u64 u] V fun e w' => e = .returned (.bool true) ∧ Ext V w' := by
  have c0 : ∀ x y : Int, y ≤ x → decide (x < y) = false := fun x y h => by simpa using h
  have d1 := c0 (k : Int) 0 (by omega)
  have d2 := c0 31 (k : Int) (by omega)
  have d3 := c0 50 (r : Int) (by omega)
  have d4 := c0 _ _ h4
  have d5 := c0 _ _ h5
  have hur : (u.tmod 4 == 2) = false := by
    rw [beq_eq_false_iff_ne, Int.tmod_eq_emod_of_nonneg hu.1]
    omega
  have hup : 0 ≤ u.tmod 4 ∧ u.tmod 4 < 18446744073709551616 := by rw [Int.tmod_eq_emod_of_nonneg hu.1]; omega
  have HU := Lib.hid hu
  have HK := Lib.hid h2
  have HR := Lib.hid h3
  have HRR := Lib.hid hrr
  have HL := Lib.hid hl
  have HBD := Lib.hid hbd
  have HA := Lib.hid hA
  have H4 := Lib.hid h4
  have H5 := Lib.hid h5
  have H6 := Lib.hid h6
  have hw : wrap64 ((r : Int) + 1) = ((r + 1 : Nat) : Int) := by unfold wrap64; omega
  have hh := onceW_bits k r h2 h3
  have HLIT : Hid (∀ B, B ≤ V.heap.size → Own 64 1 u64C (V.alloc (.cells #[.int .u64 (onceW k r)] 64)) B (.slice (some ⟨V.heap.size, 0, none⟩) 1 1) [onceW k r]) :=
    Lib.hid fun B hB => Own.lit u64Cells [onceW k r] _ rfl 1 rfl (by simpa using hB) (by simp [maxLen]) _ (by simp)
  have HZ : Hid (∀ (i : TypeInfo) (z : Value) (m : Nat), Try.prog.info? 64 = some i → i.zero = some z → (Builtin.zeroCells z.cells m).toList = (List.replicate m (0 : Int)).flatMap u64C) := Lib.hid fun i z m hi hz => by
    have h := u64Info0
    rw [hi] at h
    simp only [Option.map_some, Option.some.injEq, Prod.mk.injEq] at h
    rw [h.1] at hz
    injection hz with hz
    subst hz
    clear h
    induction m with
    | zero => simp [Builtin.zeroCells]
    | succ m ih =>
      rw [List.replicate_succ', List.flatMap_append, ← ih]
      simp [Builtin.zeroCells, Value.cells, u64C, List.range_succ, Nat.mod_one]
  clear c0 hu h2 h3 h4 h5 h6 hl hbd hA hrr
  go_enter Try.func9, Try.ntmps9
  go_wp2_with (first
    | (at_builtin; refine wpList_app_src rfl (.tmp 62) (.tmp 63) 33 rfl u64Info u64Cells rfl (by exact HLIT.out V.heap.size (Nat.le_refl _)) rs A cap HA.out (r + 1) r (by rw [HRR.out]; simp; omega) HRR.out rfl (by exact RowAt.ext HL.out ((Ext.refl _).alloc _)) (by have := HR.out; omega) (by have := HR.out; simp [maxLen]; omega) (by simp) ?_; intro A3 cap3 W3 hown3 hgr3 hat3; have hX3 : Ext V W3 := Own.below (HLIT.out V.heap.size (Nat.le_refl _)) ((Below.refl _ _).alloc (Nat.le_refl _) _) hgr3 (by simp); obtain ⟨g3, rfl, hg3, hg4⟩ := own_some hown3 (by simp); have HO3 := Lib.hid hown3; have HX3 := Lib.hid hX3; clear hown3 hgr3 hat3 hX3)
    | (at_builtin; refine wpList_app_zeros rfl (.tmp 65) (.tmp 66) 33 3 .i64 rfl u64Info Try.underlying3 u64Cells (0 : Int) HZ.out _ (r + 1) _ rfl (by exact HO3.out) (by simp [HRR.out]; try omega) (r + 1) (r + 1 + (r + 1)) (by omega) rfl .i64 rfl (by have := HR.out; omega) (by have := HR.out; simp [maxLen]; omega) HX3.out.size ?_; intro g4 cap4 W4 hown4 hgr4; have hX4 : Ext V W4 := Own.below HO3.out HX3.out hgr4 HX3.out.size; have HO4 := Lib.hid hown4; have HX4 := Lib.hid hX4; clear hown4 hgr4 hX4))
  have HO : Hid (Own 64 1 u64C W4 V.heap.size (.slice (some ⟨g4, 0, none⟩) (r + 1 + (r + 1)) cap4) (onceL (onceW k r) rs)) := Lib.hid (by rw [onceL, HRR.out]; exact HO4.out)
  clear HO4 HZ HLIT hg3 hg4 hw hh d1 d2 d3 d4 d5 hur hup
  have hlen : (onceL (onceW k r) rs).length = r + 1 + (r + 1) := by rw [onceL_len, HRR.out]
  have ho := HO.out
  rw [← hlen] at ho
  have hws := (own_row ho u64Cells (by decide)).1
  clear ho
  have HLN := Lib.hid hlen
  have Z := aof_any (some ⟨g4, 0, none⟩) cap4 (onceL (onceW k r) rs) W4 hws (by rw [hlen]; have := HR.out; omega) (by
    intro z hz
    rcases List.mem_append.1 hz with h | h
    · rcases List.mem_cons.1 h with rfl | h
      · exact (onceW_dec k r HK.out HR.out).2.2.2
      · exact HBD.out z h
    · obtain rfl := List.eq_of_mem_replicate h
      omega)
  rw [hlen] at Z
  refine Z.mono ?_
  clear Z hws hlen
  rintro e w1 ⟨⟨p, A5, cap5, rfl, hA5⟩, hx⟩
  have HA5 := Lib.hid hA5
  have HX1 := Lib.hid hx
  clear hA5 hx
  go_wp2_with fail
  have Z := losnew_empty W4.heap.size p A5 cap5 (onceL (onceW k r) rs) 0 0 none 0 [] w1 HA5.out ⟨0, 0, by simp, by simp⟩ (by decide) (fun h => by cases h) a22_led (by decide)
  refine Z.mono ?_
  clear Z
  rintro e w2 ⟨b, rfl, hlo, hx⟩
  have HLO := Lib.hid hlo
  replace HX1 := Lib.hid (HX1.out.trans hx)
  clear hlo hx HA5
  go_wp2_with fail
  have hR50 := HR.out
  have Z := crnew_ok W4 0 ((r : Int) + 1) ((r : Int) + 1) ((r : Int) + 1) ((r : Int) + 1) HLO.out HX1.out (by rw [HLN.out]; simp [withinB, mayB]; omega) (by rw [HLN.out]; simp [withinB, mayB]; omega) (by simp [meetsB, mayB, hasB]; try omega) (by omega) (by omega)
  rw [HLN.out] at Z
  refine Z.mono ?_
  clear Z hR50
  rintro e w3 ⟨R, B, rfl, hr, hx⟩
  have HW : Hid (RunV W4 (kO R p b B (r + 1) A5 cap5) ⟨onceL (onceW k r) rs, 0, 0, 0, 0, 0, 0⟩ w3) := Lib.hid hr
  clear hr hx HLO HX1
  go_wp2_with fail
  have HI : Hid (OnceI W4 R p b B r A5 cap5 k rs 0 w3) := Lib.hid (.inl ⟨rfl, HW.out⟩)
  clear HW
  obtain ⟨M, rfl⟩ := Int.eq_ofNat_of_zero_le (Int.le_trans (by decide) H4.out)
  go_loopw [17] (fun i wr => ∃ j : Nat, j ≤ M ∧ i = .int .i64 j ∧ Hid (OnceI W4 R p b B r A5 cap5 k rs j wr)) (fun i _ => M - (intOf i).toNat)
  case atStart => exact ⟨0, by omega, rfl, HI⟩
  case round =>
    obtain ⟨j, hj, rfl, HJ⟩ := hrel
    by_cases hlt : j < M
    · have HLT := Lib.hid hlt
      have dj : decide ((j : Int) < (M : Int)) = true := by simpa using hlt
      go_wp2_with fail
      refine (onceI_step HK.out HR.out HRR.out HJ.out).mono ?_
      rintro e w5 ⟨rfl, hI⟩
      have HJ2 := Lib.hid hI
      have hX := onceX r HR.out
      by_cases h0 : j = 0
      · subst h0
        clear hI HJ hlt
        go_wp2_with fail
        go_roundw
        case rel => exact ⟨1, by have := HLT.out; omega, rfl, HJ2⟩
        case measure => have := HLT.out; simp [intOf]; omega
      · have e0 : decide (j = 0) = false := by simpa using h0
        have e1 : ((j : Int) == 0) = false := by rw [beq_eq_false_iff_ne]; omega
        clear hI HJ hlt h0
        go_wp2_with fail
        go_roundw
        case rel => exact ⟨j + 1, by have := HLT.out; omega, by have h1 := HLT.out; have h2 := H5.out; rw [show wrap64 ((j : Int) + 1) = ((j + 1 : Nat) : Int) from by unfold wrap64; omega], HJ2⟩
        case measure => have h1 := HLT.out; have h2 := H5.out; rw [show wrap64 ((j : Int) + 1) = ((j + 1 : Nat) : Int) from by unfold wrap64; omega]; simp [intOf]; omega
    · have HW : Hid (RunV W4 (kO R p b B (r + 1) A5 cap5) ⟨onceD (onceW k r) rs, (r + 1 : Nat), (r + 1 : Nat), 0, 0, 0, 0⟩ wr) := by
        rcases HJ.out with ⟨h1, h2⟩ | ⟨h1, h2⟩
        · have := H4.out; omega
        · exact Lib.hid h2
      have dj : decide (j < M) = false := by simpa using hlt
      have hwl : (onceD (onceW k r) rs).length = r + 1 + (r + 1) := by have := HRR.out; simp [onceD]; omega
      have HWL := Lib.hid hwl
      have hrf : refB u = false := by
        have := H6.out
        have hd : decT u ≠ 2 := by
          unfold decT
          split
          · decide
          · split
            · omega
            · decide
        rw [refB]
        simpa using hd
      have HRF := Lib.hid hrf
      clear HJ hlt hwl hrf
      go_wp2_with fail
      have Z : Calls Try.prog 39 #[.pointer (some ⟨R, 0, none⟩), .int .u64 u] wr (RunPost W4 (kO R p b B (r + 1) A5 cap5) (.tuple #[.int .u64 u, .bool false, .int .i64 0]) ⟨onceD (onceW k r) rs, (r + 1 : Nat), (r + 1 : Nat), 0, 0, 0, 0⟩ wr) := crfw_none HW.out u HU.out HRF.out
      refine Z.mono ?_
      clear Z
      rintro e w5 ⟨rfl, hw, -⟩
      replace HW := Lib.hid hw
      clear hw
      go_wp2_with fail
      have hao : ArO W4.heap.size w5 p A5 cap5 (onceD (onceW k r) rs) := HW.out.own
      have Z := awords_own p A5 cap5 (r + 1 + (r + 1)) (onceD (onceW k r) rs) W4.heap.size w5 hao HWL.out
      refine Z.mono ?_
      clear Z hao
      rintro e w6 ⟨A6, cap6, rfl, ho6, hx6⟩
      have HO6 := Lib.hid ho6
      replace HW := Lib.hid (HW.out.grow hx6)
      clear ho6 hx6
      have hdr : (onceD (onceW k r) rs).drop (r + 1) = onceW k r :: rs := by
        have h1 := HRR.out
        unfold onceD
        rw [List.drop_append_of_le_length (by simp; omega), List.drop_of_length_le (by simp [h1])]
        rfl
      have htk : (onceL (onceW k r) rs).take (r + 1) = onceW k r :: rs := by
        have h1 := HRR.out
        unfold onceL
        rw [List.take_append_of_le_length (by simp [h1]), List.take_of_length_le (by simp [h1])]
      obtain ⟨g6, rfl, hg6, -⟩ := own_some HO6.out (fun e => by have := HWL.out; rw [e] at this; simp at this)
      have hrow6 : WordsAt w6 (some ⟨g6, r + 1, none⟩) (onceW k r :: rs) := by
        have ho := HO6.out
        rw [← HWL.out] at ho
        have h1 := (own_row ho u64Cells (by decide)).1.drop (r + 1)
        rw [hdr] at h1
        simpa using h1
      have hrow4 : WordsAt w6 (some ⟨g4, 0, none⟩) (onceW k r :: rs) := by
        have ho := HO.out.ext HW.out.ext
        rw [← HLN.out] at ho
        have h1 := (own_row ho u64Cells (by decide)).1.take (r + 1)
        rw [htk] at h1
        exact h1
      have hl1 : (onceW k r :: rs).length = r + 1 := by simp [HRR.out]
      have hcap6 := (own_row (by rw [HWL.out]; exact HO6.out : Own 64 1 u64C w6 w5.heap.size (.slice (some ⟨g6, 0, none⟩) (onceD (onceW k r) rs).length cap6) _) u64Cells (by decide)).2.2
      have hcap4 := (own_row (by rw [HLN.out]; exact HO.out : Own 64 1 u64C W4 V.heap.size (.slice (some ⟨g4, 0, none⟩) (onceL (onceW k r) rs).length cap4) _) u64Cells (by decide)).2.2
      rw [HWL.out] at hcap6
      rw [HLN.out] at hcap4
      have HSM : Hid (∀ x : ExtOf w6, Calls Try.prog 41 #[.slice (some ⟨g6, r + 1, none⟩) (r + 1) (cap6 - (r + 1)), .slice (some ⟨g4, 0, none⟩) (r + 1) cap4] x.1 fun e w' => e = .returned (.bool true) ∧ Ext x.1 w') := Lib.hid (fun x => by
        have Z := refsameU_any (some ⟨g6, r + 1, none⟩) (some ⟨g4, 0, none⟩) (cap6 - (r + 1)) cap4 (onceW k r :: rs) (onceW k r :: rs) x.1 (by rw [hl1]; have := HR.out; omega) (by rw [hl1]; have := HR.out; omega) (hrow6.ext x.2) (hrow4.ext x.2)
        rw [hl1, decide_eq_true rfl] at Z
        exact Z)
      have HTP : Hid (∀ x : ExtOf w6, Calls Try.prog 42 #[.pointer (some ⟨R, 0, none⟩)] x.1 fun e w' => e = .returned (.int .i64 (((r + 1 : Nat) : Int) + ((r + 1 : Nat) : Int))) ∧ Ext x.1 w') := Lib.hid (fun x => crtop (HW.out.grow x.2))
      have HWK : Hid (∀ x : ExtOf w6, Calls Try.prog 43 #[.pointer (some ⟨R, 0, none⟩)] x.1 fun e w' => e = .returned (.agg #[.int .i64 ((r + 1 : Nat) : Int), .int .i64 0, .int .i64 0, .int .i64 0, .int .i64 0]) ∧ Ext x.1 w') := Lib.hid (fun x => crwork (HW.out.grow x.2))
      have HAW : Hid (∀ x : ExtOf w6, Calls Try.prog 36 #[] x.1 fun e w' => e = .returned (.bool true) ∧ Ext x.1 w') := Lib.hid (fun x => awake22_any x.1)
      have HXE := Lib.hid (HX4.out.trans HW.out.ext)
      have dE : ((r : Int) + 1 + ((r : Int) + 1) != wrap64 (2 * ((r : Int) + 1))) = false := by rw [bne_eq_false_iff_eq]; have := HR.out; unfold wrap64; omega
      have dF : ((r : Int) + 1 + ((r : Int) + 1) == wrap64 (2 * ((r : Int) + 1))) = true := by rw [beq_iff_eq]; have := HR.out; unfold wrap64; omega
      have hs0 : Ext w6 w6 := Ext.refl _
      have jb1 : ((r + 1 : Nat) : Int) ≤ ((r + 1 + (r + 1) : Nat) : Int) := by omega
      have jb2 : ((r + 1 + (r + 1) : Nat) : Int) ≤ (cap6 : Int) := by omega
      have jb3 : ((r + 1 : Nat) : Int) ≤ (cap4 : Int) := by omega
      have jb0 : (0 : Int) ≤ ((r + 1 : Nat) : Int) := by omega
      clear hdr htk hrow6 hrow4 hl1 HW HO6 hg6
      go_wp2_with fail
      (refine wp_region_ext (W := w6) (by kernel_rfl) (by kernel_rfl) (by with_reducible assumption) ?_; (repeat (go_big_quiet_step (first | (go_at_call 41; with_reducible exact Calls.ext_of (HSM.out _)) | (go_at_call 42; with_reducible exact Calls.ext_of (HTP.out _)) | (go_at_call 43; with_reducible exact Calls.ext_of (HWK.out _)) | (go_at_call 36; with_reducible exact Calls.ext_of (HAW.out _))))); refine wpQuiet_nil ?_; intro w1 hx)
      go_wp2_with fail
      go_ret
      exact ⟨rfl, HXE.out.trans hx⟩
theorem u64_bdW {a : Int} (h : (Lit.int .u64 a).wf = true) : 0 ≤ a ∧ a < 18446744073709551616 := by
  have : 0 ≤ a ∧ a ≤ 18446744073709551615 := by simpa [Lit.wf, IntKind.min, IntKind.max, IntKind.signed, IntKind.bits] using h
  omega
theorem copierOnce_fin {k m u : Int} {x1 : Value} {w : World} (h0 : (Lit.int .i64 k).wf = true) (h1 : IsWords w x1) (h2 : (Lit.int .i64 m).wf = true) (h3 : (Lit.int .u64 u).wf = true) : Calls Try.prog 9 #[.int .i64 k, x1, .int .i64 m, .int .u64 u] w fun e w' => e = .returned (.bool true) ∧ Ext w w' := by
  obtain ⟨⟨A, cap, rs⟩, rfl, hl⟩ := h1
  have hu := u64_bdW h3
  simp only
  by_cases hb : k < 0 ∨ (0 ≤ k ∧ 31 < k) ∨ (0 ≤ k ∧ k ≤ 31 ∧ 50 < rs.length) ∨ (0 ≤ k ∧ k ≤ 31 ∧ rs.length ≤ 50 ∧ m < 1) ∨ (0 ≤ k ∧ k ≤ 31 ∧ rs.length ≤ 50 ∧ 1 ≤ m ∧ 50 < m) ∨ (0 ≤ k ∧ k ≤ 31 ∧ rs.length ≤ 50 ∧ 1 ≤ m ∧ m ≤ 50 ∧ u % 4 = 2)
  · exact once_bad k m u A rs.length cap w hu hb
  · obtain ⟨k, rfl⟩ := Int.eq_ofNat_of_zero_le (show 0 ≤ k by omega)
    exact once_main k rs.length m u A cap rs w rfl hu hl.nn hl.row hl.each (by omega) (by omega) (by omega) (by omega) (by omega)
end Go.Proofs.Ytkcpfimhbogdcaa

