/- Merged by program (merge.py) out of: StM, StN, StO, StP, StR, StS, StW, OwnC. -/
import Derived.Test.YtkcpfimhbogdcaaGreatMz29
import Derived.Test.YtkcpfimhbogdcaaGreatMz19
import Derived.Test.YtkcpfimhbogdcaaGreatMz13
/- A heap is judged: state.rules, state.judge (written by mkstm.py). -/
set_option linter.unusedSimpArgs false
set_option linter.unusedVariables false
namespace Go.Proofs.YtkcpfimhbogdcaaGreat
open Go.RowKit Go.Shelf

/-- The places of the small objects. -/
def smallsL (c0 c1 c2 c3 : Int) (sn : Bool) (ws : List Int) (top : Int) : List Int := listA (some ws) (halfA c0 c1 c2 c3 sn) (halfS c0 c1 c2 c3) top
/-- Where objects begin. -/
def startsB (zs : List Int) (tb : List (Int × Int)) : Int → Bool := fun x => decide (x ∈ zs) || decide (x ∈ tb.map (·.1))
/-- What the rules say, in order. -/
noncomputable def ruleL (c0 c1 c2 c3 : Int) (sn : Bool) (ws : List Int) (top : Int) (tb fr : List (Int × Int)) (sl : List (Bool × Int × Int)) : List Bool :=
  [cfgB c0 c1 c2 c3, decide ((ws.length : Int) = wordsZ c0 c1 c2 c3), topB c0 c1 c2 c3 sn top, decide (stopE (some ws) (halfA c0 c1 c2 c3 sn) (halfS c0 c1 c2 c3) top = 0), (smallsL c0 c1 c2 c3 sn ws top).all (smallO (some ws) c0 c1 c2 c3),
    ledR (largeA c0 c1 c2 c3) (largeS c0 c1 c2 c3) tb fr && tb.all (largeO (some ws) c0 c1 c2 c3), slotsB sl c2, (smallsL c0 c1 c2 c3 sn ws top ++ tb.map (·.1)).all (fieldsO (some ws) (startsB (smallsL c0 c1 c2 c3 sn ws top) tb)),
    sl.all (handleB (startsB (smallsL c0 c1 c2 c3 sn ws top) tb))]
/-- The first rule that does not hold; 0: all do. -/
def firstZ (rs : List Bool) : Int := match rs.findIdx? (fun b => !b) with
  | some i => i + 1
  | none => 0
noncomputable def checkZ (c0 c1 c2 c3 : Int) (sn : Bool) (ws : List Int) (top : Int) (tb fr : List (Int × Int)) (sl : List (Bool × Int × Int)) : Int := firstZ (ruleL c0 c1 c2 c3 sn ws top tb fr sl)
theorem first_at {rs : List Bool} {k : Nat} (hk : k < rs.length) (h : ∀ j, j < k → rs.getD j true = true) (h0 : rs.getD k true = false) : firstZ rs = k + 1 := by
  have : rs.findIdx? (fun b => !b) = some k := by
    rw [List.findIdx?_eq_some_iff_getElem]
    refine ⟨hk, by simpa [hk] using h0, fun j hj => ?_⟩
    have := h j hj
    simpa [show j < rs.length by omega] using this
  rw [firstZ, this]
theorem first_none {rs : List Bool} (h : ∀ j, j < rs.length → rs.getD j true = true) : firstZ rs = 0 := by
  have : rs.findIdx? (fun b => !b) = none := by
    rw [List.findIdx?_eq_none_iff]
    intro x hx
    obtain ⟨i, hi, rfl⟩ := List.getElem_of_mem hx
    have := h i hi
    simpa [hi] using this
  rw [firstZ, this]
def ruleC : Array Value := #[.func (.func 34) #[] #[], .func (.func 61) #[] #[], .func (.func 35) #[] #[], .func (.func 62) #[] #[], .func (.func 63) #[] #[], .func (.func 64) #[] #[], .func (.func 65) #[] #[], .func (.func 66) #[] #[], .func (.func 67) #[] #[]]
theorem rules_any (w : World) : Calls Tryz.prog 48 #[] w fun e w' => e = .returned (.slice (some ⟨w.heap.size, 0, none⟩) 9 9) ∧ w' = w.alloc (.cells ruleC 85) := by
  go_enter Tryz.func48, Tryz.ntmps48
  go_wp2
  go_ret
  exact ⟨rfl, rfl⟩
/-- What is known when so many rules hold. -/
def JLk (V : World) (cs : Array Value) (L k : Nat) (ws zs : List Int) (tb : List (Int × Int)) (W : World) : Prop :=
  (k ≤ 3 ∧ W.heap[L]? = some (.cells (cs ++ #[.pointer none, .slice none 0 0, .map none]) 59 (0, 0))) ∨
  (4 ≤ k ∧ ∃ c mb n A1 cap1 A2 cap2, V.heap.size ≤ mb ∧ n ≤ 2199023255553 + 98304 ∧ (k ≤ 5 → n ≤ 2199023255553) ∧ LkW V W L cs c mb n A1 cap1 ws A2 cap2 zs (if k ≤ 5 then fun x => decide (x ∈ zs) else startsB zs tb))
structure JSt (V : World) (cs : Array Value) (L R k : Nat) (ws zs : List Int) (tb : List (Int × Int)) (rs : List Bool) (W : World) : Prop where
  ext : Ext V W
  low : V.heap.size ≤ L
  rul : W.heap[R]? = some (.cells ruleC 85 (0, 0))
  ne : R ≠ L
  lk : JLk V cs L k ws zs tb W
  ok : ∀ j, j < k → rs.getD j true = true
theorem JSt.grow {V : World} {cs : Array Value} {L R k : Nat} {ws zs : List Int} {tb : List (Int × Int)} {rs : List Bool} {W W' : World} (h : JSt V cs L R k ws zs tb rs W) (hx : Ext W W') : JSt V cs L R k ws zs tb rs W' :=
  ⟨h.ext.trans hx, h.low, (hx.block (lt_of_heap h.rul)).trans h.rul, h.ne, h.lk.imp (fun h => ⟨h.1, (hx.block (lt_of_heap h.2)).trans h.2⟩) (fun ⟨h0, c, mb, n, A1, cap1, A2, cap2, h1, h2, h3, h4⟩ => ⟨h0, c, mb, n, A1, cap1, A2, cap2, h1, h2, h3, h4.grow hx⟩), h.ok⟩
/-- One rule more holds, and nothing of what is known has changed. -/
theorem JSt.next {V : World} {cs : Array Value} {L R k : Nat} {ws zs : List Int} {tb : List (Int × Int)} {rs : List Bool} {W : World} (h : JSt V cs L R k ws zs tb rs W) (h3 : k ≠ 3) (h5 : k ≠ 5) (hr : rs.getD k true = true) : JSt V cs L R (k + 1) ws zs tb rs W :=
  ⟨h.ext, h.low, h.rul, h.ne, h.lk.imp (fun h => ⟨by omega, h.2⟩) (fun ⟨h0, c, mb, n, A1, cap1, A2, cap2, h1, h2, h4, h6⟩ => ⟨by omega, c, mb, n, A1, cap1, A2, cap2, h1, h2, fun hk => h4 (by omega), by
    by_cases hk : k ≤ 5
    · rw [if_pos hk] at h6; rw [if_pos (by omega)]; exact h6
    · rw [if_neg hk] at h6; rw [if_neg (by omega)]; exact h6⟩), fun j hj => by
    rcases Nat.lt_or_ge j k with h' | h'
    · exact h.ok j h'
    · obtain rfl : j = k := by omega
      exact hr⟩
section
variable {c0 c1 c2 c3 : Int} {sn : Bool} {wA : Option Addr} {ws : List Int} {wc : Nat} {top : Int} {tA : Option Addr} {tb : List (Int × Int)} {tc : Nat} {fA : Option Addr} {fr : List (Int × Int)} {fc : Nat} {sA : Option Addr} {sl : List (Bool × Int × Int)} {sc : Nat}
/-- What comes back. -/
def RetJ (V : World) (cs : Array Value) (n : Int) (ws zs : List Int) (tb : List (Int × Int)) (e : Ending) (w' : World) : Prop :=
  ∃ L, e = .returned (.tuple #[.pointer (some ⟨L, 0, none⟩), .int .i64 n]) ∧ Ext V w' ∧ (n = 0 → ∃ c mb k A1 cap1 A2 cap2, LkW V w' L cs c mb k A1 cap1 ws A2 cap2 zs (startsB zs tb))
set_option maxRecDepth 100000
set_option maxHeartbeats 16000000
theorem judge_any (V : World) (HW : Pers V (fun w => WordsAt w wA ws)) (HT : Pers V (fun w => SpansAt w tA tb)) (HF : Pers V (fun w => SpansAt w fA fr)) (HS : Pers V (fun w => SlotsAt w sA sl)) (hwl : ws.length ≤ 98304) (htl : tb.length ≤ 98304) (hfl : fr.length ≤ 98304) (hsl : sl.length ≤ 98304)
    (hwb : ∀ z ∈ ws, 0 ≤ z ∧ z < 18446744073709551616) (htb : ∀ x ∈ tb, (-9223372036854775808 ≤ x.1 ∧ x.1 ≤ 9223372036854775807)) (hsb : ∀ x ∈ sl, 0 ≤ x.2.2 ∧ x.2.2 < 18446744073709551616) :
    Calls Tryz.prog 18 #[.agg #[.int .i64 c0, .int .i64 c1, .int .i64 c2, .int .i64 c3, .bool sn, .slice wA ws.length wc, .int .i64 top, .slice tA tb.length tc, .slice fA fr.length fc, .slice sA sl.length sc]] V (RetJ V #[.int .i64 c0, .int .i64 c1, .int .i64 c2, .int .i64 c3, .bool sn, .slice wA ws.length wc, .int .i64 top, .slice tA tb.length tc, .slice fA fr.length fc, .slice sA sl.length sc] (checkZ c0 c1 c2 c3 sn ws top tb fr sl) ws (smallsL c0 c1 c2 c3 sn ws top) tb) := by
  have hzb := fun x (h : x ∈ smallsL c0 c1 c2 c3 sn ws top) => list_bd (l := some ws) (a := halfA c0 c1 c2 c3 sn) (s := halfS c0 c1 c2 c3) (top := top) h
  have hzl : (smallsL c0 c1 c2 c3 sn ws top).length ≤ 2199023255553 := list_len (some ws) (halfA c0 c1 c2 c3 sn) (halfS c0 c1 c2 c3) top
  obtain ⟨zs, hz⟩ : ∃ zs, smallsL c0 c1 c2 c3 sn ws top = zs := ⟨_, rfl⟩
  obtain ⟨rs, hrs⟩ : ∃ rs, ruleL c0 c1 c2 c3 sn ws top tb fr sl = rs := ⟨_, rfl⟩
  rw [hz] at hzb hzl
  have HRS := Lib.hid hrs
  have hRL : rs.length = 9 := by rw [← hrs]; rfl
  have HRL := Lib.hid hRL
  have HCK : Hid (checkZ c0 c1 c2 c3 sn ws top tb fr sl = firstZ rs) := Lib.hid (by rw [checkZ, hrs])
  rw [HCK.out, hz]
  have HZ := Lib.hid hz
  have HZB := Lib.hid hzb
  have HWB := Lib.hid hwb
  have HTB := Lib.hid htb
  have HSB := Lib.hid hsb
  have hL0 := blk_old (o2 := .cells ruleC 85) (blk_new (V.alloc (.cells #[.int .i64 c0, .int .i64 c1, .int .i64 c2, .int .i64 c3, .bool sn, .slice wA ws.length wc, .int .i64 top, .slice tA tb.length tc, .slice fA fr.length fc, .slice sA sl.length sc] 28)) #[.int .i64 c0, .int .i64 c1, .int .i64 c2, .int .i64 c3, .bool sn, .slice wA ws.length wc, .int .i64 top, .slice tA tb.length tc, .slice fA fr.length fc, .slice sA sl.length sc, .pointer none, .slice none 0 0, .map none] 59 (V.heap.size + 1) (by simp))
  have hR0 := blk_new ((V.alloc (.cells #[.int .i64 c0, .int .i64 c1, .int .i64 c2, .int .i64 c3, .bool sn, .slice wA ws.length wc, .int .i64 top, .slice tA tb.length tc, .slice fA fr.length fc, .slice sA sl.length sc] 28)).alloc (.cells #[.int .i64 c0, .int .i64 c1, .int .i64 c2, .int .i64 c3, .bool sn, .slice wA ws.length wc, .int .i64 top, .slice tA tb.length tc, .slice fA fr.length fc, .slice sA sl.length sc, .pointer none, .slice none 0 0, .map none] 59)) ruleC 85 (V.heap.size + 1 + 1) (by simp)
  have hX0 := (((Ext.refl V).alloc (.cells #[.int .i64 c0, .int .i64 c1, .int .i64 c2, .int .i64 c3, .bool sn, .slice wA ws.length wc, .int .i64 top, .slice tA tb.length tc, .slice fA fr.length fc, .slice sA sl.length sc] 28)).alloc (.cells #[.int .i64 c0, .int .i64 c1, .int .i64 c2, .int .i64 c3, .bool sn, .slice wA ws.length wc, .int .i64 top, .slice tA tb.length tc, .slice fA fr.length fc, .slice sA sl.length sc, .pointer none, .slice none 0 0, .map none] 59)).alloc (.cells ruleC 85)
  have HJ0 : Hid (JSt V #[.int .i64 c0, .int .i64 c1, .int .i64 c2, .int .i64 c3, .bool sn, .slice wA ws.length wc, .int .i64 top, .slice tA tb.length tc, .slice fA fr.length fc, .slice sA sl.length sc] (V.heap.size + 1) (V.heap.size + 1 + 1) 0 ws zs tb rs _) := Lib.hid ⟨hX0, by omega, hR0, by omega, .inl ⟨by omega, hL0⟩, by omega⟩
  clear hz hrs hRL hzb hwb htb hsb hL0 hR0 hX0
  go_enter Tryz.func18, Tryz.ntmps18
  go_wp2_with fail
  refine (rules_any _).mono ?_
  rintro e w1 ⟨rfl, rfl⟩
  go_wp2_with fail
  generalize ((V.alloc (.cells #[.int .i64 c0, .int .i64 c1, .int .i64 c2, .int .i64 c3, .bool sn, .slice wA ws.length wc, .int .i64 top, .slice tA tb.length tc, .slice fA fr.length fc, .slice sA sl.length sc] 28)).alloc (.cells #[.int .i64 c0, .int .i64 c1, .int .i64 c2, .int .i64 c3, .bool sn, .slice wA ws.length wc, .int .i64 top, .slice tA tb.length tc, .slice fA fr.length fc, .slice sA sl.length sc, .pointer none, .slice none 0 0, .map none] 59)).alloc (.cells ruleC 85) = W0 at *
  generalize V.heap.size + 1 + 1 = R at *
  generalize V.heap.size + 1 = L at *
  go_loopw [5, 6, 12] (fun _ _ i wr => ∃ k : Nat, k ≤ 9 ∧ i = .int .i64 k ∧ Hid (JSt V #[.int .i64 c0, .int .i64 c1, .int .i64 c2, .int .i64 c3, .bool sn, .slice wA ws.length wc, .int .i64 top, .slice tA tb.length tc, .slice fA fr.length fc, .slice sA sl.length sc] L R k ws zs tb rs wr)) (fun _ _ i _ => 9 - (intOf i).toNat)
  case atStart => exact ⟨0, by omega, rfl, HJ0⟩
  case round =>
    obtain ⟨k, hk, rfl, HJ⟩ := hrel
    clear HJ0
    have hk9 : k = 0 ∨ k = 1 ∨ k = 2 ∨ k = 3 ∨ k = 4 ∨ k = 5 ∨ k = 6 ∨ k = 7 ∨ k = 8 ∨ k = 9 := by omega
    have gR := (cells_of HJ.out.rul).1 k
    have HNO := Lib.hid (fun (w' : World) (n : Nat) (hn : n = k + 1) (hk : k < 9) (h : rs.getD k true = false) (hx : Ext V w') => (show RetJ V #[.int .i64 c0, .int .i64 c1, .int .i64 c2, .int .i64 c3, .bool sn, .slice wA ws.length wc, .int .i64 top, .slice tA tb.length tc, .slice fA fr.length fc, .slice sA sl.length sc] (firstZ rs) ws zs tb (.returned (.tuple #[.pointer (some ⟨L, 0, none⟩), .int .i64 (n : Int)])) w' from ⟨L, by rw [first_at (by rw [HRL.out]; exact hk) HJ.out.ok h, hn]; rfl, hx, fun h0 => by rw [first_at (by rw [HRL.out]; exact hk) HJ.out.ok h] at h0; omega⟩))
    rcases hk9 with rfl | rfl | rfl | rfl | rfl | rfl | rfl | rfl | rfl | rfl
    · -- config
      replace gR : wr.cell? ⟨R, 0, none⟩ = some (.func (.func 34) #[] #[]) := gR
      have hb := HJ.out.lk.elim (fun h => h.2) (fun h => absurd h.1 (by decide))
      obtain ⟨b, hbv⟩ : ∃ b, (cfgB c0 c1 c2 c3) = b := ⟨_, rfl⟩
      have HRK : Hid (rs.getD 0 true = b) := Lib.hid (by rw [← HRS.out, ← hbv]; rfl)
      have HBV := Lib.hid hbv
      clear hbv
      have Z := stconfig_any (pers_blk hb)
      rw [HBV.out] at Z
      cases b
      · go_wp2_with fail
        refine Z.mono ?_
        clear Z
        rintro e w2 ⟨rfl, hx⟩
        have HX2 := Lib.hid hx
        clear hx
        clear gR hb
        go_wp2_with fail
        go_ret2
        exact HNO.out _ 1 rfl (by decide) HRK.out (HJ.out.ext.trans HX2.out)
      · go_wp2_with fail
        refine Z.mono ?_
        clear Z
        rintro e w2 ⟨rfl, hx⟩
        have HX2 := Lib.hid hx
        clear hx
        clear gR hb
        go_wp2_with fail
        have HJ2 : Hid (JSt V #[.int .i64 c0, .int .i64 c1, .int .i64 c2, .int .i64 c3, .bool sn, .slice wA ws.length wc, .int .i64 top, .slice tA tb.length tc, .slice fA fr.length fc, .slice sA sl.length sc] L R 1 ws zs tb rs w2) := Lib.hid ((HJ.out.grow HX2.out).next (by decide) (by decide) HRK.out)
        go_roundw
        case rel => exact ⟨1, by omega, by first | rfl | go_num, HJ2⟩
        case measure => simp [intOf]
    · -- words
      replace gR : wr.cell? ⟨R, 1, none⟩ = some (.func (.func 61) #[] #[]) := gR
      have hb := HJ.out.lk.elim (fun h => h.2) (fun h => absurd h.1 (by decide))
      obtain ⟨b, hbv⟩ : ∃ b, (decide ((ws.length : Int) = wordsZ c0 c1 c2 c3)) = b := ⟨_, rfl⟩
      have HRK : Hid (rs.getD 1 true = b) := Lib.hid (by rw [← HRS.out, ← hbv]; rfl)
      have HBV := Lib.hid hbv
      clear hbv
      have Z := stwords_any (pers_blk hb) (by omega)
      rw [HBV.out] at Z
      cases b
      · go_wp2_with fail
        refine Z.mono ?_
        clear Z
        rintro e w2 ⟨rfl, hx⟩
        have HX2 := Lib.hid hx
        clear hx
        clear gR hb
        go_wp2_with fail
        go_ret2
        exact HNO.out _ 2 rfl (by decide) HRK.out (HJ.out.ext.trans HX2.out)
      · go_wp2_with fail
        refine Z.mono ?_
        clear Z
        rintro e w2 ⟨rfl, hx⟩
        have HX2 := Lib.hid hx
        clear hx
        clear gR hb
        go_wp2_with fail
        have HJ2 : Hid (JSt V #[.int .i64 c0, .int .i64 c1, .int .i64 c2, .int .i64 c3, .bool sn, .slice wA ws.length wc, .int .i64 top, .slice tA tb.length tc, .slice fA fr.length fc, .slice sA sl.length sc] L R 2 ws zs tb rs w2) := Lib.hid ((HJ.out.grow HX2.out).next (by decide) (by decide) HRK.out)
        go_roundw
        case rel => exact ⟨2, by omega, by first | rfl | go_num, HJ2⟩
        case measure => simp [intOf]
    · -- top
      replace gR : wr.cell? ⟨R, 2, none⟩ = some (.func (.func 35) #[] #[]) := gR
      have hb := HJ.out.lk.elim (fun h => h.2) (fun h => absurd h.1 (by decide))
      obtain ⟨b, hbv⟩ : ∃ b, (topB c0 c1 c2 c3 sn top) = b := ⟨_, rfl⟩
      have HRK : Hid (rs.getD 2 true = b) := Lib.hid (by rw [← HRS.out, ← hbv]; rfl)
      have HBV := Lib.hid hbv
      clear hbv
      have Z := sttop_any (pers_blk hb)
      rw [HBV.out] at Z
      cases b
      · go_wp2_with fail
        refine Z.mono ?_
        clear Z
        rintro e w2 ⟨rfl, hx⟩
        have HX2 := Lib.hid hx
        clear hx
        clear gR hb
        go_wp2_with fail
        go_ret2
        exact HNO.out _ 3 rfl (by decide) HRK.out (HJ.out.ext.trans HX2.out)
      · go_wp2_with fail
        refine Z.mono ?_
        clear Z
        rintro e w2 ⟨rfl, hx⟩
        have HX2 := Lib.hid hx
        clear hx
        clear gR hb
        go_wp2_with fail
        have HJ2 : Hid (JSt V #[.int .i64 c0, .int .i64 c1, .int .i64 c2, .int .i64 c3, .bool sn, .slice wA ws.length wc, .int .i64 top, .slice tA tb.length tc, .slice fA fr.length fc, .slice sA sl.length sc] L R 3 ws zs tb rs w2) := Lib.hid ((HJ.out.grow HX2.out).next (by decide) (by decide) HRK.out)
        go_roundw
        case rel => exact ⟨3, by omega, by first | rfl | go_num, HJ2⟩
        case measure => simp [intOf]
    · -- walks
      replace gR : wr.cell? ⟨R, 3, none⟩ = some (.func (.func 62) #[] #[]) := gR
      have hb := HJ.out.lk.elim (fun h => h.2) (fun h => absurd h.1 (by decide))
      obtain ⟨b, hbv⟩ : ∃ b, (decide (stopE (some ws) (halfA c0 c1 c2 c3 sn) (halfS c0 c1 c2 c3) top = 0)) = b := ⟨_, rfl⟩
      have HRK : Hid (rs.getD 3 true = b) := Lib.hid (by rw [← HRS.out, ← hbv]; rfl)
      have HBV := Lib.hid hbv
      clear hbv
      have Z := stwalks_any HJ.out.ext HJ.out.low hb HW hwl HWB.out
      rw [show listA (some ws) (halfA c0 c1 c2 c3 sn) (halfS c0 c1 c2 c3) top = zs from HZ.out, HBV.out] at Z
      cases b
      · go_wp2_with fail
        refine Z.mono ?_
        clear Z
        rintro e w2 ⟨c, mb, A1, cap1, A2, cap2, rfl, hmb, hlk, hkc⟩
        have HL2 := Lib.hid hlk
        have HK2 := Lib.hid hkc
        clear hlk hkc
        clear gR hb
        go_wp2_with fail
        go_ret2
        exact HNO.out _ 4 rfl (by decide) HRK.out (HL2.out.ext)
      · go_wp2_with fail
        refine Z.mono ?_
        clear Z
        rintro e w2 ⟨c, mb, A1, cap1, A2, cap2, rfl, hmb, hlk, hkc⟩
        have HL2 := Lib.hid hlk
        have HK2 := Lib.hid hkc
        clear hlk hkc
        clear gR hb
        go_wp2_with fail
        have HJ2 : Hid (JSt V #[.int .i64 c0, .int .i64 c1, .int .i64 c2, .int .i64 c3, .bool sn, .slice wA ws.length wc, .int .i64 top, .slice tA tb.length tc, .slice fA fr.length fc, .slice sA sl.length sc] L R 4 ws zs tb rs w2) := Lib.hid ⟨HL2.out.ext, HJ.out.low, HK2.out.keep R _ HJ.out.ne HJ.out.rul rfl, HJ.out.ne, .inr ⟨by decide, c, mb, zs.length, A1, cap1, A2, cap2, hmb, by omega, fun _ => hzl, by simp only [show (4 : Nat) ≤ 5 from by decide, if_true]; exact HL2.out⟩, fun j hj => by
          rcases Nat.lt_or_ge j 3 with h' | h'
          · exact HJ.out.ok j h'
          · obtain rfl : j = 3 := by omega
            exact HRK.out⟩
        go_roundw
        case rel => exact ⟨4, by omega, by first | rfl | go_num, HJ2⟩
        case measure => simp [intOf]
    · -- smalls
      replace gR : wr.cell? ⟨R, 4, none⟩ = some (.func (.func 63) #[] #[]) := gR
      obtain ⟨-, c, mb, n, A1, cap1, A2, cap2, hmb, hn, hn5, hlk⟩ := HJ.out.lk.elim (fun h => absurd h.1 (by decide)) (fun h => h)
      simp only [show (4 : Nat) ≤ 5 from by decide, if_true] at hlk
      have HLK := Lib.hid hlk
      clear hlk
      obtain ⟨b, hbv⟩ : ∃ b, (zs.all (smallO (some ws) c0 c1 c2 c3)) = b := ⟨_, rfl⟩
      have HRK : Hid (rs.getD 4 true = b) := Lib.hid (by rw [← HRS.out, ← hbv, ← HZ.out]; rfl)
      have HBV := Lib.hid hbv
      clear hbv
      have Z := stsmalls_any HLK.out (fun x hx => (HZB.out x hx).2.2) hzl
      rw [HBV.out] at Z
      cases b
      · go_wp2_with fail
        refine Z.mono ?_
        clear Z
        rintro e w2 ⟨rfl, hx⟩
        have HX2 := Lib.hid hx
        clear hx
        clear gR
        go_wp2_with fail
        go_ret2
        exact HNO.out _ 5 rfl (by decide) HRK.out (HJ.out.ext.trans HX2.out)
      · go_wp2_with fail
        refine Z.mono ?_
        clear Z
        rintro e w2 ⟨rfl, hx⟩
        have HX2 := Lib.hid hx
        clear hx
        clear gR
        go_wp2_with fail
        have HJ2 : Hid (JSt V #[.int .i64 c0, .int .i64 c1, .int .i64 c2, .int .i64 c3, .bool sn, .slice wA ws.length wc, .int .i64 top, .slice tA tb.length tc, .slice fA fr.length fc, .slice sA sl.length sc] L R 5 ws zs tb rs w2) := Lib.hid ((HJ.out.grow HX2.out).next (by decide) (by decide) HRK.out)
        go_roundw
        case rel => exact ⟨5, by omega, by first | rfl | go_num, HJ2⟩
        case measure => simp [intOf]
    · -- larges
      replace gR : wr.cell? ⟨R, 5, none⟩ = some (.func (.func 64) #[] #[]) := gR
      obtain ⟨-, c, mb, n, A1, cap1, A2, cap2, hmb, hn, hn5, hlk⟩ := HJ.out.lk.elim (fun h => absurd h.1 (by decide)) (fun h => h)
      simp only [show (5 : Nat) ≤ 5 from by decide, if_true] at hlk
      have HLK := Lib.hid hlk
      clear hlk
      obtain ⟨b, hbv⟩ : ∃ b, (ledR (largeA c0 c1 c2 c3) (largeS c0 c1 c2 c3) tb fr && tb.all (largeO (some ws) c0 c1 c2 c3)) = b := ⟨_, rfl⟩
      have HRK : Hid (rs.getD 5 true = b) := Lib.hid (by rw [← HRS.out, ← hbv]; rfl)
      have HBV := Lib.hid hbv
      clear hbv
      have Z := stlarges_any HLK.out hmb (hn5 (by decide)) HT HF htl hfl HTB.out
      rw [HBV.out] at Z
      cases b
      · go_wp2_with fail
        refine Z.mono ?_
        clear Z
        rintro e w2 ⟨rfl, n', S', hlk, hle, hS, hkc⟩
        have HL2 := Lib.hid hlk
        have HK2 := Lib.hid hkc
        have HS2 := Lib.hid hS
        clear hlk hkc hS
        clear gR
        go_wp2_with fail
        go_ret2
        exact HNO.out _ 6 rfl (by decide) HRK.out (HL2.out.ext)
      · go_wp2_with fail
        refine Z.mono ?_
        clear Z
        rintro e w2 ⟨rfl, n', S', hlk, hle, hS, hkc⟩
        have HL2 := Lib.hid hlk
        have HK2 := Lib.hid hkc
        have HS2 : Hid (S' = startsB zs tb) := Lib.hid (hS rfl)
        clear hlk hkc hS
        clear gR
        go_wp2_with fail
        have HJ2 : Hid (JSt V #[.int .i64 c0, .int .i64 c1, .int .i64 c2, .int .i64 c3, .bool sn, .slice wA ws.length wc, .int .i64 top, .slice tA tb.length tc, .slice fA fr.length fc, .slice sA sl.length sc] L R 6 ws zs tb rs w2) := Lib.hid ⟨HL2.out.ext, HJ.out.low, HK2.out.keep R _ HJ.out.ne HJ.out.rul rfl, HJ.out.ne, .inr ⟨by decide, c, mb, n', A1, cap1, A2, cap2, hmb, by have := hn5 (by decide); omega, fun h => absurd h (by decide), by
          have h7 := HL2.out
          rw [HS2.out] at h7
          simp only [show ¬ (6 : Nat) ≤ 5 from by decide, if_false]
          exact h7⟩, fun j hj => by
          rcases Nat.lt_or_ge j 5 with h' | h'
          · exact HJ.out.ok j h'
          · obtain rfl : j = 5 := by omega
            exact HRK.out⟩
        go_roundw
        case rel => exact ⟨6, by omega, by first | rfl | go_num, HJ2⟩
        case measure => simp [intOf]
    · -- slots
      replace gR : wr.cell? ⟨R, 6, none⟩ = some (.func (.func 65) #[] #[]) := gR
      obtain ⟨-, c, mb, n, A1, cap1, A2, cap2, hmb, hn, hn5, hlk⟩ := HJ.out.lk.elim (fun h => absurd h.1 (by decide)) (fun h => h)
      simp only [show ¬ (6 : Nat) ≤ 5 from by decide, if_false] at hlk
      have HLK := Lib.hid hlk
      clear hlk
      obtain ⟨b, hbv⟩ : ∃ b, (slotsB sl c2) = b := ⟨_, rfl⟩
      have HRK : Hid (rs.getD 6 true = b) := Lib.hid (by rw [← HRS.out, ← hbv]; rfl)
      have HBV := Lib.hid hbv
      clear hbv
      have Z := stslots_any (p := .pointer (some ⟨c, 0, none⟩)) (fun w k => (HLK.out.grow k).blk) (HS.re HJ.out.ext) (by omega) HSB.out
      rw [HBV.out] at Z
      cases b
      · go_wp2_with fail
        refine Z.mono ?_
        clear Z
        rintro e w2 ⟨rfl, hx⟩
        have HX2 := Lib.hid hx
        clear hx
        clear gR
        go_wp2_with fail
        go_ret2
        exact HNO.out _ 7 rfl (by decide) HRK.out (HJ.out.ext.trans HX2.out)
      · go_wp2_with fail
        refine Z.mono ?_
        clear Z
        rintro e w2 ⟨rfl, hx⟩
        have HX2 := Lib.hid hx
        clear hx
        clear gR
        go_wp2_with fail
        have HJ2 : Hid (JSt V #[.int .i64 c0, .int .i64 c1, .int .i64 c2, .int .i64 c3, .bool sn, .slice wA ws.length wc, .int .i64 top, .slice tA tb.length tc, .slice fA fr.length fc, .slice sA sl.length sc] L R 7 ws zs tb rs w2) := Lib.hid ((HJ.out.grow HX2.out).next (by decide) (by decide) HRK.out)
        go_roundw
        case rel => exact ⟨7, by omega, by first | rfl | go_num, HJ2⟩
        case measure => simp [intOf]
    · -- fields
      replace gR : wr.cell? ⟨R, 7, none⟩ = some (.func (.func 66) #[] #[]) := gR
      obtain ⟨-, c, mb, n, A1, cap1, A2, cap2, hmb, hn, hn5, hlk⟩ := HJ.out.lk.elim (fun h => absurd h.1 (by decide)) (fun h => h)
      simp only [show ¬ (7 : Nat) ≤ 5 from by decide, if_false] at hlk
      have HLK := Lib.hid hlk
      clear hlk
      obtain ⟨b, hbv⟩ : ∃ b, ((zs ++ tb.map (·.1)).all (fieldsO (some ws) (startsB zs tb))) = b := ⟨_, rfl⟩
      have HRK : Hid (rs.getD 7 true = b) := Lib.hid (by rw [← HRS.out, ← hbv, ← HZ.out]; rfl)
      have HBV := Lib.hid hbv
      clear hbv
      have HF1 : Hid (b = true → ∀ x, startsB zs tb x = true → fieldsO (some ws) (startsB zs tb) x = true) := Lib.hid (fun h x hx => by
        have h0 := HBV.out
        rw [h, List.all_eq_true] at h0
        refine h0 x ?_
        simp only [startsB, Bool.or_eq_true, decide_eq_true_eq] at hx
        exact List.mem_append.2 hx)
      have HF2 : Hid ((∀ x, startsB zs tb x = true → fieldsO (some ws) (startsB zs tb) x = true) → b = true) := Lib.hid (fun h => by
        rw [← HBV.out, List.all_eq_true]
        intro x hx
        refine h x ?_
        simp only [startsB, Bool.or_eq_true, decide_eq_true_eq]
        exact List.mem_append.1 hx)
      have Z := stfields_any HLK.out b HF1.out HF2.out
      cases b
      · go_wp2_with fail
        refine Z.mono ?_
        clear Z
        rintro e w2 ⟨rfl, hx⟩
        have HX2 := Lib.hid hx
        clear hx
        clear gR
        go_wp2_with fail
        go_ret2
        exact HNO.out _ 8 rfl (by decide) HRK.out (HJ.out.ext.trans HX2.out)
      · go_wp2_with fail
        refine Z.mono ?_
        clear Z
        rintro e w2 ⟨rfl, hx⟩
        have HX2 := Lib.hid hx
        clear hx
        clear gR
        go_wp2_with fail
        have HJ2 : Hid (JSt V #[.int .i64 c0, .int .i64 c1, .int .i64 c2, .int .i64 c3, .bool sn, .slice wA ws.length wc, .int .i64 top, .slice tA tb.length tc, .slice fA fr.length fc, .slice sA sl.length sc] L R 8 ws zs tb rs w2) := Lib.hid ((HJ.out.grow HX2.out).next (by decide) (by decide) HRK.out)
        go_roundw
        case rel => exact ⟨8, by omega, by first | rfl | go_num, HJ2⟩
        case measure => simp [intOf]
    · -- handles
      replace gR : wr.cell? ⟨R, 8, none⟩ = some (.func (.func 67) #[] #[]) := gR
      obtain ⟨-, c, mb, n, A1, cap1, A2, cap2, hmb, hn, hn5, hlk⟩ := HJ.out.lk.elim (fun h => absurd h.1 (by decide)) (fun h => h)
      simp only [show ¬ (8 : Nat) ≤ 5 from by decide, if_false] at hlk
      have HLK := Lib.hid hlk
      clear hlk
      obtain ⟨b, hbv⟩ : ∃ b, (sl.all (handleB (startsB zs tb))) = b := ⟨_, rfl⟩
      have HRK : Hid (rs.getD 8 true = b) := Lib.hid (by rw [← HRS.out, ← hbv, ← HZ.out]; rfl)
      have HBV := Lib.hid hbv
      clear hbv
      have Z := sthandles_any HLK.out HS hsl HSB.out
      rw [HBV.out] at Z
      cases b
      · go_wp2_with fail
        refine Z.mono ?_
        clear Z
        rintro e w2 ⟨rfl, hx⟩
        have HX2 := Lib.hid hx
        clear hx
        clear gR
        go_wp2_with fail
        go_ret2
        exact HNO.out _ 9 rfl (by decide) HRK.out (HJ.out.ext.trans HX2.out)
      · go_wp2_with fail
        refine Z.mono ?_
        clear Z
        rintro e w2 ⟨rfl, hx⟩
        have HX2 := Lib.hid hx
        clear hx
        clear gR
        go_wp2_with fail
        have HJ2 : Hid (JSt V #[.int .i64 c0, .int .i64 c1, .int .i64 c2, .int .i64 c3, .bool sn, .slice wA ws.length wc, .int .i64 top, .slice tA tb.length tc, .slice fA fr.length fc, .slice sA sl.length sc] L R 9 ws zs tb rs w2) := Lib.hid ((HJ.out.grow HX2.out).next (by decide) (by decide) HRK.out)
        go_roundw
        case rel => exact ⟨9, by omega, by first | rfl | go_num, HJ2⟩
        case measure => simp [intOf]
    · obtain ⟨-, c, mb, n, A1, cap1, A2, cap2, -, -, -, hlk⟩ := HJ.out.lk.elim (fun h => absurd h.1 (by decide)) (fun h => h)
      simp only [show ¬ (9 : Nat) ≤ 5 from by decide, if_false] at hlk
      have HLK := Lib.hid hlk
      have H0 : Hid (firstZ rs = 0) := Lib.hid (first_none (fun j hj => HJ.out.ok j (by rw [← HRL.out]; exact hj)))
      clear hlk gR HNO
      go_wp2_with fail
      go_ret2
      exact ⟨L, by rw [H0.out]; rfl, HJ.out.ext, fun _ => ⟨c, mb, n, A1, cap1, A2, cap2, HLK.out⟩⟩
end
end Go.Proofs.YtkcpfimhbogdcaaGreat

/- state.Check, state.Used. -/
set_option linter.unusedSimpArgs false
set_option linter.unusedVariables false
namespace Go.Proofs.YtkcpfimhbogdcaaGreat
open Go.RowKit Go.Shelf

/-- How many words small objects have. -/
def usedZ (c0 c1 c2 c3 : Int) (sn : Bool) (top : Int) : Int := if cfgB c0 c1 c2 c3 && topB c0 c1 c2 c3 sn top then top - halfA c0 c1 c2 c3 sn else 0
section
variable {c0 c1 c2 c3 : Int} {sn : Bool} {wA : Option Addr} {ws : List Int} {wc : Nat} {top : Int} {tA : Option Addr} {tb : List (Int × Int)} {tc : Nat} {fA : Option Addr} {fr : List (Int × Int)} {fc : Nat} {sA : Option Addr} {sl : List (Bool × Int × Int)} {sc : Nat}
set_option maxRecDepth 100000
set_option maxHeartbeats 8000000
theorem stcheck_any (V : World) (HW : Pers V (fun w => WordsAt w wA ws)) (HT : Pers V (fun w => SpansAt w tA tb)) (HF : Pers V (fun w => SpansAt w fA fr)) (HS : Pers V (fun w => SlotsAt w sA sl)) (hwl : ws.length ≤ 98304) (htl : tb.length ≤ 98304) (hfl : fr.length ≤ 98304) (hsl : sl.length ≤ 98304)
    (hwb : ∀ z ∈ ws, 0 ≤ z ∧ z < 18446744073709551616) (htb : ∀ x ∈ tb, (-9223372036854775808 ≤ x.1 ∧ x.1 ≤ 9223372036854775807)) (hsb : ∀ x ∈ sl, 0 ≤ x.2.2 ∧ x.2.2 < 18446744073709551616) :
    Calls Tryz.prog 10 #[.agg #[.int .i64 c0, .int .i64 c1, .int .i64 c2, .int .i64 c3, .bool sn, .slice wA ws.length wc, .int .i64 top, .slice tA tb.length tc, .slice fA fr.length fc, .slice sA sl.length sc]] V fun e w' => e = .returned (.int .i64 (checkZ c0 c1 c2 c3 sn ws top tb fr sl)) ∧ Ext V w' := by
  have hx0 := (Ext.refl V).alloc (.cells #[.int .i64 c0, .int .i64 c1, .int .i64 c2, .int .i64 c3, .bool sn, .slice wA ws.length wc, .int .i64 top, .slice tA tb.length tc, .slice fA fr.length fc, .slice sA sl.length sc] 28)
  have Z := judge_any (c0 := c0) (c1 := c1) (c2 := c2) (c3 := c3) (sn := sn) (wc := wc) (top := top) (tc := tc) (fc := fc) (sc := sc) _ (HW.re hx0) (HT.re hx0) (HF.re hx0) (HS.re hx0) hwl htl hfl hsl hwb htb hsb
  have HX0 := Lib.hid hx0
  clear hx0 HW HT HF HS hwb htb hsb
  generalize checkZ c0 c1 c2 c3 sn ws top tb fr sl = k at *
  go_enter Tryz.func10, Tryz.ntmps10
  go_wp2_with fail
  refine Z.mono ?_
  clear Z
  rintro e w1 ⟨L, rfl, hx, -⟩
  have HX := Lib.hid hx
  clear hx
  go_wp2_with fail
  go_ret
  exact ⟨rfl, HX0.out.trans HX.out⟩
theorem stobjects_any (V : World) (HW : Pers V (fun w => WordsAt w wA ws)) (HT : Pers V (fun w => SpansAt w tA tb)) (HF : Pers V (fun w => SpansAt w fA fr)) (HS : Pers V (fun w => SlotsAt w sA sl)) (hwl : ws.length ≤ 98304) (htl : tb.length ≤ 98304) (hfl : fr.length ≤ 98304) (hsl : sl.length ≤ 98304)
    (hwb : ∀ z ∈ ws, 0 ≤ z ∧ z < 18446744073709551616) (htb : ∀ x ∈ tb, (-9223372036854775808 ≤ x.1 ∧ x.1 ≤ 9223372036854775807)) (hsb : ∀ x ∈ sl, 0 ≤ x.2.2 ∧ x.2.2 < 18446744073709551616) :
    Calls Tryz.prog 6 #[.agg #[.int .i64 c0, .int .i64 c1, .int .i64 c2, .int .i64 c3, .bool sn, .slice wA ws.length wc, .int .i64 top, .slice tA tb.length tc, .slice fA fr.length fc, .slice sA sl.length sc]] V fun e w' => (checkZ c0 c1 c2 c3 sn ws top tb fr sl ≠ 0 ∧ e = .returned (.tuple #[.slice none 0 0, .int .i64 4]) ∧ Ext V w') ∨
      (checkZ c0 c1 c2 c3 sn ws top tb fr sl = 0 ∧ ∃ A cap, e = .returned (.tuple #[.slice A (smallsL c0 c1 c2 c3 sn ws top ++ tb.map (·.1)).length cap, .int .i64 0]) ∧ Own 3 1 intC w' V.heap.size (.slice A (smallsL c0 c1 c2 c3 sn ws top ++ tb.map (·.1)).length cap) (smallsL c0 c1 c2 c3 sn ws top ++ tb.map (·.1)) ∧ Ext V w') := by
  have hx0 := (Ext.refl V).alloc (.cells #[.int .i64 c0, .int .i64 c1, .int .i64 c2, .int .i64 c3, .bool sn, .slice wA ws.length wc, .int .i64 top, .slice tA tb.length tc, .slice fA fr.length fc, .slice sA sl.length sc] 28)
  have Z := judge_any (c0 := c0) (c1 := c1) (c2 := c2) (c3 := c3) (sn := sn) (wc := wc) (top := top) (tc := tc) (fc := fc) (sc := sc) _ (HW.re hx0) (HT.re hx0) (HF.re hx0) (HS.re hx0) hwl htl hfl hsl hwb htb hsb
  have hb := pers_new V #[.int .i64 c0, .int .i64 c1, .int .i64 c2, .int .i64 c3, .bool sn, .slice wA ws.length wc, .int .i64 top, .slice tA tb.length tc, .slice fA fr.length fc, .slice sA sl.length sc] 28 _ rfl
  have hzl : (smallsL c0 c1 c2 c3 sn ws top).length ≤ 2199023255553 := list_len (some ws) (halfA c0 c1 c2 c3 sn) (halfS c0 c1 c2 c3) top
  have HX0 := Lib.hid hx0
  clear HW HF HS hwb htb hsb
  replace HT := HT.re hx0
  clear hx0
  have hV : V.heap.size ≤ (V.alloc (.cells #[.int .i64 c0, .int .i64 c1, .int .i64 c2, .int .i64 c3, .bool sn, .slice wA ws.length wc, .int .i64 top, .slice tA tb.length tc, .slice fA fr.length fc, .slice sA sl.length sc] 28)).heap.size := by simp
  generalize checkZ c0 c1 c2 c3 sn ws top tb fr sl = k at *
  generalize smallsL c0 c1 c2 c3 sn ws top = zs at *
  have hd : decide (k = 0) = decide (k = 0) := rfl
  obtain ⟨b, hbv⟩ : ∃ b, (k == 0) = b := ⟨_, rfl⟩
  go_enter Tryz.func6, Tryz.ntmps6
  go_wp2_with fail
  refine Z.mono ?_
  clear Z
  rintro e w1 ⟨L, rfl, hx, hlk⟩
  cases b
  · have hk : k ≠ 0 := by simpa using hbv
    have HX := Lib.hid hx
    have HK := Lib.hid hk
    clear hx hlk hb hk
    go_wp2_with fail
    go_ret2
    exact .inl ⟨HK.out, rfl, HX0.out.trans HX.out⟩
  · obtain rfl : k = 0 := by simpa using hbv
    obtain ⟨c, mb, n, A1, cap1, A2, cap2, hlk⟩ := hlk rfl
    have hB : Pers w1 (fun w => w.heap[L]? = some (.cells #[.int .i64 c0, .int .i64 c1, .int .i64 c2, .int .i64 c3, .bool sn, .slice wA ws.length wc, .int .i64 top, .slice tA tb.length tc, .slice fA fr.length fc, .slice sA sl.length sc, .pointer (some ⟨c, 0, none⟩), .slice A2 zs.length cap2, .map (some mb)] 59 (0, 0))) := fun w k => (hlk.grow k).blk
    have HZ : Pers w1 (fun w => IntsAt w A2 zs) := fun w k => (own_row (hlk.grow k).sm intCells (by decide)).1
    replace HT := HT.re hx
    replace hb := hb.re hx
    have HX := Lib.hid hx
    have g := hB.cells
    clear hx hlk
    ((first | refine at_baseC (W := w1) ?_ | refine at_base (W := w1) ?_); intro uq; (try go_wp2_with fail))
    (refine (cloneI_any A2 cap2 zs _ (by omega) (HZ.at (by repeat (first | (with_reducible exact Ext.refl _) | (with_reducible exact ExtOf.ext _) | (with_reducible assumption) | (with_reducible refine Ext.drew ?_) | (with_reducible refine Ext.alloc ?_ _))))).mono ?_; rintro e w2 ⟨A3, cap3, rfl, hown, hx⟩; replace hx := Ext.trans (a := w1) (by repeat (first | (with_reducible exact Ext.refl _) | (with_reducible exact ExtOf.ext _) | (with_reducible assumption) | (with_reducible refine Ext.drew ?_) | (with_reducible refine Ext.alloc ?_ _))) hx)
    have HO0 : Hid (Own 3 1 intC w2 w1.heap.size (.slice A3 zs.length cap3) zs) := Lib.hid (hown.mono uq.2.size)
    clear hown g
    have gb := (hb.re hx).cells
    have hx2 := hx
    clear hx uq
    ((first | refine at_baseC (W := w2) ?_ | refine at_base (W := w2) ?_); intro uq; (try go_wp2_with fail))
    have hbase := uq.2
    go_loopw [6, 8, 24] (fun o _ i wr => ∃ (A : Option Addr) (cap k : Nat), k ≤ tb.length ∧ o = .slice A (zs.length + k : Nat) cap ∧ i = .int .i64 k ∧ Hid (Own 3 1 intC wr w1.heap.size (.slice A (zs.length + k) cap) (zs ++ (tb.take k).map (·.1))) ∧ Ext w1 wr) (fun _ _ i _ => tb.length - (intOf i).toNat)
    case atStart => exact ⟨A3, cap3, 0, by omega, rfl, rfl, Lib.hid (by simpa using HO0.out.ext uq.2), hx2.trans uq.2⟩
    case round =>
      obtain ⟨A, cap, k, hk, rfl, rfl, HO, hxr⟩ := hrel
      clear HO0 gb hx2 uq hbase
      by_cases hlt : k < tb.length
      rotate_left
      · obtain rfl : k = tb.length := by omega
        have HXR := Lib.hid hxr
        clear hxr
        go_wp2_with fail
        go_ret2
        have hlen : (zs ++ tb.map (·.1)).length = zs.length + tb.length := by simp
        have ho := HO.out
        rw [List.take_length] at ho
        exact ⟨A, cap, rfl, ho.mono (Nat.le_trans HX0.out.size HX.out.size), HX0.out.trans (HX.out.trans HXR.out)⟩
      have HO1 := pers_own HO.out
      have hBr := hxr.size
      replace HT := HT.re hxr
      replace hb := hb.re hxr
      obtain ⟨lb, off, rfl, hc⟩ := HT.here.get (by omega)
      obtain ⟨cc1, cc2⟩ := spans_cell hc hlt
      have c1' := pers_cell cc1
      have c2' := pers_cell cc2
      have ib1 : (k : Int) < (tb.length : Int) := by omega
      have HTK : Hid (zs ++ (tb.take (k + 1)).map (·.1) = (zs ++ (tb.take k).map (·.1)) ++ [(tb.getD k (0, 0)).1]) := Lib.hid (by
        rw [List.take_succ_eq_append_getElem hlt, List.map_append, List.append_assoc]
        congr 2
        simp [hlt])
      have HTL : Hid ((zs ++ (tb.take k).map (·.1)).length = zs.length + k) := Lib.hid (by simp; omega)
      have HXR := Lib.hid hxr
      clear hxr hc cc1 cc2
      generalize tb.getD k (0, 0) = x at *
      obtain ⟨x1, x2⟩ := x
      simp only at c1' c2' HTK
      have gb := hb.cells
      refine at_base (W := wr) ?_
      intro uq
      have hx3 := uq.2
      go_wp2_with (at_builtin; refine wpList_app_lit rfl (.tmp 28) (.tmp 31) 31 rfl intInfo intCells rfl (by exact HO1.at (by repeat (first | (with_reducible exact Ext.refl _) | (with_reducible exact ExtOf.ext _) | (with_reducible assumption) | (with_reducible refine Ext.drew ?_) | (with_reducible refine Ext.alloc ?_ _)))) [x1] 1 _ rfl (zs.length + (k + 1)) 1 (by rw [HTL.out]; rfl) rfl _ rfl (by first | rfl | simp) (by omega) (by simp [maxLen]; try omega) (by exact Nat.le_trans hBr (Ext.size (Ext.trans (a := _) (Ext.refl _) (by repeat (first | (with_reducible exact Ext.refl _) | (with_reducible exact ExtOf.ext _) | (with_reducible assumption) | (with_reducible refine Ext.drew ?_) | (with_reducible refine Ext.alloc ?_ _)))))) ?_; intro A4 cap4 w4 hown4 hgr4 hat4; have HO4 := Lib.hid hown4; have HX4 : Hid (Ext w1 w4) := Lib.hid (Own.below (HO1.here) (Ext.trans HXR.out (by repeat (first | (with_reducible exact Ext.refl _) | (with_reducible exact ExtOf.ext _) | (with_reducible assumption) | (with_reducible refine Ext.drew ?_) | (with_reducible refine Ext.alloc ?_ _)))) hgr4 (by exact Nat.le_trans hBr (Ext.size (by repeat (first | (with_reducible exact Ext.refl _) | (with_reducible exact ExtOf.ext _) | (with_reducible assumption) | (with_reducible refine Ext.drew ?_) | (with_reducible refine Ext.alloc ?_ _)))))); clear hown4 hgr4 hat4)
      go_roundw
      case rel => exact ⟨A4, cap4, k + 1, by omega, by first | rfl | go_num, by go_num, by rw [HTK.out]; exact HO4, HX4.out⟩
      case measure => simp [intOf]; omega
end
end Go.Proofs.YtkcpfimhbogdcaaGreat

/- state.Used. -/
set_option linter.unusedSimpArgs false
set_option linter.unusedVariables false
namespace Go.Proofs.YtkcpfimhbogdcaaGreat
open Go.RowKit Go.Shelf

section
variable {c0 c1 c2 c3 : Int} {sn : Bool} {wA : Option Addr} {ws : List Int} {wc : Nat} {top : Int} {tA : Option Addr} {tb : List (Int × Int)} {tc : Nat} {fA : Option Addr} {fr : List (Int × Int)} {fc : Nat} {sA : Option Addr} {sl : List (Bool × Int × Int)} {sc : Nat}
variable {V : World} {L : Nat} {p sm m : Value}
theorem stconfig_is {b : Bool} (h : cfgB c0 c1 c2 c3 = b) (hL : Pers V (fun w => w.heap[L]? = some (.cells #[.int .i64 c0, .int .i64 c1, .int .i64 c2, .int .i64 c3, .bool sn, .slice wA ws.length wc, .int .i64 top, .slice tA tb.length tc, .slice fA fr.length fc, .slice sA sl.length sc, p, sm, m] 59 (0, 0)))) :
    Calls Tryz.prog 34 #[.pointer (some ⟨L, 0, none⟩)] V fun e w' => e = .returned (.bool b) ∧ Ext V w' := by rw [← h]; exact stconfig_any hL
theorem sttop_is {b : Bool} (h : topB c0 c1 c2 c3 sn top = b) (hL : Pers V (fun w => w.heap[L]? = some (.cells #[.int .i64 c0, .int .i64 c1, .int .i64 c2, .int .i64 c3, .bool sn, .slice wA ws.length wc, .int .i64 top, .slice tA tb.length tc, .slice fA fr.length fc, .slice sA sl.length sc, p, sm, m] 59 (0, 0)))) :
    Calls Tryz.prog 35 #[.pointer (some ⟨L, 0, none⟩)] V fun e w' => e = .returned (.bool b) ∧ Ext V w' := by rw [← h]; exact sttop_any hL
set_option maxRecDepth 100000
set_option maxHeartbeats 8000000
theorem stused_any (V : World) :
    Calls Tryz.prog 13 #[.agg #[.int .i64 c0, .int .i64 c1, .int .i64 c2, .int .i64 c3, .bool sn, .slice wA ws.length wc, .int .i64 top, .slice tA tb.length tc, .slice fA fr.length fc, .slice sA sl.length sc]] V fun e w' => e = .returned (.int .i64 (usedZ c0 c1 c2 c3 sn top)) ∧ Ext V w' := by
  have hS := pers_new2 V #[.int .i64 c0, .int .i64 c1, .int .i64 c2, .int .i64 c3, .bool sn, .slice wA ws.length wc, .int .i64 top, .slice tA tb.length tc, .slice fA fr.length fc, .slice sA sl.length sc] 28 _ rfl (.cells #[.int .i64 c0, .int .i64 c1, .int .i64 c2, .int .i64 c3, .bool sn, .slice wA ws.length wc, .int .i64 top, .slice tA tb.length tc, .slice fA fr.length fc, .slice sA sl.length sc, .pointer none, .slice none 0 0, .map none] 59)
  have hL := pers_new (V.alloc (.cells #[.int .i64 c0, .int .i64 c1, .int .i64 c2, .int .i64 c3, .bool sn, .slice wA ws.length wc, .int .i64 top, .slice tA tb.length tc, .slice fA fr.length fc, .slice sA sl.length sc] 28)) #[.int .i64 c0, .int .i64 c1, .int .i64 c2, .int .i64 c3, .bool sn, .slice wA ws.length wc, .int .i64 top, .slice tA tb.length tc, .slice fA fr.length fc, .slice sA sl.length sc, .pointer none, .slice none 0 0, .map none] 59 (V.heap.size + 1) (by simp)
  have hx := ((Ext.refl V).alloc (.cells #[.int .i64 c0, .int .i64 c1, .int .i64 c2, .int .i64 c3, .bool sn, .slice wA ws.length wc, .int .i64 top, .slice tA tb.length tc, .slice fA fr.length fc, .slice sA sl.length sc] 28)).alloc (.cells #[.int .i64 c0, .int .i64 c1, .int .i64 c2, .int .i64 c3, .bool sn, .slice wA ws.length wc, .int .i64 top, .slice tA tb.length tc, .slice fA fr.length fc, .slice sA sl.length sc, .pointer none, .slice none 0 0, .map none] 59)
  obtain ⟨x, hx1⟩ : ∃ b, cfgB c0 c1 c2 c3 = b := ⟨_, rfl⟩
  obtain ⟨y, hy1⟩ : ∃ b, topB c0 c1 c2 c3 sn top = b := ⟨_, rfl⟩
  obtain ⟨a, ha⟩ : ∃ b, halfA c0 c1 c2 c3 sn = b := ⟨_, rfl⟩
  obtain ⟨n, hn⟩ : ∃ b, halfS c0 c1 c2 c3 = b := ⟨_, rfl⟩
  obtain ⟨b1, b2, b3, b4⟩ := half_bd c0 c1 c2 c3 sn
  rw [ha] at b1 b2
  rw [hn] at b3 b4
  have HB1 : Hid (cfgB c0 c1 c2 c3 = x) := Lib.hid hx1
  have HB2 : Hid (topB c0 c1 c2 c3 sn top = y) := Lib.hid hy1
  have HU : Hid (usedZ c0 c1 c2 c3 sn top = if x && y then top - a else 0) := Lib.hid (by rw [usedZ, hx1, hy1, ha])
  have hw : y = true → wrap64 (top - a) = top - a := fun h => by
    subst h
    rw [topB, ha, hn, decide_eq_true_eq] at hy1
    exact IntWalk.wrap64_in _ ⟨by omega, by omega⟩
  have HW := Lib.hid hw
  have HA := Lib.hid ha
  have HN := Lib.hid hn
  have HX := Lib.hid hx
  clear hx hx1 hy1 ha hn hw
  go_enter Tryz.func13, Tryz.ntmps13
  go_wp2_with fail
  generalize (V.alloc (.cells #[.int .i64 c0, .int .i64 c1, .int .i64 c2, .int .i64 c3, .bool sn, .slice wA ws.length wc, .int .i64 top, .slice tA tb.length tc, .slice fA fr.length fc, .slice sA sl.length sc] 28)).alloc (.cells #[.int .i64 c0, .int .i64 c1, .int .i64 c2, .int .i64 c3, .bool sn, .slice wA ws.length wc, .int .i64 top, .slice tA tb.length tc, .slice fA fr.length fc, .slice sA sl.length sc, .pointer none, .slice none 0 0, .map none] 59) = W at *
  generalize V.heap.size + 1 = L at *
  generalize V.heap.size = S at *
  have g := hS.cells
  cases x
  · ((first | refine at_baseC (W := W) ?_ | refine at_base (W := W) ?_); intro uq; (try go_wp2_with fail))
    (refine (stconfig_is HB1.out (hL.re (by repeat (first | (with_reducible exact Ext.refl _) | (with_reducible exact ExtOf.ext _) | (with_reducible assumption) | (with_reducible refine Ext.drew ?_) | (with_reducible refine Ext.alloc ?_ _))))).mono ?_; rintro e wq ⟨rfl, hx⟩; replace hx := Ext.trans (a := W) (by repeat (first | (with_reducible exact Ext.refl _) | (with_reducible exact ExtOf.ext _) | (with_reducible assumption) | (with_reducible refine Ext.drew ?_) | (with_reducible refine Ext.alloc ?_ _))) hx; obtain ⟨uq, rfl⟩ : ∃ u : ExtOf W, wq = u.1 := ⟨⟨wq, hx⟩, rfl⟩; clear hx; go_wp2_with fail)
    go_ret
    exact ⟨by rw [HU.out]; rfl, HX.out.trans (ExtOf.ext _)⟩
  · ((first | refine at_baseC (W := W) ?_ | refine at_base (W := W) ?_); intro uq; (try go_wp2_with fail))
    (refine (stconfig_is HB1.out (hL.re (by repeat (first | (with_reducible exact Ext.refl _) | (with_reducible exact ExtOf.ext _) | (with_reducible assumption) | (with_reducible refine Ext.drew ?_) | (with_reducible refine Ext.alloc ?_ _))))).mono ?_; rintro e wq ⟨rfl, hx⟩; replace hx := Ext.trans (a := W) (by repeat (first | (with_reducible exact Ext.refl _) | (with_reducible exact ExtOf.ext _) | (with_reducible assumption) | (with_reducible refine Ext.drew ?_) | (with_reducible refine Ext.alloc ?_ _))) hx; obtain ⟨uq, rfl⟩ : ∃ u : ExtOf W, wq = u.1 := ⟨⟨wq, hx⟩, rfl⟩; clear hx; go_wp2_with fail)
    cases y
    · (refine (sttop_is HB2.out (hL.re (by repeat (first | (with_reducible exact Ext.refl _) | (with_reducible exact ExtOf.ext _) | (with_reducible assumption) | (with_reducible refine Ext.drew ?_) | (with_reducible refine Ext.alloc ?_ _))))).mono ?_; rintro e wq ⟨rfl, hx⟩; replace hx := Ext.trans (a := W) (by repeat (first | (with_reducible exact Ext.refl _) | (with_reducible exact ExtOf.ext _) | (with_reducible assumption) | (with_reducible refine Ext.drew ?_) | (with_reducible refine Ext.alloc ?_ _))) hx; obtain ⟨uq, rfl⟩ : ∃ u : ExtOf W, wq = u.1 := ⟨⟨wq, hx⟩, rfl⟩; clear hx; go_wp2_with fail)
      go_ret
      exact ⟨by rw [HU.out]; rfl, HX.out.trans (ExtOf.ext _)⟩
    · have e1 := HW.out rfl
      (refine (sttop_is HB2.out (hL.re (by repeat (first | (with_reducible exact Ext.refl _) | (with_reducible exact ExtOf.ext _) | (with_reducible assumption) | (with_reducible refine Ext.drew ?_) | (with_reducible refine Ext.alloc ?_ _))))).mono ?_; rintro e wq ⟨rfl, hx⟩; replace hx := Ext.trans (a := W) (by repeat (first | (with_reducible exact Ext.refl _) | (with_reducible exact ExtOf.ext _) | (with_reducible assumption) | (with_reducible refine Ext.drew ?_) | (with_reducible refine Ext.alloc ?_ _))) hx; obtain ⟨uq, rfl⟩ : ∃ u : ExtOf W, wq = u.1 := ⟨⟨wq, hx⟩, rfl⟩; clear hx; go_wp2_with fail)
      have hx3 := uq.2
      (refine wp_region_seg (W := W) [([(0, true), (1, true), (2, true), (3, true), (4, true), (5, true)], 6), ([], 7)] [(8, true), (9, true)] [] (by kernel_rfl) (by kernel_rfl) (by intro c a d v w h; cases d <;> first | exact h | cases h.1) (by with_reducible assumption) ?_; simp only [opsOf, List.map_cons, List.map_nil, List.getD_cons_zero, List.getD_cons_succ])
      ((first | refine seg_cons ?_ | refine seg_last ?_); (repeat (go_big_quiet_step (fail))); refine wpQuiet_nil ?_; intro w1 hx)
      ((refine seg_step ?_ ?_; (focus rfl); intro K hK; go_simp); refine (lfrom_is HA.out HN.out _).mono ?_; rintro e W3 ⟨rfl, hx2⟩; refine hK W3 _ _ (hx.trans hx2) (Ext.refl _) ?_; have hz2 := hx.size; replace hx2 := hx.trans hx2; clear hK K hx)
      replace HX := Lib.hid (HX.out.trans hx2)
      ((first | refine seg_cons ?_ | refine seg_last ?_); (repeat (go_big_quiet_step (fail))); refine wpQuiet_nil ?_; intro w1 hx)
      (refine seg_step ?_ ?_; (focus rfl); intro K hK; go_simp)
      refine hK _ { tmps := #[.agg #[.int .i64 c0, .int .i64 c1, .int .i64 c2, .int .i64 c3, .bool sn, .slice wA ws.length wc, .int .i64 top, .slice tA tb.length tc, .slice fA fr.length fc, .slice sA sl.length sc], .pointer (some ⟨S, 0, none⟩), .int .i64 0, .pointer (some ⟨L, 0, none⟩), .agg #[.int .i64 c0, .int .i64 c1, .int .i64 c2, .int .i64 c3, .bool sn, .slice wA ws.length wc, .int .i64 top, .slice tA tb.length tc, .slice fA fr.length fc, .slice sA sl.length sc], .agg #[.int .i64 c0, .int .i64 c1, .int .i64 c2, .int .i64 c3, .bool sn, .slice wA ws.length wc, .int .i64 top, .slice tA tb.length tc, .slice fA fr.length fc, .slice sA sl.length sc, .pointer none, .slice none 0 0, .map none], .pointer (some ⟨L, 0, none⟩), .pointer (some ⟨L, 0, none⟩), .bool true, .bool false, .bool false, .pointer (some ⟨L, 0, none⟩), .bool true, .bool false, .bool false, .pointer (some ⟨S, 6, none⟩), .int .i64 top, .pointer (some ⟨S, 0, none⟩), .agg #[.int .i64 (c0), .int .i64 (c1), .int .i64 (c2), .int .i64 (c3)], .pointer (some ⟨S, 4, none⟩), .bool sn, .agg #[.int .i64 (a), .int .i64 (n)], .int .i64 a, undef], defers := [] } _ hx (Ext.refl _) ?_
      replace HX := Lib.hid (HX.out.trans hx)
      clear hK K hx
      ((first | refine seg_cons ?_ | refine seg_last ?_); (repeat (go_big_quiet_step (fail))); refine wpQuiet_nil ?_; intro w1 hx)
      (obtain ⟨uq, rfl⟩ : ∃ u : ExtOf _, w1 = u.1 := ⟨⟨w1, hx⟩, rfl⟩; clear hx; go_wp2_with fail)
      go_ret
      exact ⟨by rw [HU.out]; exact congrArg (fun z => Ending.returned (.int .i64 z)) (HW.out trivial), HX.out.trans (ExtOf.ext _)⟩
end
end Go.Proofs.YtkcpfimhbogdcaaGreat

/- law15.Large; state.Head. -/
set_option linter.unusedSimpArgs false
set_option linter.unusedVariables false
namespace Go.Proofs.YtkcpfimhbogdcaaGreat
open Go.RowKit Go.Shelf

/-- Is a heap beyond what the laws look at? -/
def bigB (w t f s : Nat) : Bool := decide (400 < w ∨ 60 < t ∨ 60 < f ∨ 100 < s)
section
variable {c0 c1 c2 c3 : Int} {sn : Bool} {wA : Option Addr} {ws : List Int} {wc : Nat} {top : Int} {tA : Option Addr} {tb : List (Int × Int)} {tc : Nat} {fA : Option Addr} {fr : List (Int × Int)} {fc : Nat} {sA : Option Addr} {sl : List (Bool × Int × Int)} {sc : Nat}
variable {V : World}
set_option maxRecDepth 100000
set_option maxHeartbeats 4000000
theorem large15_any (V : World) (hw : ws.length ≤ 9223372036854775807) (ht : tb.length ≤ 9223372036854775807) (hf : fr.length ≤ 9223372036854775807) (hs : sl.length ≤ 9223372036854775807) :
    Calls Tryz.prog 4 #[.agg #[.int .i64 c0, .int .i64 c1, .int .i64 c2, .int .i64 c3, .bool sn, .slice wA ws.length wc, .int .i64 top, .slice tA tb.length tc, .slice fA fr.length fc, .slice sA sl.length sc]] V fun e w' => e = .returned (.bool (bigB ws.length tb.length fr.length sl.length)) ∧ Ext V w' := by
  generalize ws.length = n1 at *
  generalize tb.length = n2 at *
  generalize fr.length = n3 at *
  generalize sl.length = n4 at *
  by_cases h1 : 400 < n1
  · have d1 : decide ((400 : Int) < (n1 : Int)) = true := by simp; omega
    have HR : Hid (bigB n1 n2 n3 n4 = true) := Lib.hid (by simp [bigB]; omega)
    clear h1
    go_enter Tryz.func4, Tryz.ntmps4
    go_wp2_with fail
    go_ret
    exact ⟨ret_bool HR.out.symm, (Ext.refl V).alloc _⟩
  have d1 : decide ((400 : Int) < (n1 : Int)) = false := by simp; omega
  by_cases h2 : 60 < n2
  · have d2 : decide ((60 : Int) < (n2 : Int)) = true := by simp; omega
    have HR : Hid (bigB n1 n2 n3 n4 = true) := Lib.hid (by simp [bigB]; omega)
    clear h1 h2
    go_enter Tryz.func4, Tryz.ntmps4
    go_wp2_with fail
    go_ret
    exact ⟨ret_bool HR.out.symm, (Ext.refl V).alloc _⟩
  have d2 : decide ((60 : Int) < (n2 : Int)) = false := by simp; omega
  by_cases h3 : 60 < n3
  · have d3 : decide ((60 : Int) < (n3 : Int)) = true := by simp; omega
    have HR : Hid (bigB n1 n2 n3 n4 = true) := Lib.hid (by simp [bigB]; omega)
    clear h1 h2 h3
    go_enter Tryz.func4, Tryz.ntmps4
    go_wp2_with fail
    go_ret
    exact ⟨ret_bool HR.out.symm, (Ext.refl V).alloc _⟩
  have d3 : decide ((60 : Int) < (n3 : Int)) = false := by simp; omega
  by_cases h4 : 100 < n4
  · have d4 : decide ((100 : Int) < (n4 : Int)) = true := by simp; omega
    have HR : Hid (bigB n1 n2 n3 n4 = true) := Lib.hid (by simp [bigB]; omega)
    clear h1 h2 h3 h4
    go_enter Tryz.func4, Tryz.ntmps4
    go_wp2_with fail
    go_ret
    exact ⟨ret_bool HR.out.symm, (Ext.refl V).alloc _⟩
  · have d4 : decide ((100 : Int) < (n4 : Int)) = false := by simp; omega
    have HR : Hid (bigB n1 n2 n3 n4 = false) := Lib.hid (by simp [bigB]; omega)
    clear h1 h2 h3 h4
    go_enter Tryz.func4, Tryz.ntmps4
    go_wp2_with fail
    go_ret
    exact ⟨ret_bool HR.out.symm, (Ext.refl V).alloc _⟩
end
end Go.Proofs.YtkcpfimhbogdcaaGreat

/- state.Head. -/
set_option linter.unusedSimpArgs false
set_option linter.unusedVariables false
namespace Go.Proofs.YtkcpfimhbogdcaaGreat
open Go.RowKit Go.Shelf

theorem ext5x {V w : World} (h : Ext V w) {X : Nat} (hX : V.heap.size ≤ X) (u0 u1 u2 u3 u4 : Value) : Ext V (((((w.setCell ⟨X, 0, none⟩ u0).setCell ⟨X, 1, none⟩ u1).setCell ⟨X, 2, none⟩ u2).setCell ⟨X, 3, none⟩ u3).setCell ⟨X, 4, none⟩ u4) :=
  ((((h.setCell hX _).setCell hX _).setCell hX _).setCell hX _).setCell hX _
section
variable {c0 c1 c2 c3 : Int} {sn : Bool} {wA : Option Addr} {ws : List Int} {wc : Nat} {top : Int} {tA : Option Addr} {tb : List (Int × Int)} {tc : Nat} {fA : Option Addr} {fr : List (Int × Int)} {fc : Nat} {sA : Option Addr} {sl : List (Bool × Int × Int)} {sc : Nat}
set_option maxRecDepth 100000
set_option maxHeartbeats 1000000
theorem sthead_any (V : World) (i : Int) (HW : Pers V (fun w => WordsAt w wA ws)) (hwl : ws.length ≤ 98304) (hwb : ∀ z ∈ ws, 0 ≤ z ∧ z < 18446744073709551616) (hi : -9223372036854775808 ≤ i ∧ i ≤ 9223372036854775807) :
    Calls Tryz.prog 8 #[.agg #[.int .i64 c0, .int .i64 c1, .int .i64 c2, .int .i64 c3, .bool sn, .slice wA ws.length wc, .int .i64 top, .slice tA tb.length tc, .slice fA fr.length fc, .slice sA sl.length sc], .int .i64 i] V fun e w' => e = .returned (.tuple #[.agg #[.int .i64 (headH (some ws) i).k, .int .i64 (headH (some ws) i).f, .int .i64 (headH (some ws) i).r, .bool (headH (some ws) i).m, .int .i64 (headH (some ws) i).c], .int .i64 (headE (some ws) i)]) ∧ Ext V w' := by
  have hS := pers_new2 V #[.int .i64 c0, .int .i64 c1, .int .i64 c2, .int .i64 c3, .bool sn, .slice wA ws.length wc, .int .i64 top, .slice tA tb.length tc, .slice fA fr.length fc, .slice sA sl.length sc] 28 _ rfl (.cells #[.int .i64 0, .int .i64 0, .int .i64 0, .bool false, .int .i64 0] 36)
  have hR := pers_new (V.alloc (.cells #[.int .i64 c0, .int .i64 c1, .int .i64 c2, .int .i64 c3, .bool sn, .slice wA ws.length wc, .int .i64 top, .slice tA tb.length tc, .slice fA fr.length fc, .slice sA sl.length sc] 28)) #[.int .i64 0, .int .i64 0, .int .i64 0, .bool false, .int .i64 0] 36 (V.heap.size + 1) (by simp)
  have hx := ((Ext.refl V).alloc (.cells #[.int .i64 c0, .int .i64 c1, .int .i64 c2, .int .i64 c3, .bool sn, .slice wA ws.length wc, .int .i64 top, .slice tA tb.length tc, .slice fA fr.length fc, .slice sA sl.length sc] 28)).alloc (.cells #[.int .i64 0, .int .i64 0, .int .i64 0, .bool false, .int .i64 0] 36)
  have HVR : Hid (V.heap.size ≤ V.heap.size + 1) := Lib.hid (by omega)
  have hwb' := hwb
  replace HW := HW.re hx
  have HX := Lib.hid hx
  clear hx hwb
  by_cases h0 : i < 0
  · have d0 : decide (i < 0) = true := by simpa using h0
    have HR : Hid (headE (some ws) i = 2) := Lib.hid (by simp [headE, atA, h0])
    have HH := Lib.hid (headH_bad HR.out (by decide))
    clear h0
    go_enter Tryz.func8, Tryz.ntmps8
    go_wp2_with fail
    generalize (V.alloc (.cells #[.int .i64 c0, .int .i64 c1, .int .i64 c2, .int .i64 c3, .bool sn, .slice wA ws.length wc, .int .i64 top, .slice tA tb.length tc, .slice fA fr.length fc, .slice sA sl.length sc] 28)).alloc (.cells #[.int .i64 0, .int .i64 0, .int .i64 0, .bool false, .int .i64 0] 36) = W at *
    generalize V.heap.size + 1 = R at *
    have hrr := hR.here
    have p0 : W.cell? ⟨R, 0, none⟩ = some (.int .i64 0) := by simp [World.cell?, hrr]
    have p1 : W.cell? ⟨R, 1, none⟩ = some (.int .i64 0) := by simp [World.cell?, hrr]
    have p2 : W.cell? ⟨R, 2, none⟩ = some (.int .i64 0) := by simp [World.cell?, hrr]
    have p3 : W.cell? ⟨R, 3, none⟩ = some (.bool false) := by simp [World.cell?, hrr]
    have p4 : W.cell? ⟨R, 4, none⟩ = some (.int .i64 0) := by simp [World.cell?, hrr]
    have p5 : ∀ o, W.frozen? ⟨R, o, none⟩ = false := fun o => frozen_of_row _ _ _ _ _ hrr
    ((try simp only [Exit.inBlock, Exit.then]); refine bodyPost_ret (v := .tuple #[.agg #[.int .i64 0, .int .i64 0, .int .i64 0, .bool false, .int .i64 0], .int .i64 2]) (by simp only [results, Tryz.results8]; go_simp) rfl ?_)
    exact ⟨by rw [HH.out, HR.out]; rfl, HX.out⟩
  have d0 : decide (i < 0) = false := by simpa using h0
  obtain ⟨k, rfl⟩ := Int.eq_ofNat_of_zero_le (Int.not_lt.1 h0)
  clear h0
  by_cases h1 : k < ws.length
  rotate_left
  · have d1 : decide (ws.length ≤ k) = true := by simpa using h1
    have HR : Hid (headE (some ws) k = 2) := Lib.hid (by have : (ws.length : Int) ≤ (k : Int) := by omega
                                                         simp [headE, atA, this])
    have HH := Lib.hid (headH_bad HR.out (by decide))
    clear h1
    go_enter Tryz.func8, Tryz.ntmps8
    go_wp2_with fail
    generalize (V.alloc (.cells #[.int .i64 c0, .int .i64 c1, .int .i64 c2, .int .i64 c3, .bool sn, .slice wA ws.length wc, .int .i64 top, .slice tA tb.length tc, .slice fA fr.length fc, .slice sA sl.length sc] 28)).alloc (.cells #[.int .i64 0, .int .i64 0, .int .i64 0, .bool false, .int .i64 0] 36) = W at *
    generalize V.heap.size + 1 = R at *
    have hrr := hR.here
    have p0 : W.cell? ⟨R, 0, none⟩ = some (.int .i64 0) := by simp [World.cell?, hrr]
    have p1 : W.cell? ⟨R, 1, none⟩ = some (.int .i64 0) := by simp [World.cell?, hrr]
    have p2 : W.cell? ⟨R, 2, none⟩ = some (.int .i64 0) := by simp [World.cell?, hrr]
    have p3 : W.cell? ⟨R, 3, none⟩ = some (.bool false) := by simp [World.cell?, hrr]
    have p4 : W.cell? ⟨R, 4, none⟩ = some (.int .i64 0) := by simp [World.cell?, hrr]
    have p5 : ∀ o, W.frozen? ⟨R, o, none⟩ = false := fun o => frozen_of_row _ _ _ _ _ hrr
    ((try simp only [Exit.inBlock, Exit.then]); refine bodyPost_ret (v := .tuple #[.agg #[.int .i64 0, .int .i64 0, .int .i64 0, .bool false, .int .i64 0], .int .i64 2]) (by simp only [results, Tryz.results8]; go_simp) rfl ?_)
    exact ⟨by rw [HH.out, HR.out]; rfl, HX.out⟩
  have d1 : decide (ws.length ≤ k) = false := by simpa using h1
  obtain ⟨lb, off, rfl, hc⟩ := HW.here.get (by omega)
  have cz := words_cell hc h1
  have hzb := hwb' _ (getD_mem (d := 0) h1)
  have HAT : Hid (atA (some ws) k = 0) := Lib.hid (by simp only [atA]; rw [if_neg (by omega)])
  have HRD : Hid (rdA (some ws) k = ws.getD k 0) := Lib.hid (by rw [rdA, if_pos HAT.out]; simp)
  have hsub : wrap64 ((ws.length : Int) - (k : Int)) = (ws.length : Int) - (k : Int) := IntWalk.wrap64_in _ ⟨by omega, by omega⟩
  have ib1 : (k : Int) < (ws.length : Int) := by omega
  clear hc h1
  generalize ws.getD k 0 = z at *
  obtain ⟨b, hb⟩ : ∃ b, hdecB z.toNat = b := ⟨_, rfl⟩
  have HB := Lib.hid hb
  clear hb
  go_enter Tryz.func8, Tryz.ntmps8
  go_wp2_with fail
  generalize (V.alloc (.cells #[.int .i64 c0, .int .i64 c1, .int .i64 c2, .int .i64 c3, .bool sn, .slice (some ⟨lb, off, none⟩) ws.length wc, .int .i64 top, .slice tA tb.length tc, .slice fA fr.length fc, .slice sA sl.length sc] 28)).alloc (.cells #[.int .i64 0, .int .i64 0, .int .i64 0, .bool false, .int .i64 0] 36) = W at *
  generalize V.heap.size + 1 = R at *
  have gS := hS.cells
  have gR := hR.cells
  have fR := hR.frees
  have lR := hR.lt
  clear cz
  cases b
  · have HR : Hid (headE (some ws) k = 3) := Lib.hid (by rw [headE, HAT.out, if_pos rfl, HRD.out, HB.out]; rfl)
    have HH := Lib.hid (headH_bad HR.out (by decide))
    ((first | refine at_baseC (W := W) ?_ | refine at_base (W := W) ?_); intro uq; (try go_wp2_with fail))
    (refine (hdec_is z hd0 3 hzb (by rw [hdecH, HB.out]; rfl) (by rw [hdecE, HB.out]; rfl) _).mono ?_; rintro e wq ⟨rfl, hx⟩; replace hx := Ext.trans (a := W) (by repeat (first | (with_reducible exact Ext.refl _) | (with_reducible exact ExtOf.ext _) | (with_reducible assumption) | (with_reducible refine Ext.drew ?_) | (with_reducible refine Ext.alloc ?_ _))) hx; obtain ⟨uq, rfl⟩ : ∃ u : ExtOf W, wq = u.1 := ⟨⟨wq, hx⟩, rfl⟩; clear hx; go_wp2_with fail)
    ((try simp only [Exit.inBlock, Exit.then]); refine bodyPost_ret (v := .tuple #[.agg #[.int .i64 0, .int .i64 0, .int .i64 0, .bool false, .int .i64 0], .int .i64 3]) (by simp only [results, Tryz.results8]; go_simp) rfl ?_)
    exact ⟨by rw [HH.out, HR.out]; rfl, (ext5x (HX.out.trans uq.2) HVR.out _ _ _ _ _).alloc _⟩
  · have HHE : Hid (headE (some ws) k = if (ws.length : Int) - k < hsize (decH z.toNat) then 2 else 0) := Lib.hid (by rw [headE, HAT.out, if_pos rfl, HRD.out, HB.out, if_pos rfl]; rfl)
    have HHH : Hid (headE (some ws) k = 0 → headH (some ws) k = decH z.toNat) := Lib.hid (fun h => by rw [headH, if_pos h, HRD.out])
    have HD1 : Hid (hdecH z.toNat = decH z.toNat) := Lib.hid (by rw [hdecH, HB.out]; rfl)
    have HD2 : Hid (hdecE z.toNat = 0) := Lib.hid (by rw [hdecE, HB.out]; rfl)
    generalize decH z.toNat = h at *
    obtain ⟨n, hn⟩ : ∃ n, hsize h = n := ⟨_, rfl⟩
    have HN := Lib.hid hn
    clear hn gS gR fR lR
    ((first | refine at_baseC (W := W) ?_ | refine at_base (W := W) ?_); intro uq; (try go_wp2_with fail))
    (refine (hdec_is z h 0 hzb HD1.out HD2.out _).mono ?_; rintro e w2 ⟨rfl, hx⟩; replace hx := Ext.trans (a := W) (by repeat (first | (with_reducible exact Ext.refl _) | (with_reducible exact ExtOf.ext _) | (with_reducible assumption) | (with_reducible refine Ext.drew ?_) | (with_reducible refine Ext.alloc ?_ _))) hx)
    have HBH := pers_new w2 #[.int .i64 h.k, .int .i64 h.f, .int .i64 h.r, .bool h.m, .int .i64 h.c] 36 _ rfl
    replace hx := hx.alloc (.cells #[.int .i64 h.k, .int .i64 h.f, .int .i64 h.r, .bool h.m, .int .i64 h.c] 36)
    replace hS := hS.re hx
    replace hR := hR.re hx
    replace HX := Lib.hid (HX.out.trans hx)
    clear hx
    go_wp2_with fail
    generalize w2.alloc (.cells #[.int .i64 h.k, .int .i64 h.f, .int .i64 h.r, .bool h.m, .int .i64 h.c] 36) = W3 at *
    generalize w2.heap.size = X at *
    have gS := hS.cells
    have gR := hR.cells
    have fR := hR.frees
    have lR := hR.lt
    have g1 := HBH.cells
    have hx3 := Ext.refl W3
    by_cases hc : (ws.length : Int) - (k : Int) < n
    · have hd : decide ((ws.length : Int) - (k : Int) < n) = true := by simpa using hc
      have HR : Hid (headE (some ws) k = 2) := Lib.hid (by rw [HHE.out, HN.out, if_pos hc])
      have HH := Lib.hid (headH_bad HR.out (by decide))
      clear hc
      (refine wp_region_ext (W := W3) (by kernel_rfl) (by kernel_rfl) (by with_reducible assumption) ?_; (repeat (go_big_quiet_step (first | (go_at_call 22; with_reducible exact Calls.ext_of (hsize_is h n HN.out _))))); refine wpQuiet_nil ?_; intro w1 hx)
      (obtain ⟨uq, rfl⟩ : ∃ u : ExtOf W3, w1 = u.1 := ⟨⟨w1, hx⟩, rfl⟩; clear hx; go_wp2_with fail)
      ((try simp only [Exit.inBlock, Exit.then]); refine bodyPost_ret (v := .tuple #[.agg #[.int .i64 0, .int .i64 0, .int .i64 0, .bool false, .int .i64 0], .int .i64 2]) (by simp only [results, Tryz.results8]; go_simp) rfl ?_)
      exact ⟨by rw [HH.out, HR.out]; rfl, ext5x (HX.out.trans (ExtOf.ext _)) HVR.out _ _ _ _ _⟩
    · have hd : decide ((ws.length : Int) - (k : Int) < n) = false := by simpa using hc
      have HR : Hid (headE (some ws) k = 0) := Lib.hid (by rw [HHE.out, HN.out, if_neg hc])
      have HH := Lib.hid (HHH.out HR.out)
      clear hc
      (refine wp_region_ext (W := W3) (by kernel_rfl) (by kernel_rfl) (by with_reducible assumption) ?_; (repeat (go_big_quiet_step (first | (go_at_call 22; with_reducible exact Calls.ext_of (hsize_is h n HN.out _))))); refine wpQuiet_nil ?_; intro w1 hx)
      (obtain ⟨uq, rfl⟩ : ∃ u : ExtOf W3, w1 = u.1 := ⟨⟨w1, hx⟩, rfl⟩; clear hx; go_wp2_with fail)
      ((try simp only [Exit.inBlock, Exit.then]); refine bodyPost_ret (v := .tuple #[.agg #[.int .i64 h.k, .int .i64 h.f, .int .i64 h.r, .bool h.m, .int .i64 h.c], .int .i64 0]) (by simp only [results, Tryz.results8]; go_simp) rfl ?_)
      exact ⟨by rw [HH.out, HR.out], ext5x (HX.out.trans (ExtOf.ext _)) HVR.out _ _ _ _ _⟩
end
end Go.Proofs.YtkcpfimhbogdcaaGreat

/- A new heap: what it is, and that it may be. Plain, with no program in sight. -/
set_option linter.unusedSimpArgs false
set_option linter.unusedVariables false
namespace Go.Proofs.YtkcpfimhbogdcaaGreat
open Go.RowKit Go.Shelf

theorem list_none (l : Option (List Int)) (a s : Int) (h : mayB a s = true) : stopE l a s a = 0 ∧ listA l a s a = [] := by
  have hb := may_bd h
  have h1 : wkB a s a = true := by simp only [wkB, h, Bool.true_and]; simp; omega
  have h2 : stopE l a s a = 0 := by
    rw [stopE, if_pos h1, lastS, steps_end (by omega)]
    rfl
  refine ⟨h2, ?_⟩
  rw [listA, if_pos h2, steps_end (by omega)]
  rfl
theorem gaps_new {a s : Int} (h : mayB a s = true) : GapsOf a s [] [(a, s)] := by
  have hb := may_bd h
  refine ⟨by simp; omega, by simp, fun p => ?_⟩
  simp only [LeftB, coveredB, hasB, h, InS]
  simp
theorem gaps_new0 {a s : Int} (h : mayB a s = false) : GapsOf a s [] [] := by
  refine ⟨by simp, by simp, fun p => ?_⟩
  simp [LeftB, coveredB, hasB, h]
theorem led_nil (a s : Int) : ledB a s [] = true := by
  simp [ledB, chainB]
theorem led_new {c0 c1 c2 c3 : Int} (h : cfgB c0 c1 c2 c3 = true) : ledR (largeA c0 c1 c2 c3) (largeS c0 c1 c2 c3) [] (newFr c0 c1 c2 c3) = true := by
  obtain ⟨h1, h2, h3, h4, h5, h6, h7, h8⟩ := cfg_bd h
  have e2 : largeS c0 c1 c2 c3 = c1 := by simp [largeS, h]
  by_cases h0 : c1 = 0
  · have e1 : largeA c0 c1 c2 c3 = 0 := by simp [largeA, h, h0]
    rw [newFr, e1, e2, if_pos h0, h0, ledR_of (led_nil _ _) (gaps_new0 (by simp [mayB]))]
    simp
  · have e1 : largeA c0 c1 c2 c3 = 2 * c0 := by simp [largeA, h, h0]
    rw [newFr, e1, e2, if_neg h0, ledR_of (led_nil _ _) (gaps_new (by simp [mayB]; omega))]
    simp
/-- A rule's value at a table that is right. -/
theorem check_led {c0 c1 c2 c3 : Int} {sn : Bool} {ws : List Int} {top : Int} {tb fr : List (Int × Int)} {sl : List (Bool × Int × Int)} (h : ledR (largeA c0 c1 c2 c3) (largeS c0 c1 c2 c3) tb fr = true) : checkZ c0 c1 c2 c3 sn ws top tb fr sl = firstZ
  [cfgB c0 c1 c2 c3, decide ((ws.length : Int) = wordsZ c0 c1 c2 c3), topB c0 c1 c2 c3 sn top, decide (stopE (some ws) (halfA c0 c1 c2 c3 sn) (halfS c0 c1 c2 c3) top = 0), (smallsL c0 c1 c2 c3 sn ws top).all (smallO (some ws) c0 c1 c2 c3),
    tb.all (largeO (some ws) c0 c1 c2 c3), slotsB sl c2, (smallsL c0 c1 c2 c3 sn ws top ++ tb.map (·.1)).all (fieldsO (some ws) (startsB (smallsL c0 c1 c2 c3 sn ws top) tb)),
    sl.all (handleB (startsB (smallsL c0 c1 c2 c3 sn ws top) tb))] := by
  rw [checkZ, ruleL, h, Bool.true_and]
theorem check_new {c0 c1 c2 c3 : Int} (h : cfgB c0 c1 c2 c3 = true) : checkZ c0 c1 c2 c3 false (List.replicate (wordsZ c0 c1 c2 c3).toNat 0) 0 [] (newFr c0 c1 c2 c3) (List.replicate c2.toNat (false, 0, 0)) = 0 := by
  obtain ⟨h1, h2, h3, h4, h5, h6, h7, h8⟩ := cfg_bd h
  have e1 : halfA c0 c1 c2 c3 false = 0 := by simp [halfA, h]
  have e2 : halfS c0 c1 c2 c3 = c0 := by simp [halfS, h]
  have e3 : wordsZ c0 c1 c2 c3 = 2 * c0 + c1 := by simp [wordsZ, h]
  have hm : mayB 0 c0 = true := by simp [mayB]; omega
  have hL : smallsL c0 c1 c2 c3 false (List.replicate (wordsZ c0 c1 c2 c3).toNat 0) 0 = [] := by
    rw [smallsL, e1, e2]; exact (list_none _ 0 c0 hm).2
  rw [check_led (led_new h), hL, e1, e2, (list_none _ 0 c0 hm).1, h]
  have q1 : decide (((List.replicate (wordsZ c0 c1 c2 c3).toNat (0 : Int)).length : Int) = wordsZ c0 c1 c2 c3) = true := by rw [List.length_replicate]; simp; omega
  have q2 : topB c0 c1 c2 c3 false 0 = true := by rw [topB, e1, e2]; simp; omega
  have q3 : slotsB (List.replicate c2.toNat (false, 0, 0)) c2 = true := by
    have hs : slotB (false, 0, 0) = true := by decide
    rw [slotsB, List.length_replicate, Bool.and_eq_true]
    exact ⟨List.all_eq_true.2 fun x hx => by rw [(List.mem_replicate.1 hx).2]; exact hs, by simp; omega⟩
  have q4 : ∀ S, (List.replicate c2.toNat ((false, 0, 0) : Bool × Int × Int)).all (handleB S) = true := fun S => List.all_eq_true.2 fun x hx => by rw [(List.mem_replicate.1 hx).2]; rfl
  rw [q1, q2, q3, q4]
  rfl
/-- The values of the example. -/
def aw15w : List Int := [0, 0, 0, 0, 0, 0, 0, 0, 0, 0, 0]
def aw15u : List Int := [3, 38, 0, 0, 0, 0, 0, 0, 0, 0, 0]
def aw15s : List (Bool × Int × Int) := [(false, 0, 0), (false, 0, 0)]
def aw15v : List (Bool × Int × Int) := [(true, 0, 18), (false, 0, 0)]
theorem aw15_led : ledR (largeA 4 3 2 3) (largeS 4 3 2 3) [] [(8, 3)] = true := led_new (c0 := 4) (c1 := 3) (c2 := 2) (c3 := 3) (by decide)
theorem aw15_a : checkZ 4 3 2 3 false aw15w 0 [] [(8, 3)] aw15s = 0 := by rw [check_led aw15_led]; decide +kernel
theorem aw15_b : checkZ 4 3 2 3 false aw15w 1 [] [(8, 3)] aw15s = 4 := by rw [check_led aw15_led]; decide +kernel
theorem aw15_c : checkZ 4 3 2 3 false aw15u 1 [] [(8, 3)] aw15s = 0 := by rw [check_led aw15_led]; decide +kernel
theorem aw15_d : checkZ 4 3 2 3 false aw15u 1 [] [(8, 3)] aw15v = 9 := by rw [check_led aw15_led]; decide +kernel
theorem aw15_e : checkZ 0 0 0 0 false [] 0 [] [] [] = 1 := by
  rw [checkZ, ruleL, show cfgB 0 0 0 0 = false by decide]; exact first_at (k := 0) (by simp) (by simp) rfl
theorem aw15_vals : usedZ 4 3 2 3 false 1 = 1 ∧ smallsL 4 3 2 3 false aw15w 0 = [] ∧ smallsL 4 3 2 3 false aw15u 1 = [0] ∧ (headH (some aw15u) 0).f = 0 ∧ headE (some aw15u) 0 = 0 := by
  refine ⟨?_, ?_, ?_, ?_, ?_⟩ <;> decide +kernel
theorem aw15_new : newS 4 3 2 3 = ⟨4, 3, 2, 3, false, none, aw15w, 0, 0, none, [], 0, none, [(8, 3)], 0, none, aw15s, 0⟩ := by rfl
end Go.Proofs.YtkcpfimhbogdcaaGreat

/- The contracts of a heap that is a datum, and of the example's heaps. -/
set_option linter.unusedSimpArgs false
set_option linter.unusedVariables false
namespace Go.Proofs.YtkcpfimhbogdcaaGreat
open Go.RowKit Go.Shelf

theorem flat_setAt {α : Type} {n : Nat} {f : α → List Value} (hf : Cells n f) (y : α) (j : Nat) (hj : j < n) (u : Value) : ∀ (xs : List α) (k : Nat) (hk : k < xs.length), f y = (f xs[k]).set j u → (xs.set k y).flatMap f = (xs.flatMap f).set (k * n + j) u := by
  intro xs
  induction xs with
  | nil => intro k hk; simp at hk
  | cons x xs ih =>
    intro k hk h
    have hl : (f x).length = n := hf.1 x
    cases k with
    | zero =>
      simp only [List.set_cons_zero, List.flatMap_cons, Nat.zero_mul, Nat.zero_add]
      rw [List.set_append_left _ _ (by omega)]
      simp only [List.getElem_cons_zero] at h
      rw [h]
    | succ k =>
      simp only [List.set_cons_succ, List.flatMap_cons]
      have e : (k + 1) * n + j = n + (k * n + j) := by rw [Nat.succ_mul]; omega
      rw [List.set_append_right _ _ (by rw [hl, e]; omega), hl, e, Nat.add_sub_cancel_left]
      congr 1
      exact ih k (by simpa using hk) (by simpa using h)
theorem own_setAt {α : Type} {e : TypeId} {n : Nat} {f : α → List Value} {w : World} {B g N cap : Nat} {xs : List α} (hf : Cells n f) (h : Own e n f w B (.slice (some ⟨g, 0, none⟩) N cap) xs) (hn : xs.length = N) (k j : Nat) (hk : k < xs.length) (hj : j < n) (y : α) (u : Value) (hy : f y = (f xs[k]).set j u) :
    Own e n f (w.setCell ⟨g, k * n + j, none⟩ u) B (.slice (some ⟨g, 0, none⟩) N cap) (xs.set k y) := by
  unfold Own at h ⊢
  rw [List.length_set, flat_setAt hf y j hj u xs k hk hy, hn]
  rw [hn] at h
  exact (World.ownsRow.stored h (k * n + j) u).1
/-- What a heap's numbers are within. -/
structure StB (s : StD) : Prop where
  wb : ∀ z ∈ s.ws, 0 ≤ z ∧ z < 18446744073709551616
  tbb : ∀ x ∈ s.tb, (-9223372036854775808 ≤ x.1 ∧ x.1 ≤ 9223372036854775807)
  sb : ∀ x ∈ s.sl, 0 ≤ x.2.2 ∧ x.2.2 < 18446744073709551616
theorem stcheck_s (s : StD) (k : Int) (hk : checkZ s.c0 s.c1 s.c2 s.c3 s.snd s.ws s.top s.tb s.fr s.sl = k) (V : World) (h : StAt V s) (hl : StLe s) (hb : StB s) : Calls Tryz.prog 10 #[.agg #[.int .i64 s.c0, .int .i64 s.c1, .int .i64 s.c2, .int .i64 s.c3, .bool s.snd, .slice s.wA s.ws.length s.wc, .int .i64 s.top, .slice s.tA s.tb.length s.tc, .slice s.fA s.fr.length s.fc, .slice s.sA s.sl.length s.sc]] V fun e w' => e = .returned (.int .i64 k) ∧ Ext V w' := by
  subst hk
  exact stcheck_any V (pers_row h.w) (pers_row h.t) (pers_row h.f) (pers_row h.s) hl.w hl.t hl.f hl.s hb.wb hb.tbb hb.sb
section
variable {wA : Option Addr} {ws : List Int} {wc : Nat} {top : Int} {tA : Option Addr} {tc : Nat} {fA : Option Addr} {fc : Nat} {sA : Option Addr} {sl : List (Bool × Int × Int)} {sc : Nat}
/-- A heap of the example. -/
def awD (wA : Option Addr) (ws : List Int) (wc : Nat) (top : Int) (tA : Option Addr) (tc : Nat) (fA : Option Addr) (fc : Nat) (sA : Option Addr) (sl : List (Bool × Int × Int)) (sc : Nat) : StD := ⟨4, 3, 2, 3, false, wA, ws, wc, top, tA, [], tc, fA, [(8, 3)], fc, sA, sl, sc⟩
/-- It is of the example's size, and within bounds. -/
def awOk (ws : List Int) (sl : List (Bool × Int × Int)) : Bool := decide (ws.length = 11) && decide (sl.length = 2) && ws.all (fun z => decide (0 ≤ z ∧ z < 18446744073709551616)) && sl.all (fun x => decide (0 ≤ x.2.2 ∧ x.2.2 < 18446744073709551616))
theorem awOk.parts (h : awOk ws sl = true) : ws.length = 11 ∧ sl.length = 2 ∧ StLe (awD wA ws wc top tA tc fA fc sA sl sc) ∧ StB (awD wA ws wc top tA tc fA fc sA sl sc) := by
  simp only [awOk, Bool.and_eq_true, decide_eq_true_eq, List.all_eq_true] at h
  obtain ⟨⟨⟨h1, h2⟩, h3⟩, h4⟩ := h
  refine ⟨h1, h2, ⟨?_, ?_, ?_, ?_⟩, ⟨h3, ?_, h4⟩⟩
  · show ws.length ≤ _; omega
  · simp [awD]
  · simp [awD]
  · show sl.length ≤ _; omega
  · simp [awD]
theorem awcheck (ok : awOk ws sl = true) (k : Int) (hk : checkZ 4 3 2 3 false ws top [] [(8, 3)] sl = k) (V : World) (h : StAt V (awD wA ws wc top tA tc fA fc sA sl sc)) : Calls Tryz.prog 10 #[.agg #[.int .i64 4, .int .i64 3, .int .i64 2, .int .i64 3, .bool false, .slice wA 11 wc, .int .i64 top, .slice tA 0 tc, .slice fA 1 fc, .slice sA 2 sc]] V fun e w' => e = .returned (.int .i64 k) ∧ Ext V w' := by
  obtain ⟨h1, h2, h3, h4⟩ := awOk.parts (wA := wA) (wc := wc) (top := top) (tA := tA) (tc := tc) (fA := fA) (fc := fc) (sA := sA) (sc := sc) ok
  have Z := stcheck_s _ k hk V h h3 h4
  simp only [awD, h1, h2, List.length_nil, List.length_cons, Nat.zero_add] at Z
  exact Z
/-- A heap of the example comes back. -/
def RetAw (V : World) (ws : List Int) (top : Int) (sl : List (Bool × Int × Int)) (g : Value → Value) (e : Ending) (w' : World) : Prop := ∃ wA2 wc2 tA2 tc2 fA2 fc2 sA2 sc2, e = .returned (g (.agg #[.int .i64 4, .int .i64 3, .int .i64 2, .int .i64 3, .bool false, .slice wA2 11 wc2, .int .i64 top, .slice tA2 0 tc2, .slice fA2 1 fc2, .slice sA2 2 sc2])) ∧ StOwn V.heap.size w' (awD wA2 ws wc2 top tA2 tc2 fA2 fc2 sA2 sl sc2) ∧ Ext V w'
theorem awcopy (ok : awOk ws sl = true) (V : World) (h : StAt V (awD wA ws wc top tA tc fA fc sA sl sc)) : Calls Tryz.prog 16 #[.agg #[.int .i64 4, .int .i64 3, .int .i64 2, .int .i64 3, .bool false, .slice wA 11 wc, .int .i64 top, .slice tA 0 tc, .slice fA 1 fc, .slice sA 2 sc]] V (RetAw V ws top sl (fun v => v)) := by
  obtain ⟨h1, h2, h3, h4⟩ := awOk.parts (wA := wA) (wc := wc) (top := top) (tA := tA) (tc := tc) (fA := fA) (fc := fc) (sA := sA) (sc := sc) ok
  have Z := scopy_any _ V h h3
  simp only [awD, h1, h2, List.length_nil, List.length_cons, Nat.zero_add] at Z
  refine Z.mono ?_
  rintro e w' ⟨t, he, ho, hv, hx⟩
  obtain ⟨⟨a1, a2, a3, a4⟩, a5, a6, a7, a8, a9, a10⟩ := eqvS_iff.1 hv
  obtain ⟨c0, c1, c2, c3, sn, wA, ws', wc, top', tA, tb, tc, fA, fr, fc, sA, sl', sc⟩ := t
  simp only at a1 a2 a3 a4 a5 a6 a7 a8 a9 a10
  subst a1 a2 a3 a4 a5 a6 a7 a8 a9 a10
  exact ⟨wA, wc, tA, tc, fA, fc, sA, sc, by rw [he]; simp [h1, h2], ho, hx⟩
theorem awnew (V : World) : Calls Tryz.prog 15 #[.agg #[.int .i64 4, .int .i64 3, .int .i64 2, .int .i64 3]] V (RetAw V aw15w 0 aw15s (fun v => .tuple #[v, .int .i64 0])) := by
  refine (stnew_any 4 3 2 3 V).mono ?_
  rintro e w' ⟨t, he, ho, hv, hx⟩
  rw [aw15_new] at hv
  obtain ⟨⟨a1, a2, a3, a4⟩, a5, a6, a7, a8, a9, a10⟩ := eqvS_iff.1 hv
  obtain ⟨c0, c1, c2, c3, sn, wA, ws', wc, top', tA, tb, tc, fA, fr, fc, sA, sl', sc⟩ := t
  simp only at a1 a2 a3 a4 a5 a6 a7 a8 a9 a10
  subst a1 a2 a3 a4 a5 a6 a7 a8 a9 a10
  exact ⟨wA, wc, tA, tc, fA, fc, sA, sc, he, ho, hx⟩
theorem awobjects (ok : awOk ws sl = true) (n : Nat) (hk : checkZ 4 3 2 3 false ws top [] [(8, 3)] sl = 0) (hz : (smallsL 4 3 2 3 false ws top).length = n) (V : World) (h : StAt V (awD wA ws wc top tA tc fA fc sA sl sc)) : Calls Tryz.prog 6 #[.agg #[.int .i64 4, .int .i64 3, .int .i64 2, .int .i64 3, .bool false, .slice wA 11 wc, .int .i64 top, .slice tA 0 tc, .slice fA 1 fc, .slice sA 2 sc]] V fun e w' => ∃ A cap, e = .returned (.tuple #[.slice A n cap, .int .i64 0]) ∧ Ext V w' := by
  obtain ⟨h1, h2, h3, h4⟩ := awOk.parts (wA := wA) (wc := wc) (top := top) (tA := tA) (tc := tc) (fA := fA) (fc := fc) (sA := sA) (sc := sc) ok
  have Z := stobjects_any (c0 := 4) (c1 := 3) (c2 := 2) (c3 := 3) (sn := false) (wc := wc) (top := top) (tc := tc) (fc := fc) (sc := sc) V (pers_row h.w) (pers_row h.t) (pers_row h.f) (pers_row h.s) h3.w h3.t h3.f h3.s h4.wb h4.tbb h4.sb
  simp only [awD, h1, h2, List.length_nil, List.length_cons, Nat.zero_add] at Z
  refine Z.mono ?_
  rintro e w' (⟨h0, -⟩ | ⟨-, A, cap, he, -, hx⟩)
  · exact absurd hk h0
  · exact ⟨A, cap, by rw [he]; simp [hz], hx⟩
theorem awused (k : Int) (hk : usedZ 4 3 2 3 false top = k) (V : World) : Calls Tryz.prog 13 #[.agg #[.int .i64 4, .int .i64 3, .int .i64 2, .int .i64 3, .bool false, .slice wA 11 wc, .int .i64 top, .slice tA 0 tc, .slice fA 1 fc, .slice sA 2 sc]] V fun e w' => e = .returned (.int .i64 k) ∧ Ext V w' := by
  subst hk
  exact stused_any (c0 := 4) (c1 := 3) (c2 := 2) (c3 := 3) (sn := false) (wA := wA) (ws := List.replicate 11 0) (wc := wc) (top := top) (tA := tA) (tb := []) (tc := tc) (fA := fA) (fr := [(0, 0)]) (fc := fc) (sA := sA) (sl := List.replicate 2 (false, 0, 0)) (sc := sc) V
theorem awhead (ok : awOk ws sl = true) (hf : (headH (some ws) 0).f = 0) (he : headE (some ws) 0 = 0) (V : World) (h : StAt V (awD wA ws wc top tA tc fA fc sA sl sc)) : Calls Tryz.prog 8 #[.agg #[.int .i64 4, .int .i64 3, .int .i64 2, .int .i64 3, .bool false, .slice wA 11 wc, .int .i64 top, .slice tA 0 tc, .slice fA 1 fc, .slice sA 2 sc], .int .i64 0] V fun e w' => ∃ k r m c, e = .returned (.tuple #[.agg #[.int .i64 k, .int .i64 0, .int .i64 r, .bool m, .int .i64 c], .int .i64 0]) ∧ Ext V w' := by
  obtain ⟨h1, h2, h3, h4⟩ := awOk.parts (wA := wA) (wc := wc) (top := top) (tA := tA) (tc := tc) (fA := fA) (fc := fc) (sA := sA) (sc := sc) ok
  have Z := sthead_any (c0 := 4) (c1 := 3) (c2 := 2) (c3 := 3) (sn := false) (wc := wc) (top := top) (tA := tA) (tb := []) (tc := tc) (fA := fA) (fr := [(8, 3)]) (fc := fc) (sA := sA) (sl := sl) (sc := sc) V 0 (pers_row h.w) h3.w h4.wb (by omega)
  simp only [awD, h1, h2, List.length_nil, List.length_cons, Nat.zero_add, hf, he] at Z
  refine Z.mono ?_
  rintro e w' ⟨rfl, hx⟩
  exact ⟨_, _, _, _, rfl, hx⟩
variable {wA2 : Option Addr} {ws2 : List Int} {wc2 : Nat} {top2 : Int} {tA2 : Option Addr} {tc2 : Nat} {fA2 : Option Addr} {fc2 : Nat} {sA2 : Option Addr} {sl2 : List (Bool × Int × Int)} {sc2 : Nat}
theorem awsame (ok : awOk ws sl = true) (ok2 : awOk ws2 sl2 = true) (b : Bool) (hb : decide (top = top2 ∧ ws = ws2 ∧ sl = sl2) = b) (V : World) (h : StAt V (awD wA ws wc top tA tc fA fc sA sl sc)) (h' : StAt V (awD wA2 ws2 wc2 top2 tA2 tc2 fA2 fc2 sA2 sl2 sc2)) :
    Calls Tryz.prog 17 #[.agg #[.int .i64 4, .int .i64 3, .int .i64 2, .int .i64 3, .bool false, .slice wA 11 wc, .int .i64 top, .slice tA 0 tc, .slice fA 1 fc, .slice sA 2 sc], .agg #[.int .i64 4, .int .i64 3, .int .i64 2, .int .i64 3, .bool false, .slice wA2 11 wc2, .int .i64 top2, .slice tA2 0 tc2, .slice fA2 1 fc2, .slice sA2 2 sc2]] V fun e w' => e = .returned (.bool b) ∧ Ext V w' := by
  obtain ⟨h1, h2, h3, h4⟩ := awOk.parts (wA := wA) (wc := wc) (top := top) (tA := tA) (tc := tc) (fA := fA) (fc := fc) (sA := sA) (sc := sc) ok
  obtain ⟨k1, k2, k3, k4⟩ := awOk.parts (wA := wA2) (wc := wc2) (top := top2) (tA := tA2) (tc := tc2) (fA := fA2) (fc := fc2) (sA := sA2) (sc := sc2) ok2
  have Z := ssame_any _ _ V h h' h3 k3
  have e : eqvS (awD wA ws wc top tA tc fA fc sA sl sc) (awD wA2 ws2 wc2 top2 tA2 tc2 fA2 fc2 sA2 sl2 sc2) = b := by
    rw [← hb, Bool.eq_iff_iff, eqvS_iff]
    simp [awD]
  rw [e] at Z
  simp only [awD, h1, h2, k1, k2, List.length_nil, List.length_cons, Nat.zero_add] at Z
  exact Z
end
theorem awzero (V : World) : Calls Tryz.prog 10 #[.agg #[.int .i64 0, .int .i64 0, .int .i64 0, .int .i64 0, .bool false, .slice none 0 0, .int .i64 0, .slice none 0 0, .slice none 0 0, .slice none 0 0]] V fun e w' => e = .returned (.int .i64 1) ∧ Ext V w' :=
  stcheck_s ⟨0, 0, 0, 0, false, none, [], 0, 0, none, [], 0, none, [], 0, none, [], 0⟩ 1 aw15_e V ⟨RowAt.none _ _ _, RowAt.none _ _ _, RowAt.none _ _ _, RowAt.none _ _ _⟩ ⟨by simp, by simp, by simp, by simp⟩ ⟨by simp, by simp, by simp⟩
end Go.Proofs.YtkcpfimhbogdcaaGreat

/- A heap of the call's own: its cells, and stores into them. -/
set_option linter.unusedSimpArgs false
set_option linter.unusedVariables false
namespace Go.Proofs.YtkcpfimhbogdcaaGreat
open Go.RowKit Go.Shelf

section
variable {α : Type} {e : TypeId} {n : Nat} {f : α → List Value} {w : World} {B g N cap : Nat} {xs : List α}
theorem own_cellAt (hf : Cells n f) (h0 : 0 < n) (h : Own e n f w B (.slice (some ⟨g, 0, none⟩) N cap) xs) (hn : xs.length = N) (k j : Nat) (hk : k < xs.length) (v : Value) (hv : (f xs[k])[j]? = some v) : w.cell? ⟨g, k * n + j, none⟩ = some v := by
  subst hn
  have hr := (own_row h hf h0).1
  obtain ⟨b, off, e1, hc⟩ := RowAt.get hr (by omega)
  injection e1 with e1
  injection e1 with e1 e2 _
  subst e1 e2
  have := hc k xs[k] (by simp [hk]) j v hv
  simpa using this
theorem own_frozen (h : Own e n f w B (.slice (some ⟨g, 0, none⟩) N cap) xs) (i : Nat) : w.frozen? ⟨g, i, none⟩ = false := by
  obtain ⟨cur, hc⟩ := own_heap h
  exact (cells_of hc).2 i
theorem own_far {v : Value} (h : Own e n f w B v xs) (hg : g < B) (i : Nat) (u : Value) : Own e n f (w.setCell ⟨g, i, none⟩ u) B v xs :=
  h.setNe (fun hv => by have := (own_lt h hv).1; omega)
end
section
variable {B g : Nat} {w : World} {s : StD}
theorem StOwn.far (h : StOwn B w s) (hg : g < B) (i : Nat) (u : Value) : StOwn B (w.setCell ⟨g, i, none⟩ u) s := ⟨own_far h.w hg i u, own_far h.t hg i u, own_far h.f hg i u, own_far h.s hg i u⟩
theorem StOwn.box (h : StOwn B w s) {X : Nat} {cs : Array Value} {r : Nat × Nat} (hb : w.heap[X]? = some (.cells cs 28 r)) (i : Nat) (u : Value) : StOwn B (w.setCell ⟨X, i, none⟩ u) s :=
  ⟨h.w.setOther hb (by decide), h.t.setOther hb (by decide), h.f.setOther hb (by decide), h.s.setOther hb (by decide)⟩
theorem StOwn.setW (h : StOwn B w s) (hA : s.wA = some ⟨g, 0, none⟩) (k : Nat) (z : Int) : StOwn B (w.setCell ⟨g, k, none⟩ (.int .u64 z)) { s with ws := s.ws.set k z } := by
  have hw := h.w
  rw [hA] at hw
  obtain ⟨cur, hc⟩ := own_heap hw
  refine ⟨?_, h.t.setOther hc (by decide), h.f.setOther hc (by decide), h.s.setOther hc (by decide)⟩
  simp only [List.length_set, hA]
  exact own_setU hw rfl k z
theorem StOwn.setS (h : StOwn B w s) (hA : s.sA = some ⟨g, 0, none⟩) (k j : Nat) (hk : k < s.sl.length) (hj : j < 3) (y : Bool × Int × Int) (u : Value) (hy : slotC y = (slotC s.sl[k]).set j u) : StOwn B (w.setCell ⟨g, k * 3 + j, none⟩ u) { s with sl := s.sl.set k y } := by
  have hs := h.s
  rw [hA] at hs
  obtain ⟨cur, hc⟩ := own_heap hs
  refine ⟨h.w.setOther hc (by decide), h.t.setOther hc (by decide), h.f.setOther hc (by decide), ?_⟩
  simp only [List.length_set, hA]
  exact own_setAt slotCells hs rfl k j hk hj y u hy
/-- The table and what is free lie apart. -/
def Aprt (s : StD) : Prop := (Value.slice s.tA s.tb.length s.tc).ownBlock = none ∨ (Value.slice s.tA s.tb.length s.tc).ownBlock ≠ (Value.slice s.fA s.fr.length s.fc).ownBlock
theorem StOwn.setT (h : StOwn B w s) (ha : Aprt s) (hA : s.tA = some ⟨g, 0, none⟩) (k j : Nat) (hk : k < s.tb.length) (hj : j < 2) (y : Int × Int) (u : Value) (hy : spanC y = (spanC s.tb[k]).set j u) : StOwn B (w.setCell ⟨g, k * 2 + j, none⟩ u) { s with tb := s.tb.set k y } := by
  have hs := h.t
  rw [hA] at hs
  obtain ⟨cur, hc⟩ := own_heap hs
  refine ⟨h.w.setOther hc (by decide), ?_, h.f.setNe ?_, h.s.setOther hc (by decide)⟩
  · simp only [List.length_set, hA]
    exact own_setAt spanCells hs rfl k j hk hj y u hy
  · rcases ha with ha | ha
    · rw [hA] at ha; simp [Value.ownBlock] at ha
    · rw [hA] at ha
      intro hh
      exact ha (by rw [hh]; simp [Value.ownBlock])
theorem StOwn.setF (h : StOwn B w s) (ha : Aprt s) (hA : s.fA = some ⟨g, 0, none⟩) (k j : Nat) (hk : k < s.fr.length) (hj : j < 2) (y : Int × Int) (u : Value) (hy : spanC y = (spanC s.fr[k]).set j u) : StOwn B (w.setCell ⟨g, k * 2 + j, none⟩ u) { s with fr := s.fr.set k y } := by
  have hs := h.f
  rw [hA] at hs
  obtain ⟨cur, hc⟩ := own_heap hs
  refine ⟨h.w.setOther hc (by decide), h.t.setNe ?_, ?_, h.s.setOther hc (by decide)⟩
  · rcases ha with ha | ha
    · rw [ha]; simp
    · rw [hA] at ha
      intro hh
      exact ha (by rw [hh]; simp [Value.ownBlock])
  · simp only [List.length_set, hA]
    exact own_setAt spanCells hs rfl k j hk hj y u hy
end
end Go.Proofs.YtkcpfimhbogdcaaGreat

