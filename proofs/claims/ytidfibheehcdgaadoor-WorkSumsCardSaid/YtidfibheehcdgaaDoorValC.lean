/- The walks of value.Text and of its reference. -/
import Derived.Test.YtidfibheehcdgaaDoorValB
import Derived.Test.YtidfibheehcdgaaDoorShelf
import Derived.Lib.ItoaMem
import Derived.Lib.ItoaLen
set_option linter.unusedSimpArgs false
set_option linter.unusedVariables false
namespace Go.Proofs.YtidfibheehcdgaaDoor
open Go.RowKit

theorem below_grown {w : World} (k : Nat) (os : Array Obj) : Ext w (Sort.grow (w.drewN k) os) := by
  refine ⟨rfl, rfl, rfl, ?_, fun i hi => ?_⟩
  · simp [Sort.grow, World.drewN]
  · simp [Sort.grow, World.drewN, Array.getElem?_append_left hi]
def digW (w : World) (x : Int) (e : Ending) (w' : World) : Prop := e = .returned (.string ⟨(Lib.itoa x).toArray⟩) ∧ w = w'
theorem cat_list (a b : Array UInt8) : (ByteArray.mk a) ++ (ByteArray.mk b) = ⟨a ++ b⟩ := by
  apply ByteArray.ext
  simp
def digT : ByteArray := ⟨#[48, 49, 50, 51, 52, 53, 54, 55, 56, 57]⟩
theorem slice_digit (u : Nat) (w : World) : (Instr.slice 9 (.string { data := #[48, 49, 50, 51, 52, 53, 54, 55, 56, 57] }) (some (.int .i64 ((u : Int) % 10))) (some (.int .i64 ((u : Int) % 10 + 1))) none).run Tryd.prog w = .ok (.string ⟨#[UInt8.ofNat (48 + u % 10)]⟩) w := by
  have e : ((u : Int) % 10) = ((u % 10 : Nat) : Int) := by omega
  rw [e]
  have h : u % 10 < 10 := by omega
  generalize u % 10 = d at *
  have : d = 0 ∨ d = 1 ∨ d = 2 ∨ d = 3 ∨ d = 4 ∨ d = 5 ∨ d = 6 ∨ d = 7 ∨ d = 8 ∨ d = 9 := by omega
  rcases this with rfl | rfl | rfl | rfl | rfl | rfl | rfl | rfl | rfl | rfl <;> (go_simp; try rfl)
theorem ret_str {a b : List UInt8} (h : a = b) : Ending.returned (.string ⟨a.toArray⟩) = .returned (.string ⟨b.toArray⟩) := by rw [h]

set_option maxRecDepth 100000 in
set_option maxHeartbeats 1000000 in
theorem refdigits_nn : ∀ (n u : Nat), u < n → u ≤ 9223372036854775807 → ∀ w, Calls Tryd.prog 38 #[.int .i64 u] w (digW w u) := by
  intro n
  induction n with
  | zero => intro x h; omega
  | succ n ih =>
    intro u hn h1 w
    have IH := Lib.hid ih
    have hsl := slice_digit u
    clear ih
    by_cases hbig : 10 ≤ u
    · go_enter Tryd.func38, Tryd.ntmps38
      go_wp2_with fail
      rw [show (u : Int) / 10 = ((u / 10 : Nat) : Int) from by omega]
      refine (IH.out (u / 10) (by omega) (by omega) w).mono ?_
      rintro e w1 ⟨rfl, rfl⟩
      rw [show ((u / 10 : Nat) : Int) = (u : Int) / 10 from by omega]
      have h2 : Lib.itoa u = Lib.itoa ((u : Int) / 10) ++ [48 + UInt8.ofNat (u % 10)] := by
        rw [show (u : Int) / 10 = ((u / 10 : Nat) : Int) from by omega, Lib.itoa_nonneg, Lib.itoa_nonneg, Lib.decDigits, dif_neg (by omega)]
        simp
      have H2 := Lib.hid h2
      clear h2
      have hl := Lib.itoa_length_le ((u : Int) / 10) (by omega) (by omega)
      generalize Lib.itoa ((u : Int) / 10) = l at *
      go_wp2_with fail
      go_ret
      exact ⟨by rw [H2.out]; simp [cat_list], rfl⟩
    · have h2 : Lib.itoa u = [48 + UInt8.ofNat (u % 10)] := by
        rw [Lib.itoa_nonneg, Lib.decDigits, dif_pos (by omega), Nat.mod_eq_of_lt (by omega)]
        simp
      have H2 := Lib.hid h2
      clear h2
      go_enter Tryd.func38, Tryd.ntmps38
      go_wp2_with fail
      go_ret
      exact ⟨(by rw [H2.out] : Ending.returned (.string ⟨#[48 + UInt8.ofNat (u % 10)]⟩) = .returned (.string ⟨(Lib.itoa u).toArray⟩)), rfl⟩
theorem itoa_neg_small (u : Nat) (h : 1 ≤ u) : Lib.itoa (-(u : Int)) = [45] ++ Lib.itoa u := by rw [Lib.itoa_neg u h, Lib.itoa_nonneg]; rfl
theorem itoa_neg_big (u : Nat) (h : 9 < u) : Lib.itoa (-(u : Int)) = Lib.itoa (-((u / 10 : Nat) : Int)) ++ Lib.itoa ((u % 10 : Nat) : Int) := by
  rw [Lib.itoa_neg u (by omega), Lib.itoa_neg (u / 10) (by omega), Lib.itoa_nonneg, Lib.decDigits, dif_neg (by omega), Lib.decDigits_one (i := u % 10) (by omega)]
  rfl

set_option maxRecDepth 100000 in
set_option maxHeartbeats 1000000 in
theorem refdigits_neg : ∀ (n u : Nat), u < n → 1 ≤ u → u ≤ 9223372036854775808 → ∀ w, Calls Tryd.prog 38 #[.int .i64 (-(u : Int))] w (digW w (-(u : Int))) := by
  intro n
  induction n with
  | zero => intro x h; omega
  | succ n ih =>
    intro u hn h0 h1 w
    have IH := Lib.hid ih
    clear ih
    by_cases hbig : 9 < u
    · have h2 := itoa_neg_big u hbig
      have H2 := Lib.hid h2
      clear h2
      go_enter Tryd.func38, Tryd.ntmps38
      go_wp2_with fail
      rw [show -((u : Int) / 10) = -((u / 10 : Nat) : Int) from by omega]
      refine (IH.out (u / 10) (by omega) (by omega) (by omega) w).mono ?_
      rintro e w1 ⟨rfl, rfl⟩
      have hl := Lib.itoa_length_le (-((u / 10 : Nat) : Int)) (by omega) (by omega)
      have hm := Lib.itoa_length_le ((u % 10 : Nat) : Int) (by omega) (by omega)
      generalize Lib.itoa (-((u / 10 : Nat) : Int)) = l at *
      go_wp2_with fail
      rw [show (u : Int) % 10 = ((u % 10 : Nat) : Int) from by omega]
      refine (refdigits_nn (u % 10 + 1) (u % 10) (by omega) (by omega) _).mono ?_
      rintro e w1 ⟨rfl, rfl⟩
      generalize Lib.itoa ((u % 10 : Nat) : Int) = m at *
      go_wp2_with fail
      go_ret
      exact ⟨by rw [H2.out]; simp [cat_list], rfl⟩
    · have h2 := itoa_neg_small u h0
      have H2 := Lib.hid h2
      clear h2
      go_enter Tryd.func38, Tryd.ntmps38
      go_wp2_with fail
      refine (refdigits_nn (u + 1) u (by omega) (by omega) w).mono ?_
      rintro e w1 ⟨rfl, rfl⟩
      have hl := Lib.itoa_length_le u (by omega) (by omega)
      generalize Lib.itoa u = l at *
      go_wp2_with fail
      go_ret
      exact ⟨by rw [H2.out]; simp [cat_list], rfl⟩
theorem refdigits_any (x : Int) (h0 : -9223372036854775808 ≤ x) (h1 : x ≤ 9223372036854775807) (w : World) : Calls Tryd.prog 38 #[.int .i64 x] w (digW w x) := by
  by_cases h : x < 0
  · obtain ⟨u, rfl⟩ : ∃ u : Nat, x = -(u : Int) := ⟨x.natAbs, by omega⟩
    exact refdigits_neg (u + 1) u (by omega) (by omega) (by omega) w
  · obtain ⟨u, rfl⟩ : ∃ u : Nat, x = (u : Int) := ⟨x.natAbs, by omega⟩
    exact refdigits_nn (u + 1) u (by omega) (by omega) w

/-- A value in words. -/
def textL (k x : Int) : List UInt8 := if vmayB k x then (if k = 0 then [110, 105, 108] else if k = 1 then Lib.itoa x else 64 :: Lib.itoa x) else [63]
abbrev TabP (w : World) : Prop := Lib.TabIs Tryd.prog w "internal/strconv.uint64pow10" .u64 Lib.pow10Tab
theorem TabP.ext {w w' : World} (h : TabP w) (hx : Ext w w') : TabP w' := by
  unfold TabP Lib.TabIs World.var? at h ⊢
  revert h
  cases Tryd.prog.globalNamed "internal/strconv.uint64pow10" with
  | none => exact id
  | some g =>
    simp only [Option.bind_some]
    cases hb : w.heap[g]? with
    | none => intro h; cases h
    | some o =>
      have hg : g < w.heap.size := (Array.getElem?_eq_some_iff.1 hb).1
      rw [hx.block hg, hb]
      exact id

theorem index_three (i : Nat) (hi : i < 3) (a b c : Value) (ha : ∃ s, a = .string s) (hb : ∃ s, b = .string s) (hc : ∃ s, c = .string s) (w : World) :
    (Instr.index 59 (.agg #[a, b, c]) (.int .i64 (i : Int))).run Tryd.prog w = .ok (#[a, b, c].getD i undef) w := by
  obtain ⟨a, rfl⟩ := ha
  obtain ⟨b, rfl⟩ := hb
  obtain ⟨c, rfl⟩ := hc
  have : i = 0 ∨ i = 1 ∨ i = 2 := by omega
  rcases this with rfl | rfl | rfl <;> (unfold Instr.index; go_simp; try rfl)

theorem enc_is (k x u er : Int) (h1 : encW k x = u) (h2 : encE k x = er) (w : World) :
    Calls Tryd.prog 20 #[.agg #[.int .i64 k, .int .i64 x]] w fun e w' => e = .returned (.tuple #[.int .u64 u, .int .i64 er]) ∧ Ext w w' := by
  subst h1 h2; exact enc_any k x w

set_option maxRecDepth 100000 in
set_option maxHeartbeats 1000000 in
theorem vtext_any (k x : Int) (h0 : -9223372036854775808 ≤ x) (h1 : x ≤ 9223372036854775807) (w : World) (ht : TabP w) :
    Calls Tryd.prog 27 #[.agg #[.int .i64 k, .int .i64 x]] w fun e w' => e = .returned (.string ⟨(textL k x).toArray⟩) ∧ Ext w w' := by
  have k0 := boxed w #[.int .i64 k, .int .i64 x] 39 0 (.int .i64 k) rfl
  have k1 := boxed w #[.int .i64 k, .int .i64 x] 39 1 (.int .i64 x) rfl
  have hW : Ext w (w.alloc (.cells #[.int .i64 k, .int .i64 x] 39)) := (Ext.refl w).alloc _
  have HT := Lib.hid ht
  obtain ⟨b, hb⟩ : ∃ b, vmayB k x = b := ⟨_, rfl⟩
  have HB := Lib.hid hb
  obtain ⟨er, he⟩ : ∃ er, encE k x = er := ⟨_, rfl⟩
  have HE := Lib.hid he
  clear ht hb he
  go_enter Tryd.func27, Tryd.ntmps27
  go_wp2_with fail
  generalize w.alloc (.cells #[.int .i64 k, .int .i64 x] 39) = W at *
  refine (enc_is k x _ er rfl HE.out _).mono ?_
  rintro e W1 ⟨rfl, hx⟩
  have hX := hW.trans hx
  have c0 := k0 W1 hx
  have c1 := k1 W1 hx
  cases b
  · obtain rfl : er = 1 := by rw [← HE.out]; exact (enc_no HB.out).2
    have HTX := Lib.hid (show textL k x = [63] by unfold textL; rw [HB.out]; rfl)
    go_wp2_with fail
    go_ret
    exact ⟨(by rw [HTX.out] : Ending.returned (.string ⟨#[63]⟩) = .returned (.string ⟨(textL k x).toArray⟩)), hX⟩
  · obtain rfl : er = 0 := by rw [← HE.out]; unfold encE; rw [HB.out]; rfl
    have hk : k = 0 ∨ k = 1 ∨ k = 2 := by
      have h := of_decide_eq_true HB.out
      omega
    have hl := Lib.itoa_length_le x h0 h1
    clear k0 k1
    rcases hk with rfl | rfl | rfl
    all_goals
      go_wp2_with fail
      refine (Tryd.strconv_FormatInt_10 x h0 h1 W1 (HT.out.ext hX)).mono ?_
      rintro e W2 ⟨rfl, n, os, rfl⟩
      have hX2 := hX.trans (below_grown n os)
      have c2 := (below_grown n os).cell c0
      have c3 := (below_grown n os).cell c1
      have HTX0 := Lib.hid (show vmayB 0 x = true → textL 0 x = [110, 105, 108] from fun h => by unfold textL; rw [h]; rfl)
      have HTX1 := Lib.hid (show vmayB 1 x = true → textL 1 x = Lib.itoa x from fun h => by unfold textL; rw [h]; rfl)
      have HTX2 := Lib.hid (show vmayB 2 x = true → textL 2 x = 64 :: Lib.itoa x from fun h => by unfold textL; rw [h]; rfl)
      generalize Sort.grow (W1.drewN n) os = W3 at *
      generalize Lib.itoa x = l at *
      have i0 : ∀ w : World, (Instr.index 59 (.agg #[.string ⟨#[110, 105, 108]⟩, .string ⟨l.toArray⟩, .string ((ByteArray.mk #[64]) ++ (ByteArray.mk l.toArray))]) (.int .i64 0)).run Tryd.prog w = .ok (.string ⟨#[110, 105, 108]⟩) w := index_three 0 (by omega) (.string ⟨#[110, 105, 108]⟩) (.string ⟨l.toArray⟩) (.string ((ByteArray.mk #[64]) ++ (ByteArray.mk l.toArray))) ⟨_, rfl⟩ ⟨_, rfl⟩ ⟨_, rfl⟩
      have i1 : ∀ w : World, (Instr.index 59 (.agg #[.string ⟨#[110, 105, 108]⟩, .string ⟨l.toArray⟩, .string ((ByteArray.mk #[64]) ++ (ByteArray.mk l.toArray))]) (.int .i64 1)).run Tryd.prog w = .ok (.string ⟨l.toArray⟩) w := index_three 1 (by omega) (.string ⟨#[110, 105, 108]⟩) (.string ⟨l.toArray⟩) (.string ((ByteArray.mk #[64]) ++ (ByteArray.mk l.toArray))) ⟨_, rfl⟩ ⟨_, rfl⟩ ⟨_, rfl⟩
      have i2 : ∀ w : World, (Instr.index 59 (.agg #[.string ⟨#[110, 105, 108]⟩, .string ⟨l.toArray⟩, .string ((ByteArray.mk #[64]) ++ (ByteArray.mk l.toArray))]) (.int .i64 2)).run Tryd.prog w = .ok (.string ((ByteArray.mk #[64]) ++ (ByteArray.mk l.toArray))) w := index_three 2 (by omega) (.string ⟨#[110, 105, 108]⟩) (.string ⟨l.toArray⟩) (.string ((ByteArray.mk #[64]) ++ (ByteArray.mk l.toArray))) ⟨_, rfl⟩ ⟨_, rfl⟩ ⟨_, rfl⟩
      go_wp2_with fail
      go_ret
    · exact ⟨(by rw [HTX0.out HB.out] : Ending.returned (.string ⟨#[110, 105, 108]⟩) = .returned (.string ⟨(textL 0 x).toArray⟩)), hX2⟩
    · exact ⟨(by rw [HTX1.out HB.out] : Ending.returned (.string ⟨l.toArray⟩) = .returned (.string ⟨(textL 1 x).toArray⟩)), hX2⟩
    · exact ⟨(by rw [HTX2.out HB.out, cat_list]; simp : Ending.returned (.string ((ByteArray.mk #[64]) ++ (ByteArray.mk l.toArray))) = .returned (.string ⟨(textL 2 x).toArray⟩)), hX2⟩

set_option maxRecDepth 100000 in
set_option maxHeartbeats 1000000 in
theorem refvtext_any (k x : Int) (h0 : -9223372036854775808 ≤ x) (h1 : x ≤ 9223372036854775807) (w : World) :
    Calls Tryd.prog 28 #[.agg #[.int .i64 k, .int .i64 x]] w fun e w' => e = .returned (.string ⟨(textL k x).toArray⟩) ∧ Ext w w' := by
  have k0 := boxed w #[.int .i64 k, .int .i64 x] 39 0 (.int .i64 k) rfl
  have k1 := boxed w #[.int .i64 k, .int .i64 x] 39 1 (.int .i64 x) rfl
  have hW : Ext w (w.alloc (.cells #[.int .i64 k, .int .i64 x] 39)) := (Ext.refl w).alloc _
  obtain ⟨b, hb⟩ : ∃ b, vmayB k x = b := ⟨_, rfl⟩
  have HB := Lib.hid hb
  clear hb
  go_enter Tryd.func28, Tryd.ntmps28
  go_wp2_with fail
  generalize w.alloc (.cells #[.int .i64 k, .int .i64 x] 39) = W at *
  refine (refvmay_is k x b HB.out _).mono ?_
  rintro e W1 ⟨rfl, hx⟩
  have hX := hW.trans hx
  have c0 := k0 W1 hx
  have c1 := k1 W1 hx
  cases b
  · have HTX := Lib.hid (show textL k x = [63] by unfold textL; rw [HB.out]; rfl)
    go_wp2_with fail
    go_ret
    exact ⟨(by rw [HTX.out] : Ending.returned (.string ⟨#[63]⟩) = .returned (.string ⟨(textL k x).toArray⟩)), hX⟩
  · have hk : k = 0 ∨ k = 1 ∨ k = 2 := by
      have h := of_decide_eq_true HB.out
      omega
    have hl := Lib.itoa_length_le x h0 h1
    have HTX0 := Lib.hid (show vmayB 0 x = true → textL 0 x = [110, 105, 108] from fun h => by unfold textL; rw [h]; rfl)
    have HTX1 := Lib.hid (show vmayB 1 x = true → textL 1 x = Lib.itoa x from fun h => by unfold textL; rw [h]; rfl)
    have HTX2 := Lib.hid (show vmayB 2 x = true → textL 2 x = 64 :: Lib.itoa x from fun h => by unfold textL; rw [h]; rfl)
    clear k0 k1
    rcases hk with rfl | rfl | rfl
    · go_wp2_with fail
      go_ret
      exact ⟨(by rw [HTX0.out HB.out] : Ending.returned (.string ⟨#[110, 105, 108]⟩) = .returned (.string ⟨(textL 0 x).toArray⟩)), hX⟩
    · go_wp2_with fail
      refine (refdigits_any x h0 h1 W1).mono ?_
      rintro e W2 ⟨rfl, rfl⟩
      generalize Lib.itoa x = l at *
      go_wp2_with fail
      go_ret
      exact ⟨(by rw [HTX1.out HB.out] : Ending.returned (.string ⟨l.toArray⟩) = .returned (.string ⟨(textL 1 x).toArray⟩)), hX⟩
    · go_wp2_with fail
      refine (refdigits_any x h0 h1 W1).mono ?_
      rintro e W2 ⟨rfl, rfl⟩
      generalize Lib.itoa x = l at *
      go_wp2_with fail
      go_ret
      exact ⟨(by rw [HTX2.out HB.out, cat_list]; simp : Ending.returned (.string ((ByteArray.mk #[64]) ++ (ByteArray.mk l.toArray))) = .returned (.string ⟨(textL 2 x).toArray⟩)), hX⟩
end Go.Proofs.YtidfibheehcdgaaDoor
