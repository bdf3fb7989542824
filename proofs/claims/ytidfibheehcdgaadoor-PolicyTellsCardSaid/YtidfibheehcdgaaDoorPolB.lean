/- The walks of the package policy and of its reference: first, Of, Read. -/
import Derived.Test.YtidfibheehcdgaaDoorPolA
set_option linter.unusedSimpArgs false
set_option linter.unusedVariables false
namespace Go.Proofs.YtidfibheehcdgaaDoor
open Go.RowKit

/-- The first of n numbers of which something is so. -/
def fstN (P : Nat → Bool) (n : Nat) : Option Nat := (List.range n).find? P
theorem fst_hit {P : Nat → Bool} {n k : Nat} (hk : k < n) (h : P k = true) (hq : ∀ i, i < k → P i = false) : fstN P n = some k := by
  unfold fstN
  rw [List.find?_eq_some_iff_getElem]
  exact ⟨h, k, by simpa using hk, by simp, fun j hj => by simpa using hq j hj⟩
theorem fst_miss {P : Nat → Bool} {n : Nat} (hq : ∀ i, i < n → P i = false) : fstN P n = none := by
  unfold fstN
  rw [List.find?_eq_none]
  intro x hx
  simpa using hq x (List.mem_range.1 hx)
theorem fst_cases (P : Nat → Bool) (n : Nat) : (fstN P n = none ∧ ∀ i, i < n → P i = false) ∨ ∃ k, k < n ∧ fstN P n = some k ∧ P k = true ∧ ∀ i, i < k → P i = false := by
  unfold fstN
  cases h : (List.range n).find? P with
  | none => exact .inl ⟨rfl, fun i hi => by simpa using List.find?_eq_none.1 h i (List.mem_range.2 hi)⟩
  | some k =>
    obtain ⟨h1, j, hj, he, hno⟩ := List.find?_eq_some_iff_getElem.1 h
    simp only [List.length_range] at hj
    simp only [List.getElem_range] at he hno
    subst he
    exact .inr ⟨j, hj, rfl, h1, fun i hi => by simpa using hno i hi⟩
/-- What is so of a number just if it is so of its rest by 18. -/
theorem fst_mod {P : Nat → Bool} (h : ∀ p, P p = P (p % 18)) : fstN P 256 = fstN P 18 := by
  rcases fst_cases P 18 with ⟨h1, h2⟩ | ⟨k, hk, h1, h2, h3⟩
  · rw [h1]
    exact fst_miss fun i _ => by rw [h i]; exact h2 _ (Nat.mod_lt _ (by omega))
  · rw [h1]
    exact fst_hit (by omega) h2 h3

/-- A closure tells P of a byte in every world grown out of V. -/
def TellsB (g : Nat) (lb : Array Value) (P : Nat → Bool) (V : World) : Prop :=
  ∀ W (p : Nat), p < 18 → Ext V W → Calls Tryd.prog g (#[.int .u8 p] ++ lb) W fun e w' => e = .returned (.bool (P p)) ∧ Ext W w'
def fstP (o : Option Nat) : Nat := o.getD 0
def fstB (o : Option Nat) : Bool := o.isSome
theorem ret_fst {k : IntKind} {a c : Int} {b d : Bool} (h1 : a = c) (h2 : b = d) : Ending.returned (.tuple #[.int k a, .bool b]) = .returned (.tuple #[.int k c, .bool d]) := by rw [h1, h2]

set_option maxRecDepth 100000 in
set_option maxHeartbeats 4000000 in
theorem first_any (P : Nat → Bool) (g : Nat) (lb : Array Value) (eg : ∀ args w, (callFunc g args).run Tryd.prog w = .ok (.enter g args) w) (V : World) (hp : TellsB g lb P V) :
    Calls Tryd.prog 32 #[.func (.func g) #[] lb] V fun e w' => e = .returned (.tuple #[.int .u8 (fstP (fstN P 18)), .bool (fstB (fstN P 18))]) ∧ Ext V w' := by
  have HP := Lib.hid hp
  clear hp
  go_enter Tryd.func32, Tryd.ntmps32
  go_wp2_with fail
  go_loopw [4, 5] (fun _ i wr => ∃ k : Nat, k ≤ 18 ∧ i = .int .u8 k ∧ Ext V wr ∧ Hid (∀ i, i < k → P i = false)) (fun _ i _ => 18 - (intOf i).toNat)
  case atStart => exact ⟨0, by omega, rfl, Ext.refl _, Lib.hid (by omega)⟩
  case round =>
    obtain ⟨k, hk, rfl, hxr, hq⟩ := hrel
    by_cases hlt : k < 18
    rotate_left
    · have HR := Lib.hid (fst_miss (P := P) (n := 18) (fun i hi => hq.out i (by omega)))
      clear hq
      go_wp2_with fail
      go_ret2
      exact ⟨ret_fst (by rw [HR.out]; rfl) (by rw [HR.out]; rfl), hxr⟩
    have hcall := HP.out wr k hlt hxr
    clear HP
    cases hh : P k
    · have HQ : Hid (∀ i, i < k + 1 → P i = false) := Lib.hid (fun i hi => by
        rcases Nat.lt_or_ge i k with h' | h'
        · exact hq.out i h'
        · obtain rfl : i = k := by omega
          exact hh)
      rw [hh] at hcall
      have HC := Lib.hid hcall
      clear hcall hh hq
      go_wp2_with (go_at_fn g; refine HC.out.mono ?_; rintro e w1 ⟨rfl, hx1⟩; replace hxr := hxr.trans hx1)
      go_roundw
      case rel => exact ⟨k + 1, by omega, by go_num, hxr, HQ⟩
      case measure => simp [intOf]; omega
    · have HQ := Lib.hid (fst_hit hlt hh hq.out)
      rw [hh] at hcall
      have HC := Lib.hid hcall
      clear hcall hh hq
      go_wp2_with (go_at_fn g; refine HC.out.mono ?_; rintro e w1 ⟨rfl, hx1⟩; replace hxr := hxr.trans hx1)
      go_ret2
      exact ⟨ret_fst (by rw [HQ.out]; rfl) (by rw [HQ.out]; rfl), hxr⟩

theorem poltext_is (p : Nat) (l : List UInt8) (hp : p < 256) (hl : polL p = l) (w : World) (ht : TabP w) :
    Calls Tryd.prog 18 #[.int .u8 p] w fun e w' => e = .returned (.string ⟨l.toArray⟩) ∧ Ext w w' := by subst hl; exact poltext_any p hp w ht
def readP (s : ByteArray) (p : Nat) : Bool := polL p == s.toList
set_option maxRecDepth 100000 in
set_option maxHeartbeats 4000000 in
theorem read1_tells (s : ByteArray) (B : Nat) (V : World) (hc : V.cell? ⟨B, 0, none⟩ = some (.string s)) (ht : TabP V) : TellsB 33 #[.pointer (some ⟨B, 0, none⟩)] (readP s) V := by
  intro W p hp hx
  show Calls Tryd.prog 33 #[.int .u8 p, .pointer (some ⟨B, 0, none⟩)] W _
  have hs0 : Ext W W := Ext.refl W
  have l0 := fun u : ExtOf W => (hx.trans u.2).cell hc
  have HT2 : Hid (∀ u : ExtOf W, TabP u.1) := Lib.hid fun u => (ht.ext hx).ext u.2
  have HR := Lib.hid (show readP s p = (polL p == s.toList) from rfl)
  obtain ⟨l, hl⟩ : ∃ l, polL p = l := ⟨_, rfl⟩
  rw [hl] at HR
  have HL := Lib.hid hl
  clear hl hc ht
  have hp' : p < 256 := by omega
  go_enter Tryd.func33, Tryd.ntmps33
  go_wp2_with fail
  (refine wp_region_ext (W := W) (by kernel_rfl) (by kernel_rfl) (by with_reducible assumption) ?_; (repeat (go_big_quiet_step (first | (go_at_call 18; with_reducible exact Calls.ext_of (poltext_is p l hp' HL.out _ (HT2.out _)))))); refine wpQuiet_nil ?_; intro w1 hx)
  go_wp2_with fail
  go_ret
  exact ⟨ret_bool (by rw [HR.out]), hx⟩
def ofPol (o b : Int) (p : Nat) : Bool := ((p % 3 : Nat) : Int) == o && ((blkN p : Nat) : Int) == b
set_option maxRecDepth 100000 in
set_option maxHeartbeats 4000000 in
theorem of1_tells (o b : Int) (B : Nat) (V : World) (hc : V.cell? ⟨B, 0, none⟩ = some (.int .i64 o)) (hd : V.cell? ⟨B + 1, 0, none⟩ = some (.int .i64 b)) : TellsB 34 #[.pointer (some ⟨B, 0, none⟩), .pointer (some ⟨B + 1, 0, none⟩)] (ofPol o b) V := by
  intro W p hp hx
  show Calls Tryd.prog 34 #[.int .u8 p, .pointer (some ⟨B, 0, none⟩), .pointer (some ⟨B + 1, 0, none⟩)] W _
  have hs0 : Ext W W := Ext.refl W
  have l0 := fun u : ExtOf W => (hx.trans u.2).cell hc
  have l1 := fun u : ExtOf W => (hx.trans u.2).cell hd
  have hp' : p < 256 := by omega
  obtain ⟨z, hz⟩ : ∃ z : Int, ((p % 3 : Nat) : Int) = z := ⟨_, rfl⟩
  obtain ⟨y, hy⟩ : ∃ y : Int, ((blkN p : Nat) : Int) = y := ⟨_, rfl⟩
  have HR := Lib.hid (show ofPol o b p = (z == o && y == b) by unfold ofPol; rw [hz, hy])
  have HZ := Lib.hid hz
  have HY := Lib.hid hy
  clear hz hy hc hd
  cases h1 : z == o
  · go_enter Tryd.func34, Tryd.ntmps34
    go_wp2_with fail
    (refine wp_region_ext (W := W) (by kernel_rfl) (by kernel_rfl) (by with_reducible assumption) ?_; (repeat (go_big_quiet_step (first | (go_at_call 14; with_reducible exact Calls.ext_of ((order_is p z hp' HZ.out _).mono (fun e w' h => ⟨h.1, h.2 ▸ Ext.refl _⟩))) | (go_at_call 16; with_reducible exact Calls.ext_of ((block_is p y hp' HY.out _).mono (fun e w' h => ⟨h.1, h.2 ▸ Ext.refl _⟩)))))); refine wpQuiet_nil ?_; intro w1 hx)
    go_wp2_with fail
    go_ret
    exact ⟨ret_bool (by rw [HR.out, h1]; rfl), by assumption⟩
  · go_enter Tryd.func34, Tryd.ntmps34
    go_wp2_with fail
    (refine wp_region_ext (W := W) (by kernel_rfl) (by kernel_rfl) (by with_reducible assumption) ?_; (repeat (go_big_quiet_step (first | (go_at_call 14; with_reducible exact Calls.ext_of ((order_is p z hp' HZ.out _).mono (fun e w' h => ⟨h.1, h.2 ▸ Ext.refl _⟩))) | (go_at_call 16; with_reducible exact Calls.ext_of ((block_is p y hp' HY.out _).mono (fun e w' h => ⟨h.1, h.2 ▸ Ext.refl _⟩)))))); refine wpQuiet_nil ?_; intro w1 hx)
    go_wp2_with fail
    go_ret
    exact ⟨ret_bool (by rw [HR.out, h1]; rfl), by assumption⟩
end Go.Proofs.YtidfibheehcdgaaDoor
