/- Merged by program (merge.py) out of: WpP, ObC. -/
import Derived.Test.YtkcpfimhbogdcaaMo12
import Derived.Test.YtkcpfimhbogdcaaMo20
import Derived.Test.YtkcpfimhbogdcaaMo7
/- Walks, plain: objects stand one behind the other. -/
set_option linter.unusedSimpArgs false
set_option linter.unusedVariables false
namespace Go.Proofs.Ytkcpfimhbogdcaa
open Go.RowKit

/-- Objects at these places, one behind the other, from i up to the top. -/
inductive Chain (l : Option (List Int)) (top : Int) : Int → List Int → Prop
  | nil : Chain l top top []
  | cons {i : Int} {zs : List Int} : i < top → headE l i = 0 → hsize (headH l i) ≤ top - i → Chain l top (i + hsize (headH l i)) zs → Chain l top i (i :: zs)
theorem last_go {l : Option (List Int)} {top i : Int} (hi : i < top) (h2 : wkE l top i = 0) : lastS l top i = lastS l top (i + hsize (headH l i)) := by
  have hg := steps_go hi h2
  obtain ⟨pre, x, e1, -, -, -⟩ := steps_last l top _ (i + hsize (headH l i)) (Nat.le_refl _)
  rw [lastS, lastS, hg, e1, ← List.cons_append]
  simp only [List.getLastD_eq_getLast?, List.getLast?_append, List.getLast?_singleton, Option.some_or, Option.getD_some]
theorem chain_of (l : Option (List Int)) (top : Int) : ∀ (n : Nat) (i : Int), (top - i).toNat ≤ n → i ≤ top → (lastS l top i).e = 0 → Chain l top i (placesL (stepsA l top i)) := by
  intro n
  induction n with
  | zero =>
    intro i hn hi _
    obtain rfl : i = top := by omega
    rw [steps_end (by omega)]
    exact Chain.nil
  | succ n ih =>
    intro i hn hi he
    by_cases h : i < top
    · by_cases h2 : wkE l top i = 0
      · have hh := wkE_head h2
        have hs := head_size hh.1
        rw [last_go h h2] at he
        have := ih (i + hsize (headH l i)) (by omega) (by omega) he
        rw [steps_go h h2]
        exact Chain.cons h hh.1 hh.2 this
      · rw [lastS, steps_err h h2] at he
        exact absurd he h2
    · obtain rfl : i = top := by omega
      rw [steps_end (by omega)]
      exact Chain.nil
theorem Chain.list {l : Option (List Int)} {top i : Int} {zs : List Int} (h : Chain l top i zs) : placesL (stepsA l top i) = zs ∧ lastS l top i = ⟨top, hd0, 0, true⟩ := by
  induction h with
  | nil => rw [lastS, steps_end (by omega)]; exact ⟨rfl, rfl⟩
  | @cons i zs h1 h2 h3 h4 ih =>
    have hw : wkE l top i = 0 := by rw [wkE, if_pos h2, if_neg (by omega)]
    refine ⟨?_, by rw [last_go h1 hw]; exact ih.2⟩
    rw [steps_go h1 hw, ← ih.1]; rfl
theorem Chain.le {l : Option (List Int)} {top i : Int} {zs : List Int} (h : Chain l top i zs) : i ≤ top ∧ ∀ z ∈ zs, i ≤ z := by
  induction h with
  | nil => exact ⟨Int.le_refl _, by simp⟩
  | cons h1 h2 h3 h4 ih =>
    have := head_size h2
    refine ⟨by omega, fun z hz => ?_⟩
    rcases List.mem_cons.1 hz with rfl | hz
    · omega
    · have := ih.2 z hz; omega
theorem Chain.take {l : Option (List Int)} {top i : Int} {zs : List Int} (h : Chain l top i zs) : ∀ (k : Nat) (hk : k < zs.length), Chain l zs[k] i (zs.take k) := by
  induction h with
  | nil => intro k hk; simp at hk
  | @cons i zs h1 h2 h3 h4 ih =>
    intro k hk
    cases k with
    | zero => exact Chain.nil
    | succ k =>
      have hk' : k < zs.length := by simpa using hk
      have := h4.le.2 zs[k] (List.getElem_mem hk')
      have hs := head_size h2
      exact Chain.cons (by simp only [List.getElem_cons_succ]; omega) h2 (by simp only [List.getElem_cons_succ]; omega) (ih k hk')
theorem Chain.head {l : Option (List Int)} {top i : Int} {zs : List Int} (h : Chain l top i zs) : zs.headD top = i := by cases h <;> rfl
theorem Chain.arena {ws : List Int} {top i : Int} {zs : List Int} (h : Chain (some ws) top i zs) (h0 : 0 ≤ i) : (zs.length : Int) ≤ top - i ∧ (zs ≠ [] → top ≤ ws.length) := by
  induction h with
  | nil => simp
  | cons h1 h2 h3 h4 ih =>
    have hs := head_size h2
    obtain ⟨h5, h6⟩ := ih (by omega)
    refine ⟨by simp only [List.length_cons, Int.natCast_add, Int.cast_ofNat_Int]; omega, fun _ => ?_⟩
    cases h4 with
    | nil =>
      have h2' := h2
      rw [headE] at h2'
      split at h2'
      · split at h2'
        · rename_i h7 h8
          split at h2'
          · cases h2'
          · rename_i h9
            rw [headH, if_pos h2]
            simp only [lenA, Option.getD_some] at h9
            omega
        · cases h2'
      · rename_i h7
        exact absurd h2' h7
    | cons a b c d => exact h6 (by simp)
/-- What objects have, as spans. -/
def cutsR (top : Int) : List Int → List (Int × Int)
  | [] => []
  | z :: zs => (z, zs.headD top - z) :: cutsR top zs
theorem cutsR_len (top : Int) (zs : List Int) : (cutsR top zs).length = zs.length := by induction zs <;> simp_all [cutsR]
theorem cutsR_get (top : Int) : ∀ (zs : List Int) (k : Nat), k < zs.length → (cutsR top zs).getD k (0, 0) = (zs.getD k 0, zs.getD (k + 1) top - zs.getD k 0) := by
  intro zs
  induction zs with
  | nil => intro k hk; simp at hk
  | cons z zs ih =>
    intro k hk
    cases k with
    | zero => cases zs <;> rfl
    | succ k => exact ih k (by simpa using hk)
theorem Chain.cover {l : Option (List Int)} {top i : Int} {zs : List Int} (h : Chain l top i zs) : ∀ p, (∃ x ∈ cutsR top zs, InS x p) ↔ i ≤ p ∧ p < top := by
  induction h with
  | nil => intro p; simp [cutsR]; try omega
  | @cons i zs h1 h2 h3 h4 ih =>
    intro p
    have hs := head_size h2
    simp only [cutsR, List.mem_cons, exists_eq_or_imp, ih p, h4.head, InS]
    omega
theorem Chain.may {l : Option (List Int)} {top i : Int} {zs : List Int} (h : Chain l top i zs) (h0 : 0 ≤ i) (ht : top ≤ 1099511627776) : ∀ x ∈ cutsR top zs, mayB x.1 x.2 = true := by
  induction h with
  | nil => simp [cutsR]
  | @cons i zs h1 h2 h3 h4 ih =>
    have hs := head_size h2
    intro x hx
    simp only [cutsR, List.mem_cons, h4.head] at hx
    rcases hx with rfl | hx
    · simp only [mayB, decide_eq_true_eq]; omega
    · exact ih (by omega) x hx
/-- All words from the beginning up to the top. -/
theorem Chain.join {l : Option (List Int)} {top i : Int} {zs : List Int} (h : Chain l top i zs) (h0 : 0 ≤ i) (ht : top ≤ 1099511627776) (hne : zs ≠ []) : joinL (cutsR top zs) = [(i, top - i)] := by
  have hlt : i < top := by
    cases h with
    | nil => exact absurd rfl hne
    | cons a b c d => exact a
  refine Canon.unique (join_canon (cutsR top zs)) ⟨by simp; omega, by simp, fun p => ?_⟩
  rw [covered_iff]
  simp only [List.mem_singleton, exists_eq_left, InS]
  constructor
  · intro hp
    obtain ⟨x, hx, hp'⟩ := (h.cover p).2 (by omega)
    exact ⟨x, hx, h.may h0 ht x hx, hp'⟩
  · rintro ⟨x, hx, -, hp⟩
    have := (h.cover p).1 ⟨x, hx, hp⟩
    omega
theorem list_chain {l : Option (List Int)} {a s top : Int} (h : stopE l a s top = 0) : Chain l top a (listA l a s top) ∧ wkB a s top = true ∧ 0 ≤ a ∧ top ≤ 1099511627776 := by
  have hk : wkB a s top = true := by
    cases hh : wkB a s top
    · rw [stopE, hh] at h; simp at h
    · rfl
  obtain ⟨hm, ht⟩ : mayB a s = true ∧ (a ≤ top ∧ top ≤ a + s) := by simpa [wkB] using hk
  have hm' := hm
  simp only [mayB, decide_eq_true_eq] at hm'
  rw [listA, if_pos h]
  refine ⟨chain_of l top _ a (Nat.le_refl _) ht.1 ?_, hk, by omega, by omega⟩
  rwa [stopE, hk] at h
theorem chain_part {l : Option (List Int)} {a s top : Int} (h : stopE l a s top = 0) {k : Nat} (hk : k < (listA l a s top).length) : listA l a s (listA l a s top)[k] = (listA l a s top).take k ∧ stopE l a s (listA l a s top)[k] = 0 := by
  obtain ⟨hc, hw, h0, ht⟩ := list_chain h
  have h1 := hc.take k hk
  have h2 := h1.le.1
  have h3 := (list_bd (List.getElem_mem hk)).2.1
  have hw2 : wkB a s (listA l a s top)[k] = true := by
    simp only [wkB, Bool.and_eq_true, decide_eq_true_eq] at hw ⊢
    exact ⟨hw.1, by omega, by omega⟩
  obtain ⟨h4, h5⟩ := h1.list
  have h6 : stopE l a s (listA l a s top)[k] = 0 := by rw [stopE, hw2, h5]; rfl
  exact ⟨by rw [listA, if_pos h6, h4], h6⟩
theorem head_sum {l : Option (List Int)} {i : Int} (h : headE l i = 0) : hsize (headH l i) = 1 + (headH l i).f + (headH l i).r ∧ 0 ≤ (headH l i).f ∧ (headH l i).f ≤ 4096 ∧ 0 ≤ (headH l i).r ∧ (headH l i).r ≤ 4096 := by
  rw [headH, if_pos h]
  unfold headE at h
  split at h
  · split at h
    · rename_i hb
      simp only [hdecB, Bool.and_eq_true] at hb
      rw [hsize, hb.2, if_pos rfl]
      have := hb.2
      simp only [hmayB, decide_eq_true_eq] at this
      omega
    · cases h
  · rename_i h2
    exact absurd h h2
/-- An object of a list, and the place behind it. -/
theorem chain_at {l : Option (List Int)} {top : Int} : ∀ {i : Int} {zs : List Int}, Chain l top i zs → ∀ k, k < zs.length → headE l (zs.getD k 0) = 0 ∧ zs.getD (k + 1) top = zs.getD k 0 + hsize (headH l (zs.getD k 0)) := by
  intro i zs h
  induction h with
  | nil => intro k hk; simp at hk
  | @cons i zs h1 h2 h3 h4 ih =>
    intro k hk
    cases k with
    | zero =>
      have h5 := h4.head
      refine ⟨h2, ?_⟩
      show zs.getD 0 top = _
      cases zs with
      | nil => exact h5
      | cons y ys => exact h5
    | succ k => exact ih k (by simpa using hk)
end Go.Proofs.Ytkcpfimhbogdcaa

/- Where a field, or a raw word, of an object stands, and what it is: object.place, read, Field. -/
set_option linter.unusedSimpArgs false
set_option linter.unusedVariables false
namespace Go.Proofs.Ytkcpfimhbogdcaa
open Go.RowKit Go.Shelf

/-- An object's words are there. -/
theorem head_in {l : Option (List Int)} {i : Int} (h : headE l i = 0) : ∃ ws, l = some ws ∧ 0 ≤ i ∧ i + hsize (headH l i) ≤ ws.length := by
  have h2 := h
  rw [headE] at h2
  split at h2
  · rename_i h3
    obtain ⟨ws, rfl, h4, h5⟩ := atA_zero h3
    refine ⟨ws, rfl, h4, ?_⟩
    split at h2
    · split at h2
      · cases h2
      · rename_i h6
        rw [headH, if_pos h]
        simp only [lenA, Option.getD_some] at h6
        omega
    · cases h2
  · rename_i h3; exact absurd h2 h3
def placeN (h : Hd) (raw : Bool) : Int := if raw then h.r else h.f
def placeO (h : Hd) (raw : Bool) : Int := if raw then h.f else 0
def placeE (l : Option (List Int)) (i k : Int) (raw : Bool) : Int := if headE l i = 0 then (if 0 ≤ k ∧ k < placeN (headH l i) raw then 0 else 1) else headE l i
def placeZ (l : Option (List Int)) (i k : Int) (raw : Bool) : Int := if placeE l i k raw = 0 then i + 1 + placeO (headH l i) raw + k else 0
/-- It is a word of the object. -/
theorem place_in {l : Option (List Int)} {i k : Int} {raw : Bool} (h : placeE l i k raw = 0) : headE l i = 0 ∧ 0 ≤ k ∧ k < placeN (headH l i) raw ∧ atA l (placeZ l i k raw) = 0 ∧ i < placeZ l i k raw ∧ placeZ l i k raw < i + hsize (headH l i) := by
  have hz : placeZ l i k raw = i + 1 + placeO (headH l i) raw + k := by rw [placeZ, if_pos h]
  have h0 : headE l i = 0 := by
    by_cases h0 : headE l i = 0
    · exact h0
    · rw [placeE, if_neg h0] at h; exact h
  rw [placeE, if_pos h0] at h
  have hk : 0 ≤ k ∧ k < placeN (headH l i) raw := by
    by_cases hk : 0 ≤ k ∧ k < placeN (headH l i) raw
    · exact hk
    · rw [if_neg hk] at h; cases h
  obtain ⟨g1, g2, g3, g4, g5⟩ := head_sum h0
  obtain ⟨ws, rfl, h3, h4⟩ := head_in h0
  have h5 : i < placeZ (some ws) i k raw ∧ placeZ (some ws) i k raw < i + hsize (headH (some ws) i) := by
    rw [hz]
    cases raw <;> simp only [placeO, placeN, if_true, Bool.false_eq_true, if_false] at hk ⊢ <;> omega
  refine ⟨h0, hk.1, hk.2, ?_, h5.1, h5.2⟩
  simp only [atA]
  rw [if_neg (by omega)]
set_option maxRecDepth 100000
set_option maxHeartbeats 2000000
theorem oplace_any (p : Option Addr) (l : Option (List Int)) (i k : Int) (raw : Bool) (V : World) (hp : ArP V p l) (hi : -9223372036854775808 ≤ i ∧ i ≤ 9223372036854775807) :
    Calls Try.prog 155 #[.pointer p, .int .i64 i, .int .i64 k, .bool raw] V fun e w' => e = .returned (.tuple #[.int .i64 (placeZ l i k raw), .int .i64 (placeE l i k raw)]) ∧ Ext V w' := by
  have HP := Lib.hid hp
  obtain ⟨er, her⟩ : ∃ e, headE l i = e := ⟨_, rfl⟩
  obtain ⟨h, hh⟩ : ∃ h, headH l i = h := ⟨_, rfl⟩
  have HE := Lib.hid her
  have HH := Lib.hid hh
  clear hp
  by_cases h0 : er = 0
  rotate_left
  · have hne : (er != 0) = true := by simpa using h0
    have h1 : placeE l i k raw = er := by rw [placeE, if_neg (by rw [her]; exact h0), her]
    have HR : Hid (placeZ l i k raw = 0 ∧ placeE l i k raw = er) := Lib.hid ⟨by rw [placeZ, if_neg (by rw [h1]; exact h0)], h1⟩
    clear her hh h0 h1
    go_enter Try.func155, Try.ntmps155
    go_wp2_with fail
    refine (ohead_is p l i h er HH.out HE.out V HP.out hi).mono ?_
    rintro e w1 ⟨rfl, hx⟩
    go_wp2_with fail
    go_ret2
    exact ⟨by rw [HR.out.1, HR.out.2]; rfl, hx.alloc _⟩
  subst h0
  obtain ⟨g1, g2, g3, g4, g5⟩ := head_sum her
  obtain ⟨ws, rfl, h3, h4⟩ := head_in her
  have hs := head_size her
  have hws : ws.length ≤ 98304 := by
    rcases HP.out with ⟨_, hl⟩ | ⟨b, A, cap, ws', _, hl, hb⟩
    · cases hl
    · injection hl with hl; rw [hl]; exact hb.len
  rw [hh] at g1 g2 g3 g4 g5 h4 hs
  have HR : Hid (placeE (some ws) i k raw = (if 0 ≤ k ∧ k < placeN h raw then 0 else 1) ∧ placeZ (some ws) i k raw = if 0 ≤ k ∧ k < placeN h raw then i + 1 + placeO h raw + k else 0) := Lib.hid (by
    have e1 : placeE (some ws) i k raw = (if 0 ≤ k ∧ k < placeN h raw then 0 else 1) := by rw [placeE, if_pos HE.out, HH.out]
    refine ⟨e1, ?_⟩
    rw [placeZ, e1, HH.out]
    by_cases hk : 0 ≤ k ∧ k < placeN h raw
    · rw [if_pos hk, if_pos hk, if_pos rfl]
    · rw [if_neg hk, if_neg hk, if_neg (by decide)])
  have HB := pers_new V #[.int .i64 h.k, .int .i64 h.f, .int .i64 h.r, .bool h.m, .int .i64 h.c] 47 _ rfl
  clear her hh
  go_enter Try.func155, Try.ntmps155
  go_wp2_with fail
  refine (ohead_is p (some ws) i h 0 HH.out HE.out V HP.out hi).mono ?_
  rintro e w1 ⟨rfl, hx⟩
  have HBH := pers_new w1 #[.int .i64 h.k, .int .i64 h.f, .int .i64 h.r, .bool h.m, .int .i64 h.c] 47 _ rfl
  have HX := Lib.hid (hx.alloc (.cells #[.int .i64 h.k, .int .i64 h.f, .int .i64 h.r, .bool h.m, .int .i64 h.c] 47))
  clear hx
  go_wp2_with fail
  generalize w1.alloc (.cells #[.int .i64 h.k, .int .i64 h.f, .int .i64 h.r, .bool h.m, .int .i64 h.c] 47) = W at *
  generalize w1.heap.size = X at *
  have g := HBH.cells
  have hxw := Ext.refl W
  (refine wp_region_ext (W := W) (by kernel_rfl) (by kernel_rfl) (by with_reducible assumption) ?_; (repeat (go_big_quiet_step (fail))); refine wpQuiet_nil ?_; intro w1 hx)
  obtain ⟨uq, rfl⟩ : ∃ u : ExtOf W, w1 = u.1 := ⟨⟨w1, hx⟩, rfl⟩
  clear hx hxw
  cases raw
  · simp only [placeN, placeO, Bool.false_eq_true, if_false, Int.add_zero] at HR
    by_cases h5 : k < 0
    · have d1 : decide (k < 0) = true := by simpa using h5
      rw [if_neg (by omega), if_neg (by omega)] at HR
      clear h5
      go_wp2_with fail
      go_ret2
      exact ⟨by rw [HR.out.1, HR.out.2]; rfl, HX.out.trans uq.2⟩
    have d1 : decide (k < 0) = false := by simpa using h5
    by_cases h6 : k < h.f
    · have d2 : decide (h.f ≤ k) = false := by simp; omega
      rw [if_pos (by omega), if_pos (by omega)] at HR
      go_wp2_with fail
      go_ret2
      exact ⟨by rw [HR.out.1, HR.out.2]; rfl, HX.out.trans uq.2⟩
    · have d2 : decide (h.f ≤ k) = true := by simp; omega
      rw [if_neg (by omega), if_neg (by omega)] at HR
      clear h5 h6
      go_wp2_with fail
      go_ret2
      exact ⟨by rw [HR.out.1, HR.out.2]; rfl, HX.out.trans uq.2⟩
  · simp only [placeN, placeO, if_true] at HR
    go_wp2_with fail
    have hxw := uq.2
    (refine wp_region_ext (W := W) (by kernel_rfl) (by kernel_rfl) (by with_reducible assumption) ?_; (repeat (go_big_quiet_step (fail))); refine wpQuiet_nil ?_; intro w1 hx)
    obtain ⟨uq, rfl⟩ : ∃ u : ExtOf W, w1 = u.1 := ⟨⟨w1, hx⟩, rfl⟩
    clear hx hxw
    by_cases h5 : k < 0
    · have d1 : decide (k < 0) = true := by simpa using h5
      rw [if_neg (by omega), if_neg (by omega)] at HR
      clear h5
      go_wp2_with fail
      go_ret2
      exact ⟨by rw [HR.out.1, HR.out.2]; rfl, HX.out.trans uq.2⟩
    have d1 : decide (k < 0) = false := by simpa using h5
    by_cases h6 : k < h.r
    · have d2 : decide (h.r ≤ k) = false := by simp; omega
      rw [if_pos (by omega), if_pos (by omega)] at HR
      go_wp2_with fail
      go_ret2
      exact ⟨by rw [HR.out.1, HR.out.2]; rfl, HX.out.trans uq.2⟩
    · have d2 : decide (h.r ≤ k) = true := by simp; omega
      rw [if_neg (by omega), if_neg (by omega)] at HR
      clear h5 h6
      go_wp2_with fail
      go_ret2
      exact ⟨by rw [HR.out.1, HR.out.2]; rfl, HX.out.trans uq.2⟩
/-- The word of a field, or a raw word. -/
def fldZ (l : Option (List Int)) (i k : Int) (raw : Bool) : Int := if placeE l i k raw = 0 then rdA l (placeZ l i k raw) else 0
theorem oread_any (p : Option Addr) (l : Option (List Int)) (i k : Int) (raw : Bool) (V : World) (hp : ArP V p l) (hi : -9223372036854775808 ≤ i ∧ i ≤ 9223372036854775807) :
    Calls Try.prog 154 #[.pointer p, .int .i64 i, .int .i64 k, .bool raw] V fun e w' => e = .returned (.tuple #[.int .u64 (fldZ l i k raw), .int .i64 (placeE l i k raw)]) ∧ Ext V w' := by
  have HP := Lib.hid hp
  obtain ⟨er, her⟩ : ∃ e, placeE l i k raw = e := ⟨_, rfl⟩
  obtain ⟨z, hz⟩ : ∃ e, placeZ l i k raw = e := ⟨_, rfl⟩
  have Z := oplace_any p l i k raw V hp hi
  rw [her, hz] at Z
  rw [fldZ, her, hz]
  clear hp
  by_cases h0 : er = 0
  · subst h0
    have h1 := (place_in her).2.2.2.1
    rw [hz] at h1
    have H1 := Lib.hid h1
    clear her hz h1
    go_enter Try.func154, Try.ntmps154
    go_wp2_with fail
    refine Z.mono ?_
    clear Z
    rintro e w1 ⟨rfl, hx⟩
    go_wp2_with fail
    refine (aread_is p l z _ 0 rfl H1.out w1 (HP.out.ext hx)).mono ?_
    rintro e w2 ⟨rfl, hx2⟩
    go_wp2_with fail
    go_ret2
    exact ⟨rfl, hx.trans hx2⟩
  · have hne : (er != 0) = true := by simpa using h0
    rw [if_neg h0]
    clear her hz h0
    go_enter Try.func154, Try.ntmps154
    go_wp2_with fail
    refine Z.mono ?_
    clear Z
    rintro e w1 ⟨rfl, hx⟩
    go_wp2_with fail
    go_ret2
    exact ⟨rfl, hx⟩
theorem ofield_any (p : Option Addr) (l : Option (List Int)) (i k : Int) (V : World) (hp : ArP V p l) (hi : -9223372036854775808 ≤ i ∧ i ≤ 9223372036854775807) :
    Calls Try.prog 116 #[.pointer p, .int .i64 i, .int .i64 k] V fun e w' => e = .returned (.tuple #[.int .u64 (fldZ l i k false), .int .i64 (placeE l i k false)]) ∧ Ext V w' := by
  have Z := oread_any p l i k false V hp hi
  generalize fldZ l i k false = z at *
  generalize placeE l i k false = er at *
  go_enter Try.func116, Try.ntmps116
  go_wp2_with fail
  refine Z.mono ?_
  rintro e w1 ⟨rfl, hx⟩
  go_wp2_with fail
  go_ret2
  exact ⟨rfl, hx⟩
end Go.Proofs.Ytkcpfimhbogdcaa

