/- Merged by program (merge.py) out of: LoQ, LoR, LoS. -/
import Derived.Test.YtkcpfimhbogdcaaMo28
import Derived.Test.YtkcpfimhbogdcaaMo33
/- Plain laws of a part: what is put stays right; what is swept leaves just the rest. -/
set_option linter.unusedSimpArgs false
set_option linter.unusedVariables false
namespace Go.Proofs.Ytkcpfimhbogdcaa
open Go.RowKit

theorem fillK_get (ws : List Int) (i : Nat) (z : Int) : ∀ (k j : Nat), (fillK ws i z k).getD j 0 = if i ≤ j ∧ j < i + k ∧ j < ws.length then z else ws.getD j 0 := by
  intro k
  induction k with
  | zero => intro j; rw [fillK, if_neg (by omega)]
  | succ k ih =>
    intro j
    rw [fillK, List.getD_eq_getElem?_getD]
    by_cases h : i + k = j
    · subst h
      by_cases hl : i + k < ws.length
      · rw [if_pos (by omega), List.getElem?_set_self (by rw [fillK_len]; exact hl)]
        rfl
      · rw [if_neg (by omega), List.getElem?_eq_none (by rw [List.length_set, fillK_len]; omega), List.getD_eq_getElem?_getD, List.getElem?_eq_none (by omega)]
    · rw [List.getElem?_set_ne h, ← List.getD_eq_getElem?_getD, ih]
      by_cases h1 : i ≤ j ∧ j < i + k ∧ j < ws.length
      · rw [if_pos h1, if_pos (by omega)]
      · rw [if_neg h1, if_neg (by omega)]
theorem fillK_bd {ws : List Int} (hbd : ∀ y ∈ ws, 0 ≤ y ∧ y < 18446744073709551616) (i : Nat) : ∀ k, ∀ y ∈ fillK ws i 0 k, 0 ≤ y ∧ y < 18446744073709551616 := by
  intro k
  induction k with
  | zero => exact hbd
  | succ k ih =>
    intro y hy
    rw [fillK] at hy
    rcases List.mem_or_eq_of_mem_set hy with hy | rfl
    · exact ih y hy
    · omega
/-- What Put leaves of headers. -/
theorem put_at {ws : List Int} {q : Int} {h : Hd} (hbd : ∀ y ∈ ws, 0 ≤ y ∧ y < 18446744073709551616) (hm : hmayB h = true) (h0 : 0 ≤ q) (h1 : q + hsize h ≤ ws.length) :
    putE ws q h = 0 ∧ HdAt (putL ws q h) q h ∧ (∀ y ∈ putL ws q h, 0 ≤ y ∧ y < 18446744073709551616) ∧ ∀ y g, (y < q ∨ q + hsize h ≤ y) → HdAt ws y g → HdAt (putL ws q h) y g := by
  have hn : 1 ≤ hsize h := by
    have h2 := hm
    simp only [hmayB, decide_eq_true_eq] at h2
    rw [hsize, if_pos hm]; omega
  have e1 : putE ws q h = 0 := by
    rw [putE, if_pos hm, rowE, if_neg (by omega), if_neg (by omega)]
  have e2 : putL ws q h = (fillK ws q.toNat 0 (hsize h).toNat).set q.toNat (hwordN h) := by rw [putL, if_pos e1]
  have hl : (putL ws q h).length = ws.length := lput_len _ _ _
  have hb2 : ∀ y ∈ putL ws q h, 0 ≤ y ∧ y < 18446744073709551616 := fun y hy => by
    rw [e2] at hy
    rcases List.mem_or_eq_of_mem_set hy with hy | rfl
    · exact fillK_bd hbd _ _ y hy
    · have := hword_lt h hm; omega
  refine ⟨e1, (hdAt_iff hb2).2 ⟨h0, by rw [hl]; omega, ?_, hm, by rw [hl]; omega⟩, hb2, fun y g hy hg => ?_⟩
  · rw [e2, List.getD_eq_getElem?_getD, List.getElem?_set_self (by rw [fillK_len]; omega)]
    rfl
  · obtain ⟨y0, y1, y2, y3, y4⟩ := (hdAt_iff hbd).1 hg
    refine (hdAt_iff hb2).2 ⟨y0, by rw [hl]; exact y1, ?_, y3, by rw [hl]; exact y4⟩
    rw [e2, List.getD_eq_getElem?_getD, List.getElem?_set_ne (by omega), ← List.getD_eq_getElem?_getD, fillK_get, if_neg (by omega)]
    exact y2
/-- A part into which objects were put, none marked. -/
structure PutI (N : Nat) (s : LoD) : Prop where
  len : s.ws.length = N
  bd : ∀ y ∈ s.ws, 0 ≤ y ∧ y < 18446744073709551616
  led : ledR 0 N s.tb s.fr = true
  hds : ∀ x ∈ s.tb, ∃ h, HdAt s.ws x.1 h ∧ hsize h = x.2 ∧ h.m = false
  top : s.top = 0
theorem put_add {N : Nat} {s : LoD} (h : PutI N s) {n q : Int} {ys : List (Int × Int)} (hT : TakeRes n s.fr ys q 0) : mayB q n = true ∧ s.tb.any (giveP q n) = false ∧ ledR 0 N (addL q n s.tb) ys = true := by
  have hex : ∃ t g, AddRes q n s.tb t g ∧ (g = 0 → mayB q n = true ∧ s.tb.any (giveP q n) = false ∧ t = addL q n s.tb) := by
    cases hm : mayB q n
    · exact ⟨_, 1, .inl ⟨hm, rfl, rfl⟩, fun h => by omega⟩
    · cases ha : s.tb.any (giveP q n)
      · exact ⟨_, 0, .inr (.inr ⟨hm, ha, rfl, rfl⟩), fun _ => ⟨rfl, rfl, rfl⟩⟩
      · exact ⟨_, 16, .inr (.inl ⟨hm, ha, rfl, rfl⟩), fun h => by omega⟩
  obtain ⟨t, g, hA, hg⟩ := hex
  obtain ⟨h1, h2, _⟩ := stays_add h.led hT hA
  obtain ⟨a1, a2, rfl⟩ := hg h1
  exact ⟨a1, a2, h2⟩
theorem led_in {N : Nat} {xs fs : List (Int × Int)} (h : ledR 0 N xs fs = true) {x : Int × Int} (hx : x ∈ xs) : mayB x.1 x.2 = true ∧ 0 ≤ x.1 ∧ 1 ≤ x.2 ∧ x.1 + x.2 ≤ N := by
  obtain ⟨hl, _⟩ := ledR_iff.1 h
  obtain ⟨w1, w2, w3, w4⟩ := within_iff.1 ((led_iff.1 hl).1 x hx)
  have := may_bd w1
  exact ⟨w1, by omega, by omega, by omega⟩
theorem PutI.put {N : Nat} {s : LoD} (h : PutI N s) {hd : Hd} {q : Int} {ys : List (Int × Int)} (h0 : hsize hd ≠ 0) (hm : hd.m = false) (hT : TakeRes (hsize hd) s.fr ys q 0) :
    PutI N ⟨putL s.ws q hd, addL q (hsize hd) s.tb, ys, s.top⟩ := by
  obtain ⟨a1, a2, a3⟩ := put_add h hT
  have hmay : hmayB hd = true := by
    cases hh : hmayB hd
    · rw [hsize, hh] at h0; simp at h0
    · rfl
  obtain ⟨b1, b2, b3, b4⟩ := led_in a3 (mem_addL.2 (.inl rfl))
  simp only at b1 b2 b3 b4
  obtain ⟨_, p2, p3, p4⟩ := put_at h.bd hmay b2 (by rw [h.len]; exact b4)
  refine ⟨(lput_len _ _ _).trans h.len, p3, a3, fun x hx => ?_, h.top⟩
  rcases mem_addL.1 hx with rfl | hx
  · exact ⟨hd, p2, rfl, hm⟩
  · obtain ⟨g, g1, g2, g3⟩ := h.hds x hx
    refine ⟨g, p4 _ _ ?_ g1, g2, g3⟩
    have hx1 := led_in h.led hx
    have hne : meetsB x.1 x.2 q (hsize hd) = false := by
      have := List.any_eq_false.1 a2 x hx
      simpa [giveP] using this
    have := apart_of hx1.1 a1 hne
    omega
/-- Firsts that differ. -/
abbrev Dist (xs : List (Int × Int)) : Prop := xs.Pairwise fun x y => x.1 ≠ y.1
theorem led_dist {N : Nat} {xs fs : List (Int × Int)} (h : ledR 0 N xs fs = true) : Dist xs := by
  obtain ⟨hl, _⟩ := ledR_iff.1 h
  obtain ⟨h1, h2⟩ := led_iff.1 hl
  refine (List.Pairwise.and_mem.1 h2).imp (fun {x y} ⟨hx, hy, hxy⟩ => ?_)
  have := led_in h hx
  omega
theorem drop_filter {xs : List (Int × Int)} (hd : Dist xs) {x : Int × Int} (hx : x ∈ xs) : ∃ k : Nat, k < xs.length ∧ idxZ (findP x.1) xs = k ∧ gt xs k = x ∧ dropL xs x.1 = xs.filter (fun y => !(y.1 == x.1)) := by
  rcases idx_cases (findP x.1) xs with ⟨_, hno⟩ | ⟨k, hk, hi, hy, hzz⟩
  · have := hno x hx
    simp [findP] at this
  · have hyk : (xs.getD k (0, 0)).1 = x.1 := by simpa [findP] using hy
    have hget : xs.getD k (0, 0) = xs[k] := by simp [hk]
    rw [hget] at hyk
    have huniq : ∀ i (hi : i < xs.length), xs[i].1 = x.1 → i = k := fun i hi he => by
      rcases Nat.lt_trichotomy i k with h | h | h
      · exact absurd (he.trans hyk.symm) (List.pairwise_iff_getElem.1 hd i k hi hk h)
      · exact h
      · exact absurd (hyk.trans he.symm) (List.pairwise_iff_getElem.1 hd k i hk hi h)
    obtain ⟨i, hi', rfl⟩ := List.getElem_of_mem hx
    obtain rfl := huniq i hi' rfl
    refine ⟨i, hk, hi, by rw [gt_eq hk], ?_⟩
    rw [dropL, hi, if_neg (by omega), Int.toNat_natCast]
    clear hy hi hyk hget hx hzz
    induction xs generalizing i with
    | nil => simp at hk
    | cons y ys ih =>
      cases i with
      | zero =>
        simp only [List.getElem_cons_zero, List.eraseIdx_cons_zero]
        rw [List.filter_cons_of_neg (by simp)]
        refine (List.filter_eq_self.2 fun z hz => ?_).symm
        have := List.rel_of_pairwise_cons hd hz
        simp only [Bool.not_eq_true', beq_eq_false_iff_ne]
        exact fun e => this e.symm
      | succ i =>
        have hi2 : i < ys.length := by simpa using hk
        simp only [List.getElem_cons_succ, List.eraseIdx_cons_succ]
        have hne : y.1 ≠ ys[i].1 := List.rel_of_pairwise_cons hd (List.getElem_mem hi2)
        rw [List.filter_cons_of_pos (by simpa using hne)]
        congr 1
        refine ih (List.Pairwise.of_cons hd) i hi2 hi2 fun j hj he => ?_
        have := huniq (j + 1) (by simpa using hj) (by simpa using he)
        omega
theorem give_ex (a s : Int) (xs : List (Int × Int)) : ∃ er, GiveRes a s xs (giveL xs (a, s)) er := by
  cases hm : mayB a s
  · exact ⟨1, .inl ⟨hm, by simp [giveL, hm], rfl⟩⟩
  · cases ha : xs.any (giveP a s)
    · exact ⟨0, .inr (.inr ⟨hm, ha, by simp only [giveL, hm, ha]; rfl, rfl⟩)⟩
    · exact ⟨16, .inr (.inl ⟨hm, ha, by simp [giveL, ha], rfl⟩)⟩
/-- Of a table that may be: some spans dropped and given back. -/
theorem drops_stay {N : Nat} : ∀ (l xs fs : List (Int × Int)), ledR 0 N xs fs = true → Dist l → (∀ x ∈ l, x ∈ xs) →
    ledR 0 N (dropsL xs l) (givesL fs l) = true ∧ dropsL xs l = xs.filter (fun y => !(l.any fun x => y.1 == x.1)) := by
  intro l
  induction l with
  | nil => intro xs fs h _ _; exact ⟨h, (List.filter_eq_self.2 (by simp)).symm⟩
  | cons x l ih =>
    intro xs fs h hd hm
    obtain ⟨k, hk, hi, hg, he⟩ := drop_filter (led_dist h) (hm x (by simp))
    obtain ⟨er, hG⟩ := give_ex x.1 x.2 fs
    have hD : DropRes x.1 xs (dropL xs x.1) (x.1, x.2) 0 := .inr ⟨k, hk, hi, by rw [dropL, hi, if_neg (by omega)]; rfl, hg.symm, rfl⟩
    obtain ⟨_, h2, _⟩ := stays_drop h hD hG
    obtain ⟨r1, r2⟩ := ih (dropL xs x.1) (giveL fs x) h2 (List.Pairwise.of_cons hd) (fun y hy => by
      rw [he, List.mem_filter]
      refine ⟨hm y (by simp [hy]), ?_⟩
      have := List.rel_of_pairwise_cons hd hy
      simp only [Bool.not_eq_true', beq_eq_false_iff_ne]
      exact fun e => this e.symm)
    refine ⟨r1, ?_⟩
    show dropsL (dropL xs x.1) l = _
    rw [r2, he, List.filter_filter]
    refine List.filter_congr fun y _ => ?_
    simp only [List.any_cons, Bool.not_or, Bool.and_comm]
theorem sweep_right {N : Nat} {ws : List Int} {xs fs : List (Int × Int)} (h : ledR 0 N xs fs = true) :
    ledR 0 N (dropsL xs (goneL ws xs)) (givesL fs (goneL ws xs)) = true ∧ dropsL xs (goneL ws xs) = xs.filter (fun x => !unmB ws x) := by
  obtain ⟨h1, h2⟩ := drops_stay (goneL ws xs) xs fs h ((led_dist h).filter _) (fun x hx => (List.mem_filter.1 hx).1)
  refine ⟨h1, h2.trans (List.filter_congr fun y hy => ?_)⟩
  congr 1
  cases hu : unmB ws y
  · rw [List.any_eq_false]
    intro x hx he
    obtain ⟨hx1, hx2⟩ := List.mem_filter.1 hx
    have he : y.1 = x.1 := by simpa using he
    simp only [unmB] at hu hx2
    rw [he] at hu
    rw [hu] at hx2
    cases hx2
  · exact List.any_eq_true.2 ⟨y, List.mem_filter.2 ⟨hy, hu⟩, by simp⟩
end Go.Proofs.Ytkcpfimhbogdcaa

/- Plain laws of a part: marks, the list through headers, what is swept. -/
set_option linter.unusedSimpArgs false
set_option linter.unusedVariables false
namespace Go.Proofs.Ytkcpfimhbogdcaa
open Go.RowKit

/-- A list through headers. -/
def ChainT (ws : List Int) (t : List (Int × Int)) : Int → List Nat → Prop
  | top, [] => top = 0
  | top, k :: r => top = (k : Int) + 1 ∧ k < t.length ∧ ∃ h, HdAt ws (t.getD k (0, 0)).1 h ∧ ChainT ws t h.c r
theorem ChainT.top {ws : List Int} {t : List (Int × Int)} {top : Int} {st : List Nat} (h : ChainT ws t top st) : 0 ≤ top ∧ top ≤ t.length := by
  cases st with
  | nil => simp only [ChainT] at h; omega
  | cons k r => simp only [ChainT] at h; omega
theorem dist_at {t : List (Int × Int)} (hd : Dist t) {i j : Nat} (hi : i < t.length) (hj : j < t.length) (he : (t.getD i (0, 0)).1 = (t.getD j (0, 0)).1) : i = j := by
  have h1 : t.getD i (0, 0) = t[i] := by simp [hi]
  have h2 : t.getD j (0, 0) = t[j] := by simp [hj]
  rw [h1, h2] at he
  rcases Nat.lt_trichotomy i j with h | h | h
  · exact absurd he (List.pairwise_iff_getElem.1 hd i j hi hj h)
  · exact h
  · exact absurd he.symm (List.pairwise_iff_getElem.1 hd j i hj hi h)
theorem ChainT.keep {ws ws' : List Int} {t : List (Int × Int)} (hd : Dist t) {k : Nat} (hk : k < t.length) (hw : ∀ y g, y ≠ (t.getD k (0, 0)).1 → HdAt ws y g → HdAt ws' y g) : ∀ {st : List Nat} {top : Int}, k ∉ st → ChainT ws t top st → ChainT ws' t top st := by
  intro st
  induction st with
  | nil => exact fun _ h => h
  | cons j r ih =>
    intro top hn h
    obtain ⟨h1, h2, g, h3, h4⟩ := h
    have hjk : k ≠ j := fun e => hn (by simp [e])
    exact ⟨h1, h2, g, hw _ _ (fun e => hjk (dist_at hd hk h2 e.symm)) h3, ih (fun h => hn (by simp [h])) h4⟩
/-- A part of which some are marked, and some are on the list. -/
structure MkI (N : Nat) (t fr : List (Int × Int)) (mk : List Bool) (st : List Nat) (s : LoD) : Prop where
  len : s.ws.length = N
  bd : ∀ y ∈ s.ws, 0 ≤ y ∧ y < 18446744073709551616
  etb : s.tb = t
  efr : s.fr = fr
  led : ledR 0 N t fr = true
  few : t.length ≤ 30
  mlen : mk.length = t.length
  hds : ∀ k, k < t.length → ∃ h, HdAt s.ws (t.getD k (0, 0)).1 h ∧ hsize h = (t.getD k (0, 0)).2 ∧ h.m = mk.getD k false
  chain : ChainT s.ws t s.top st
  nodup : st.Nodup
section
variable {N : Nat} {t fr : List (Int × Int)} {mk : List Bool} {st : List Nat} {s : LoD}
theorem getD_mem2 {t : List (Int × Int)} {k : Nat} (hk : k < t.length) : t.getD k (0, 0) ∈ t := getD_mem hk
theorem MkI.idx (h : MkI N t fr mk st s) {k : Nat} (hk : k < t.length) : idxZ (findP (t.getD k (0, 0)).1) s.tb = k := by
  rw [h.etb]
  obtain ⟨j, hj, hi, hg, _⟩ := drop_filter (led_dist h.led) (getD_mem2 hk)
  rw [hi]
  have hg' : t.getD j (0, 0) = t.getD k (0, 0) := hg
  have := dist_at (led_dist h.led) hj hk (by rw [hg'])
  omega
theorem MkI.inN (h : MkI N t fr mk st s) {k : Nat} (hk : k < t.length) (hN : N ≤ 300) : -9223372036854775808 ≤ (t.getD k (0, 0)).1 ∧ (t.getD k (0, 0)).1 ≤ 9223372036854775807 := by
  have := led_in h.led (getD_mem2 hk)
  omega
theorem may_at {ws : List Int} {z : Int} {h : Hd} (hbd : ∀ y ∈ ws, 0 ≤ y ∧ y < 18446744073709551616) (hz : HdAt ws z h) : hmayB h = true := ((hdAt_iff hbd).1 hz).2.2.2.1
theorem may_c {h : Hd} (hm : hmayB h = true) : 0 ≤ h.c ∧ h.c ≤ 1048576 := by
  simp only [hmayB, decide_eq_true_eq] at hm; omega
theorem getD_set_eq (mk : List Bool) {k : Nat} (hk : k < mk.length) (i : Nat) (b : Bool) : (mk.set k b).getD i false = if i = k then b else mk.getD i false := by
  by_cases e : i = k
  · subst e; simp [List.getD_eq_getElem?_getD, hk]
  · rw [if_neg e, List.getD_eq_getElem?_getD, List.getElem?_set_ne (fun h => e h.symm), ← List.getD_eq_getElem?_getD]
/-- What the first mark of an object wants and leaves. -/
theorem MkI.mark (h : MkI N t fr mk st s) {k : Nat} (hk : k < t.length) (hm : mk.getD k false = false) (hn : k ∉ st) : ∃ hd : Hd, headH (some s.ws) (t.getD k (0, 0)).1 = hd ∧ headE (some s.ws) (t.getD k (0, 0)).1 = 0 ∧ hd.m = false ∧
    osetE s.ws (t.getD k (0, 0)).1 ⟨hd.k, hd.f, hd.r, true, hd.c⟩ = 0 ∧ headH (some (osetL s.ws (t.getD k (0, 0)).1 ⟨hd.k, hd.f, hd.r, true, hd.c⟩)) (t.getD k (0, 0)).1 = ⟨hd.k, hd.f, hd.r, true, hd.c⟩ ∧ headE (some (osetL s.ws (t.getD k (0, 0)).1 ⟨hd.k, hd.f, hd.r, true, hd.c⟩)) (t.getD k (0, 0)).1 = 0 ∧
    (0 ≤ s.top ∧ s.top ≤ 1048576) ∧ osetE (osetL s.ws (t.getD k (0, 0)).1 ⟨hd.k, hd.f, hd.r, true, hd.c⟩) (t.getD k (0, 0)).1 ⟨hd.k, hd.f, hd.r, true, s.top⟩ = 0 ∧
    MkI N t fr (mk.set k true) (k :: st) ⟨markL s.ws (t.getD k (0, 0)).1 s.top hd, s.tb, s.fr, (k : Int) + 1⟩ := by
  obtain ⟨hd, h1, h2, h3⟩ := h.hds k hk
  have hmay := may_at h.bd h1
  have hc := may_c hmay
  have htop := h.chain.top
  have hfew := h.few
  obtain ⟨m1, m2⟩ := hsize_cm hd true hd.c hmay hc
  obtain ⟨a1, _, a2, a3, a4⟩ := oset_at h.bd h1 m1 m2
  obtain ⟨n1, n2⟩ := hsize_cm hd true s.top hmay ⟨htop.1, by omega⟩
  obtain ⟨b1, _, b2, b3, b4⟩ := oset_at a3 a2 n1 (n2.trans m2.symm)
  have hkeep : ∀ y g, y ≠ (t.getD k (0, 0)).1 → HdAt s.ws y g → HdAt (markL s.ws (t.getD k (0, 0)).1 s.top hd) y g := fun y g hy hg => b4 y g hy (a4 y g hy hg)
  refine ⟨hd, h1.2, h1.1, h3.trans hm, a1, a2.2, a2.1, ⟨htop.1, by omega⟩, b1, ⟨?_, b3, h.etb, h.efr, h.led, h.few, by rw [List.length_set]; exact h.mlen, fun i hi => ?_, ⟨rfl, hk, _, b2, ?_⟩, List.nodup_cons.2 ⟨hn, h.nodup⟩⟩⟩
  · simp only [markL, osetL_len]; exact h.len
  · rw [getD_set_eq mk (by rw [h.mlen]; exact hk)]
    by_cases e : i = k
    · subst e
      rw [if_pos rfl]
      exact ⟨_, b2, n2.trans h2, rfl⟩
    · rw [if_neg e]
      obtain ⟨g, g1, g2, g3⟩ := h.hds i hi
      exact ⟨g, hkeep _ _ (fun he => e (dist_at (led_dist h.led) hi hk he)) g1, g2, g3⟩
  · exact h.chain.keep (led_dist h.led) hk hkeep hn
theorem MkI.again (h : MkI N t fr mk st s) {k : Nat} (hk : k < t.length) (hm : mk.getD k false = true) : ∃ hd : Hd, headH (some s.ws) (t.getD k (0, 0)).1 = hd ∧ headE (some s.ws) (t.getD k (0, 0)).1 = 0 ∧ hd.m = true := by
  obtain ⟨hd, h1, h2, h3⟩ := h.hds k hk
  exact ⟨hd, h1.2, h1.1, h3.trans hm⟩
/-- What a pop wants and leaves. -/
theorem MkI.pop {k : Nat} {r : List Nat} (h : MkI N t fr mk (k :: r) s) : s.top = (k : Int) + 1 ∧ k < t.length ∧ ∃ hd : Hd, headH (some s.ws) (t.getD k (0, 0)).1 = hd ∧ headE (some s.ws) (t.getD k (0, 0)).1 = 0 ∧
    osetE s.ws (t.getD k (0, 0)).1 ⟨hd.k, hd.f, hd.r, hd.m, 0⟩ = 0 ∧ MkI N t fr mk r ⟨osetL s.ws (t.getD k (0, 0)).1 ⟨hd.k, hd.f, hd.r, hd.m, 0⟩, s.tb, s.fr, hd.c⟩ := by
  obtain ⟨h1, hk, hd, h2, h3⟩ := h.chain
  have hmay := may_at h.bd h2
  obtain ⟨m1, m2⟩ := hsize_cm hd hd.m 0 hmay (by omega)
  obtain ⟨a1, _, a2, a3, a4⟩ := oset_at h.bd h2 m1 m2
  obtain ⟨hn1, hn2⟩ := List.nodup_cons.1 h.nodup
  obtain ⟨g, g1, g2, g3⟩ := h.hds k hk
  have hgd : g = hd := g1.2.symm.trans h2.2
  subst hgd
  refine ⟨h1, hk, g, h2.2, h2.1, a1, ⟨?_, a3, h.etb, h.efr, h.led, h.few, h.mlen, fun i hi => ?_, h3.keep (led_dist h.led) hk a4 hn1, hn2⟩⟩
  · simp only [osetL_len]; exact h.len
  · by_cases e : i = k
    · subst e
      exact ⟨_, a2, m2.trans g2, g3⟩
    · obtain ⟨g', k1, k2, k3⟩ := h.hds i hi
      exact ⟨g', a4 _ _ (fun he => e (dist_at (led_dist h.led) hi hk he)) k1, k2, k3⟩
/-- The marked ones, up to some number. -/
def wantK (t : List (Int × Int)) (mk : List Bool) (k : Nat) : List (Int × Int) := ((List.range k).filter (fun i => mk.getD i false)).map (fun i => t.getD i (0, 0))
theorem wantK_snoc (t : List (Int × Int)) (mk : List Bool) (k : Nat) : wantK t mk (k + 1) = wantK t mk k ++ (if mk.getD k false then [t.getD k (0, 0)] else []) := by
  rw [wantK, List.range_succ, List.filter_append, List.map_append, wantK]
  congr 1
  by_cases h : mk.getD k false = true
  · rw [List.filter_cons_of_pos (by exact h), if_pos h]; rfl
  · rw [List.filter_cons_of_neg (by exact h), if_neg h]; rfl
theorem filter_both (p : Int × Int → Bool) (t : List (Int × Int)) : (t.filter p).length + (t.filter (fun x => !p x)).length = t.length := by
  induction t with
  | nil => rfl
  | cons x t ih =>
    cases h : p x
    · rw [List.filter_cons_of_neg (by simp [h]), List.filter_cons_of_pos (by simp [h]), List.length_cons, List.length_cons]; omega
    · rw [List.filter_cons_of_pos (by simp [h]), List.filter_cons_of_neg (by simp [h]), List.length_cons, List.length_cons]; omega
theorem filter_range (t : List (Int × Int)) (p : Int × Int → Bool) : t.filter p = ((List.range t.length).filter (fun i => p (t.getD i (0, 0)))).map (fun i => t.getD i (0, 0)) := by
  have e : t = (List.range t.length).map (fun i => t.getD i (0, 0)) := by
    refine List.ext_getElem (by simp) fun i h1 h2 => ?_
    simp [h1]
  conv => lhs; rw [e, List.filter_map]
  rfl
theorem MkI.unm (h : MkI N t fr mk st s) {k : Nat} (hk : k < t.length) : unmB s.ws (t.getD k (0, 0)) = !mk.getD k false := by
  obtain ⟨hd, h1, _, h3⟩ := h.hds k hk
  rw [unmB, h1.2, h3]
theorem MkI.swept (h : MkI N t fr mk st s) : (sweepL s).tb = wantK t mk t.length ∧ ledR 0 N (sweepL s).tb (sweepL s).fr = true ∧ (goneL s.ws s.tb).length + (wantK t mk t.length).length = t.length := by
  have hf : t.filter (fun x => !unmB s.ws x) = wantK t mk t.length := by
    rw [filter_range, wantK]
    congr 1
    refine List.filter_congr fun i hi => ?_
    rw [h.unm (List.mem_range.1 hi), Bool.not_not]
  obtain ⟨r1, r2⟩ := sweep_right (ws := s.ws) h.led
  refine ⟨?_, ?_, ?_⟩
  · show dropsL s.tb (goneL s.ws s.tb) = _
    rw [h.etb, r2, hf]
  · show ledR 0 N (dropsL s.tb (goneL s.ws s.tb)) (givesL s.fr (goneL s.ws s.tb)) = true
    rw [h.etb, h.efr]
    exact r1
  · rw [h.etb, ← hf, goneL]
    exact filter_both _ _
theorem MkI.count (h : MkI N t fr mk st s) (hm : ∀ k, k ∈ st ↔ k < t.length ∧ mk.getD k false = true) : st.length = (wantK t mk t.length).length := by
  have hp : st.Perm ((List.range t.length).filter (fun i => mk.getD i false)) :=
    (List.perm_ext_iff_of_nodup h.nodup (List.nodup_range.filter _)).2 fun k => by rw [hm, List.mem_filter, List.mem_range]
  rw [wantK, List.length_map]
  exact hp.length_eq
theorem PutI.start (h : PutI N s) (hl : s.tb.length ≤ 30) : MkI N s.tb s.fr (List.replicate s.tb.length false) [] s := by
  refine ⟨h.len, h.bd, rfl, rfl, h.led, hl, by simp, fun k hk => ?_, h.top, List.nodup_nil⟩
  obtain ⟨hd, h1, h2, h3⟩ := h.hds _ (getD_mem2 hk)
  exact ⟨hd, h1, h2, by rw [h3]; simp [List.getD_eq_getElem?_getD, hk]⟩
end
end Go.Proofs.Ytkcpfimhbogdcaa

/- Rows of Booleans; any Put of a part that is right; what else stays. -/
set_option linter.unusedSimpArgs false
set_option linter.unusedVariables false
namespace Go.Proofs.Ytkcpfimhbogdcaa
open Go.RowKit Go.Shelf

def boolC (z : Bool) : List Value := [.bool z]
theorem boolCells : Cells 1 boolC := ⟨fun _ => rfl, fun x u h => by simp [boolC] at h; subst h; rfl⟩
theorem boolInfo0 : (Try.prog.info? 4).map (fun i => (i.zero, i.size, i.bytes)) = some (some (.bool false), 1, 1) := by kernel_rfl
theorem bool_set : ∀ (xs : List Bool) (k : Nat) (z : Bool), (xs.flatMap boolC).set k (.bool z) = (xs.set k z).flatMap boolC
  | [], k, z => by simp
  | x :: xs, 0, z => by simp [boolC]
  | x :: xs, k + 1, z => by
    have h := bool_set xs k z
    simp only [List.flatMap_cons, List.set_cons_succ]
    rw [← h]
    simp [boolC]
theorem own_setB {w : World} {B g cap n : Nat} {xs : List Bool} (h : Own 4 1 boolC w B (.slice (some ⟨g, 0, none⟩) n cap) xs) (hn : xs.length = n) (k : Nat) (z : Bool) :
    Own 4 1 boolC (w.setCell ⟨g, k, none⟩ (.bool z)) B (.slice (some ⟨g, 0, none⟩) n cap) (xs.set k z) := by
  unfold Own at h ⊢
  rw [hn] at h
  rw [List.length_set, hn, ← bool_set]
  exact (World.ownsRow.stored h k (.bool z)).1
theorem wpList_makeB {ops : Array Oper} {rest : List Oper} {o : Oper} {a : Act} {w : World} {Q : Exit → Act → World → Prop} (hg : o.guard = none) (l : Operand) (hop : o.op = Op.makeSlice 90 l l) (n : Nat) (hl : a.eval l = .int .i64 (n : Int)) (hn : n ≤ 17592186044416)
    (hK : ∀ w', Own 4 1 boolC w' w.heap.size (.slice (some ⟨w.heap.size, 0, none⟩) n n) (List.replicate n false) → Ext w w' → wpList Try.prog ops Q rest (a.put o.dst (.slice (some ⟨w.heap.size, 0, none⟩) n n)) w') : wpList Try.prog ops Q (o :: rest) a w := by
  obtain ⟨i, hi, hz0, hz1, hz2⟩ := info_parts boolInfo0
  refine wpList_make_full w hg l l 90 hop w.heap.size 4 i (.bool false) 1 Try.underlying90 hi hz0 hz1 .i64 .i64 n n n hl hl rfl rfl (by rw [hz2]; omega) (by unfold maxLen; omega) (Nat.le_refl _) ?_
  intro w' ho hgr
  refine hK w' ?_ ⟨hgr.os, hgr.tape, hgr.output, hgr.size, fun k hk => hgr.block k hk (by simp)⟩
  unfold Own
  have e : (List.replicate n false).flatMap boolC = (madeCells (Value.bool false).cells (n * 1)).toList := by
    rw [Nat.mul_one, show (Value.bool false).cells = #[Value.bool false] from rfl, toList_madeCells_one]
    clear ho hgr hl hn hK
    induction n with
    | zero => rfl
    | succ n ih => rw [List.replicate_succ, List.flatMap_cons, ih]; rfl
  rw [e, List.length_replicate]
  exact ho
theorem own_boolAt {w : World} {B g cap n : Nat} {xs : List Bool} (h : Own 4 1 boolC w B (.slice (some ⟨g, 0, none⟩) n cap) xs) (hn : xs.length = n) {k : Nat} (hk : k < n) : w.cell? ⟨g, k, none⟩ = some (.bool (xs.getD k false)) := by
  subst hn
  have := own_get boolCells (by decide) h rfl k 0 hk (.bool xs[k]) rfl
  simpa [List.getD_eq_getElem?_getD, hk] using this
def hdC (h : Hd) : List Value := [.int .i64 h.k, .int .i64 h.f, .int .i64 h.r, .bool h.m, .int .i64 h.c]
section
variable {V0 : World} {b p : Nat} {A : Option Addr} {cap N : Nat} {s s' : LoD} {w w' V : World}
/-- A block of another kind stays. -/
theorem Lv.keepBlk (h : Lv V0 b p A cap N s w) (ht : Two b (Value.slice A N cap).ownBlock w w') {k : Nat} {cs : Array Value} {t : TypeId} {r : Nat × Nat} (hk : w.heap[k]? = some (.cells cs t r)) (h1 : t ≠ 102) (h2 : t ≠ 64) : w'.heap[k]? = some (.cells cs t r) := by
  obtain ⟨_, _, _, _, hb⟩ := h.lo
  refine (ht.block k (lt_of_heap hk) (fun e => ?_) (Own.ne_block h.own hk h2)).trans hk
  have h3 := hb.blk
  rw [← e, hk] at h3
  injection h3 with h3
  injection h3 with _ h3 _
  exact h1 h3
theorem blk_ne {w : World} {k g : Nat} {cs cs2 : Array Value} {t t2 : TypeId} {r r2 : Nat × Nat} (h1 : w.heap[k]? = some (.cells cs t r)) (h2 : w.heap[g]? = some (.cells cs2 t2 r2)) (hne : t ≠ t2) : k ≠ g := fun e => by
  rw [e, h2] at h1
  injection h1 with h1
  injection h1 with _ h1 _
  exact hne h1.symm
theorem Lv.far (h : Lv V0 b p A cap N s w) {g : Nat} {cs : Array Value} {t : TypeId} {r : Nat × Nat} (hb : w.heap[g]? = some (.cells cs t r)) (hg : V0.heap.size ≤ g) (h1 : t ≠ 102) (h2 : t ≠ 123) (h3 : t ≠ 64) (h4 : t ≠ 23) (i : Nat) (v : Value) : Lv V0 b p A cap N s (w.setCell ⟨g, i, none⟩ v) := by
  obtain ⟨tA, tc, fA, fc, hl⟩ := h.lo
  exact ⟨⟨tA, tc, fA, fc, ⟨blk_set_other hl.blk v (blk_ne hl.blk hb (fun e => h1 e.symm)), hl.ar.setOther hb h2 h3 _ _, hl.tab.setOther hb h4, hl.fre.setOther hb h4, hl.base⟩⟩, h.ext.setCell (p := ⟨g, i, none⟩) hg v, h.len⟩
theorem takeL_len (n : Int) (xs : List (Int × Int)) (k : Nat) : (takeL n xs k).length ≤ xs.length := by
  unfold takeL
  split
  · exact (List.eraseIdx_sublist _ _).length_le
  · simp
def PutsPost (V0 : World) (b p : Nat) (A : Option Addr) (cap N : Nat) (s : LoD) (V : World) (e : Ending) (w' : World) : Prop :=
  ∃ (q er : Int) (s' : LoD), e = .returned (.tuple #[.int .i64 q, .int .i64 er]) ∧ Lv V0 b p A cap N s' w' ∧ Two b (Value.slice A N cap).ownBlock V w' ∧ PutI N s' ∧ s'.tb.length ≤ s.tb.length + 1 ∧ s'.fr.length ≤ s.fr.length
theorem lv_puts (s : LoD) (hd : Hd) (h : Lv V0 b p A cap N s V) (hp : PutI N s) (hm : hd.m = false) (hl : s.tb.length ≤ 300000) (hl2 : s.fr.length ≤ 300000) :
    Calls Try.prog 46 #[.pointer (some ⟨b, 0, none⟩), .agg #[.int .i64 hd.k, .int .i64 hd.f, .int .i64 hd.r, .bool hd.m, .int .i64 hd.c]] V (PutsPost V0 b p A cap N s V) := by
  by_cases h0 : hsize hd = 0
  · refine (lv_put_no s hd 1 h (.inl ⟨h0, rfl⟩) hl hl2).mono ?_
    rintro e w' ⟨rfl, h1, h2⟩
    exact ⟨0, 1, s, rfl, h1, h2, hp, by omega, Nat.le_refl _⟩
  · obtain ⟨⟨ys, q, er⟩, ht⟩ : ∃ x, takeR (hsize hd) s.fr = x := ⟨_, rfl⟩
    by_cases h1 : er = 0
    · subst h1
      have hT : TakeRes (hsize hd) s.fr ys q 0 := by
        unfold takeR at ht
        split at ht
        · simp at ht
        · split at ht
          · simp at ht
          · rcases idx_cases (takeP (hsize hd)) s.fr with ⟨hi, _⟩ | ⟨k, hk, hi, hy, _⟩
            · exact absurd hi (by assumption)
            · rw [hi, Int.toNat_natCast] at ht
              simp only [Prod.mk.injEq, and_true] at ht
              obtain ⟨rfl, rfl⟩ := ht
              exact .inr (.inr ⟨by omega, k, hk, hi, hy, rfl, rfl, rfl⟩)
      obtain ⟨a1, a2, _⟩ := put_add hp hT
      refine (lv_put s hd ys q _ h rfl h0 ht a1 a2 hl hl2).mono ?_
      rintro e w' ⟨rfl, h1, h2⟩
      refine ⟨_, _, _, rfl, h1, h2, hp.put h0 hm hT, by simp only [addL_length]; omega, ?_⟩
      rcases hT with ⟨_, _, _, h⟩ | ⟨_, _, _, _, h⟩ | ⟨_, k, _, _, _, rfl, _, _⟩
      · omega
      · omega
      · exact takeL_len _ _ _
    · refine (lv_put_no s hd er h (.inr ⟨h0, h1, by rw [ht]⟩) hl hl2).mono ?_
      rintro e w' ⟨rfl, h1, h2⟩
      exact ⟨0, er, s, rfl, h1, h2, hp, by omega, Nat.le_refl _⟩
end
theorem MkI.heads {N : Nat} {t fr : List (Int × Int)} {mk : List Bool} {st : List Nat} {s : LoD} (h : MkI N t fr mk st s) (hN : N ≤ 300) : (∀ x ∈ s.tb, headE (some s.ws) x.1 = 0) ∧ ∀ x ∈ s.tb, (-9223372036854775808 ≤ x.1 ∧ x.1 ≤ 9223372036854775807) := by
  rw [h.etb]
  constructor
  · intro x hx
    obtain ⟨i, hi, rfl⟩ := List.getElem_of_mem hx
    obtain ⟨hd, h1, _⟩ := h.hds i hi
    have e : t.getD i (0, 0) = t[i] := by simp [hi]
    rw [e] at h1
    exact h1.1
  · intro x hx
    have := led_in h.led hx
    omega
theorem wantK_len (t : List (Int × Int)) (mk : List Bool) (k : Nat) : (wantK t mk k).length ≤ k := by
  rw [wantK, List.length_map]
  have := List.length_filter_le (fun i => mk.getD i false) (List.range k)
  simpa using this
theorem putI_new (N : Nat) (h1 : 1 ≤ N) (h2 : N ≤ 300) : PutI N ⟨List.replicate N 0, [], [(0, N)], 0⟩ := by
  refine ⟨by simp, fun y hy => ?_, ?_, by simp, rfl⟩
  · rw [(List.mem_replicate.1 hy).2]; omega
  · simp only
    rw [ledR_of (led_nil _ _) (gaps_new (by simp [mayB]; omega))]
    simp
end Go.Proofs.Ytkcpfimhbogdcaa

