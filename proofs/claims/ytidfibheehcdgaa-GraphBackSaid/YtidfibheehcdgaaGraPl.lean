/- A graph put in another order, and back: plain. Of no program. -/
import Derived.Test.YtidfibheehcdgaaGraZ
set_option linter.unusedSimpArgs false
set_option linter.unusedVariables false
namespace Go.Proofs.Ytidfibheehcdgaa
open Go.RowKit Go.Shelf

theorem nodup_short : ∀ (n : Nat) (l : List Nat), l.Nodup → (∀ x ∈ l, x < n) → l.length ≤ n := by
  intro n
  induction n with
  | zero =>
    intro l _ h
    cases l with
    | nil => simp
    | cons x l => exact absurd (h x (by simp)) (by omega)
  | succ n ih =>
    intro l hd h
    have h1 := ih (l.filter (fun x => decide (x ≠ n))) (hd.sublist List.filter_sublist) (fun x hx => by
      obtain ⟨h2, h3⟩ := List.mem_filter.1 hx
      have := h x h2
      have : x ≠ n := by simpa using h3
      omega)
    have h2 : ∀ (m : List Nat), m.Nodup → m.length ≤ (m.filter (fun x => decide (x ≠ n))).length + 1 := by
      intro m
      induction m with
      | nil => simp
      | cons x m ihm =>
        intro hm
        rw [List.nodup_cons] at hm
        by_cases hx : x = n
        · subst hx
          have e : m.filter (fun y => decide (y ≠ x)) = m := by
            rw [List.filter_eq_self]
            intro y hy
            have : y ≠ x := fun e => hm.1 (e ▸ hy)
            simpa using this
          rw [List.filter_cons_of_neg (by simp), e]
          simp
        · rw [List.filter_cons_of_pos (by simpa using hx)]
          have := ihm hm.2
          simp only [List.length_cons]
          omega
    have := h2 l hd
    omega
/-- An order that is one of all nodes. -/
structure Perm (o : List Int) (n : Nat) : Prop where
  len : o.length = n
  in_ : ∀ i, i < n → 0 ≤ o.getD i 0 ∧ o.getD i 0 < n
  pl : ∀ i, i < n → placeZ o (o.getD i 0) = i
theorem Perm.of_bad {o : List Int} {n : Nat} (h : badO o n = false) (hl : o.length = n) : Perm o n := by
  have h1 : ∀ i, i < n → 0 ≤ o.getD i 0 ∧ o.getD i 0 < n ∧ placeZ o (o.getD i 0) = i := fun i hi => by
    apply Classical.byContradiction
    intro hn
    rw [badO_yes (by omega) hn] at h
    cases h
  exact ⟨hl, fun i hi => ⟨(h1 i hi).1, (h1 i hi).2.1⟩, fun i hi => (h1 i hi).2.2⟩
section
variable {o : List Int} {n : Nat}
theorem Perm.inj (h : Perm o n) {i j : Nat} (hi : i < n) (hj : j < n) (he : o.getD i 0 = o.getD j 0) : i = j := by
  have h1 := h.pl i hi
  rw [he, h.pl j hj] at h1
  omega
theorem Perm.all (h : Perm o n) {x : Nat} (hx : x < n) : ∃ k : Nat, k < n ∧ placeZ o x = k ∧ o.getD k 0 = x := by
  rcases place_cases o x with ⟨_, h2⟩ | ⟨k, h1, h2, h3, _⟩
  · exfalso
    have hn : ((x : Nat) :: o.map Int.toNat).Nodup := by
      rw [List.nodup_cons]
      constructor
      · intro hm
        obtain ⟨y, hy, e⟩ := List.mem_map.1 hm
        obtain ⟨i, hi, rfl⟩ := List.mem_iff_getElem.1 hy
        have := h.in_ i (by have := h.len; omega)
        rw [List.getD_eq_getElem?_getD, List.getElem?_eq_getElem hi, Option.getD_some] at this
        exact h2 _ hy (by omega)
      · rw [List.nodup_iff_pairwise_ne, List.pairwise_iff_getElem]
        intro i j hi hj hij he
        simp only [List.length_map] at hi hj
        have a := h.in_ i (by have := h.len; omega)
        have b := h.in_ j (by have := h.len; omega)
        have := h.inj (i := i) (j := j) (by have := h.len; omega) (by have := h.len; omega) (by
          rw [List.getD_eq_getElem?_getD, List.getElem?_eq_getElem hi, Option.getD_some] at a ⊢
          rw [List.getD_eq_getElem?_getD, List.getElem?_eq_getElem hj, Option.getD_some] at b ⊢
          simp only [List.getElem_map] at he
          omega)
        omega
    have := nodup_short n _ hn (fun y hy => by
      rcases List.mem_cons.1 hy with rfl | hy
      · exact hx
      · obtain ⟨z, hz, rfl⟩ := List.mem_map.1 hy
        obtain ⟨i, hi, rfl⟩ := List.mem_iff_getElem.1 hz
        have := h.in_ i (by have := h.len; omega)
        rw [List.getD_eq_getElem?_getD, List.getElem?_eq_getElem hi, Option.getD_some] at this
        omega)
    simp only [List.length_cons, List.length_map, h.len] at this
    omega
  · exact ⟨k, by have := h.len; omega, h2, h3⟩
/-- The order back. -/
def backO (o : List Int) (n : Nat) : List Int := (List.range n).map fun x => placeZ o (x : Nat)
theorem back_len : (backO o n).length = n := by simp [backO]
theorem back_get {x : Nat} (hx : x < n) : (backO o n).getD x 0 = placeZ o x := by simp [backO, hx]
theorem Perm.back_place (h : Perm o n) {p : Nat} (hp : p < n) : placeZ (backO o n) p = o.getD p 0 := by
  obtain ⟨h1, h2⟩ := h.in_ p hp
  obtain ⟨y, hy⟩ := Int.eq_ofNat_of_zero_le h1
  have hyn : y < n := by omega
  have e : placeZ (backO o n) (p : Int) = (y : Nat) := by
    refine place_hit (by rw [back_len]; exact hyn) ?_ (fun i hi => ?_)
    · rw [back_get hyn, ← hy, h.pl p hp]
    · rw [back_get (by omega)]
      intro he
      obtain ⟨k, hk, h3, h4⟩ := h.all (x := i) (by omega)
      rw [h3] at he
      have : k = p := by omega
      subst this
      omega
  rw [e, hy]
theorem Perm.back_bad (h : Perm o n) : badO (backO o n) n = false := by
  refine badO_no fun i hi => ?_
  rw [back_len] at hi
  obtain ⟨k, hk, h1, h2⟩ := h.all (x := i) hi
  rw [back_get hi, h1]
  refine ⟨by omega, by omega, ?_⟩
  rw [h.back_place hk, h2]
theorem Perm.turn_back (h : Perm o n) {v : Int × Int} (hv : v.1 = 2 → 0 ≤ v.2 ∧ v.2 < n) : turned (backO o n) (turned o v) = v := by
  by_cases h2 : v.1 = 2
  · obtain ⟨h3, h4⟩ := hv h2
    obtain ⟨x, hx⟩ := Int.eq_ofNat_of_zero_le h3
    obtain ⟨k, hk, h5, h6⟩ := h.all (x := x) (by omega)
    have e : turned o v = (2, (k : Int)) := by rw [turned, if_pos h2, hx, h5]
    rw [e, turned, if_pos rfl, h.back_place hk, h6, ← hx, ← h2]
  · rw [turned, turned, if_neg h2, if_neg h2]
theorem Perm.not_lost (h : Perm o n) {v : Int × Int} (hv : v.1 = 2 → 0 ≤ v.2 ∧ v.2 < n) : lostV (backO o n) (turned o v) = false := by
  by_cases h2 : v.1 = 2
  · obtain ⟨h3, h4⟩ := hv h2
    obtain ⟨x, hx⟩ := Int.eq_ofNat_of_zero_le h3
    obtain ⟨k, hk, h5, h6⟩ := h.all (x := x) (by omega)
    have e : turned o v = (2, (k : Int)) := by rw [turned, if_pos h2, hx, h5]
    rw [e, lostV, h.back_place hk, h6]
    simp
  · rw [turned, if_neg h2, lostV]
    simp [h2]
theorem okV_turn (h : Perm o n) (hn : n ≤ 1099511627776) {v : Int × Int} (hv : okV n v = true) : okV n (turned o v) = true := by
  by_cases h2 : v.1 = 2
  · have h3 : 0 ≤ v.2 ∧ v.2 < n := by simp [okV, vmayB, h2] at hv; omega
    obtain ⟨x, hx⟩ := Int.eq_ofNat_of_zero_le h3.1
    obtain ⟨k, hk, h5, h6⟩ := h.all (x := x) (by omega)
    have e : turned o v = (2, (k : Int)) := by rw [turned, if_pos h2, hx, h5]
    rw [e]
    simp [okV, vmayB]
    omega
  · rw [turned, if_neg h2]; exact hv
theorem okV_ref2 {v : Int × Int} (hv : okV n v = true) : v.1 = 2 → 0 ≤ v.2 ∧ v.2 < n := by
  intro h2
  simp [okV, vmayB, h2] at hv; omega
end
section
variable {G H : GraphD} {o : List Int}
/-- What a graph is that is G in the order o. -/
structure TurnedBy (G H : GraphD) (o : List Int) : Prop where
  ns : H.ns.map nodeV = o.map (turnN o G.ns)
  rs : H.rs = G.rs.map (turned o)
theorem TurnedBy.len (h : TurnedBy G H o) (hp : Perm o G.ns.length) : H.ns.length = G.ns.length := by
  have := congrArg List.length h.ns
  simp only [List.length_map] at this
  rw [this, hp.len]
theorem TurnedBy.node (h : TurnedBy G H o) (hp : Perm o G.ns.length) {j : Nat} (hj : j < G.ns.length) : nodeV (H.ns.getD j default) = turnN o G.ns (o.getD j 0) := by
  have hl := h.len hp
  have e := congrArg (fun l => l.getD j (0, [], [])) h.ns
  have hj1 : j < H.ns.length := by omega
  have hj2 : j < o.length := by rw [hp.len]; exact hj
  simp only [List.getD_eq_getElem?_getD, List.getElem?_map] at e ⊢
  rw [List.getElem?_eq_getElem hj1] at e ⊢
  rw [List.getElem?_eq_getElem hj2] at e ⊢
  exact e
theorem right_parts (hR : rightG G = true) : (∀ x ∈ G.ns, okN x = true ∧ ∀ v ∈ x.fields, okV G.ns.length v = true) ∧ ∀ v ∈ G.rs, okV G.ns.length v = true := by
  simp only [rightG, Bool.and_eq_true, List.all_eq_true] at hR
  exact hR
theorem turnN_eq (j : Int) (ns : List NodeD) : turnN o ns j = ((ns.getD j.toNat default).kind, (ns.getD j.toNat default).fields.map (turned o), (ns.getD j.toNat default).raws) := rfl
/-- Each node of H is a turned one of G. -/
theorem TurnedBy.each (h : TurnedBy G H o) (hp : Perm o G.ns.length) : ∀ y ∈ H.ns, ∃ x ∈ G.ns, y.kind = x.kind ∧ y.fields = x.fields.map (turned o) ∧ y.raws = x.raws := by
  intro y hy
  obtain ⟨j, hj, rfl⟩ := List.mem_iff_getElem.1 hy
  have hl := h.len hp
  have e := h.node hp (j := j) (by omega)
  have hb := hp.in_ j (by omega)
  rw [List.getD_eq_getElem?_getD, List.getElem?_eq_getElem hj, Option.getD_some, turnN_eq] at e
  simp only [nodeV, Prod.mk.injEq] at e
  exact ⟨_, getD_mem (d := default) (by omega), e⟩
theorem TurnedBy.right (h : TurnedBy G H o) (hp : Perm o G.ns.length) (hR : rightG G = true) (hn : G.ns.length ≤ 1000) : rightG H = true := by
  obtain ⟨h1, h2⟩ := right_parts hR
  have hl := h.len hp
  simp only [rightG, Bool.and_eq_true, List.all_eq_true, hl]
  refine ⟨fun y hy => ?_, fun v hv => ?_⟩
  · obtain ⟨x, hx, e1, e2, e3⟩ := h.each hp y hy
    obtain ⟨a, b⟩ := h1 x hx
    refine ⟨?_, fun v hv => ?_⟩
    · simp only [okN, e1, e2, e3, List.length_map] at a ⊢; exact a
    · rw [e2] at hv
      obtain ⟨u, hu, rfl⟩ := List.mem_map.1 hv
      exact okV_turn hp (by omega) (b u hu)
  · rw [h.rs] at hv
    obtain ⟨u, hu, rfl⟩ := List.mem_map.1 hv
    exact okV_turn hp (by omega) (h2 u hu)
theorem TurnedBy.back (h : TurnedBy G H o) (hp : Perm o G.ns.length) (hR : rightG G = true) (hn : G.ns.length ≤ 1000) :
    renE H (backO o G.ns.length) = 0 ∧ renN H (backO o G.ns.length) = G.ns.map nodeV ∧ renR H (backO o G.ns.length) = G.rs := by
  obtain ⟨h1, h2⟩ := right_parts hR
  have hl := h.len hp
  have e0 : renE H (backO o G.ns.length) = 0 := by
    refine renE_ok (h.right hp hR hn) (by rw [hl]; exact hp.back_bad) ?_
    simp only [lostO, Bool.or_eq_false_iff, List.any_eq_false]
    refine ⟨fun j hj => ?_, fun v hv => ?_⟩
    · simp only [backO, List.mem_map, List.mem_range] at hj
      obtain ⟨x, hx, rfl⟩ := hj
      obtain ⟨k, hk, e1, e2⟩ := hp.all hx
      rw [e1, Int.toNat_natCast]
      have := h.each hp (H.ns.getD k default) (getD_mem (by omega))
      obtain ⟨z, hz, _, e3, _⟩ := this
      rw [e3, Bool.not_eq_true, List.any_eq_false]
      intro v hv
      obtain ⟨u, hu, rfl⟩ := List.mem_map.1 hv
      rw [hp.not_lost (okV_ref2 ((h1 z hz).2 u hu))]
      simp
    · rw [h.rs] at hv
      obtain ⟨u, hu, rfl⟩ := List.mem_map.1 hv
      rw [hp.not_lost (okV_ref2 (h2 u hu))]
      simp
  have tb : ∀ l : List (Int × Int), (∀ v ∈ l, okV G.ns.length v = true) → (l.map (turned o)).map (turned (backO o G.ns.length)) = l := fun l hl => by
    rw [List.map_map]
    conv => rhs; rw [← List.map_id l]
    refine List.map_congr_left fun v hv => ?_
    exact hp.turn_back (okV_ref2 (hl v hv))
  refine ⟨e0, ?_, ?_⟩
  · rw [renN, if_pos e0]
    have em : (backO o G.ns.length).map (turnN (backO o G.ns.length) H.ns) = (List.range G.ns.length).map (fun x => turnN (backO o G.ns.length) H.ns (placeZ o (x : Nat))) := by
      show List.map _ (List.map _ _) = _
      rw [List.map_map]
      rfl
    rw [em]
    refine List.ext_getElem (by simp) fun i hi1 hi2 => ?_
    have hi : i < G.ns.length := by simpa using hi2
    simp only [List.getElem_map, List.getElem_range]
    obtain ⟨k, hk, e1, e2⟩ := hp.all hi
    have hnode := h.node hp hk
    rw [e2] at hnode
    rw [show turnN (backO o G.ns.length) H.ns (placeZ o ↑i) = turnN (backO o G.ns.length) H.ns (k : Int) by rw [e1]]
    rw [turnN_eq] at hnode ⊢
    simp only [nodeV, Prod.mk.injEq, Int.toNat_natCast] at hnode ⊢
    obtain ⟨a, b, c⟩ := hnode
    have gi : G.ns.getD i default = G.ns[i] := by simp [hi]
    rw [a, b, c, gi]
    refine ⟨rfl, tb _ fun v hv => (h1 _ (List.getElem_mem hi)).2 v hv, rfl⟩
  · rw [renR, if_pos e0, h.rs]
    exact tb _ h2
end
end Go.Proofs.Ytidfibheehcdgaa
