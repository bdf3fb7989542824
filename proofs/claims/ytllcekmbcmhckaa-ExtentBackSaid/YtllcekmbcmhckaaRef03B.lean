/- The walks of the reference's put, Sort, ends and Join of layer 3. -/
import Derived.Test.YtllcekmbcmhckaaRef03A
import Derived.Test.YtllcekmbcmhckaaOwn
set_option linter.unusedSimpArgs false
set_option linter.unusedVariables false
namespace Go.Proofs.Ytllcekmbcmhckaa
open Go.RowKit

theorem spanInfo0 : (Try.prog.info? 23).map (fun i => (i.zero, i.size, i.bytes)) = some (some (.agg #[.int .i64 0, .int .i64 0]), 2, 16) := by kernel_rfl
theorem intInfo0 : (Try.prog.info? 3).map (fun i => (i.zero, i.size, i.bytes)) = some (some (.int .i64 0), 1, 8) := by kernel_rfl
theorem spanInfo : Info Try.prog 29 23 2 16 :=
  ⟨Try.underlying29, by obtain ⟨i0, hi, hz0, hz1, hz2⟩ := info_parts spanInfo0; exact ⟨i0, _, hi, hz0, hz1, hz2, rfl⟩, by decide⟩
theorem intInfo : Info Try.prog 62 3 1 8 :=
  ⟨Try.underlying62, by obtain ⟨i0, hi, hz0, hz1, hz2⟩ := info_parts intInfo0; exact ⟨i0, _, hi, hz0, hz1, hz2, rfl⟩, by decide⟩

abbrev OwnS (w : World) (B : Nat) (v : Value) (xs : List (Int × Int)) : Prop := Own 23 2 spanC w B v xs
abbrev OwnI (w : World) (B : Nat) (v : Value) (xs : List Int) : Prop := Own 3 1 intC w B v xs

/-- A call that hands back a slice of its own. -/
def RetS (w : World) (B : Nat) (xs : List (Int × Int)) (e : Ending) (w' : World) : Prop := ∃ v, e = .returned v ∧ OwnS w' B v xs ∧ Below B w w'
def RetI (w : World) (B : Nat) (xs : List Int) (e : Ending) (w' : World) : Prop := ∃ v, e = .returned v ∧ OwnI w' B v xs ∧ Below B w w'

/-- One more piece. -/
def putL (xs : List (Int × Int)) (p q : Int) : List (Int × Int) :=
  match xs.getLast? with
  | some x => if x.1 + x.2 = p then xs.dropLast ++ [(x.1, q - x.1)] else xs ++ [(p, q - p)]
  | none => [(p, q - p)]
theorem putL_nil (p q : Int) : putL [] p q = [(p, q - p)] := rfl
theorem putL_join (ys : List (Int × Int)) (a s p q : Int) (h : a + s = p) : putL (ys ++ [(a, s)]) p q = ys ++ [(a, q - a)] := by
  simp [putL, h]
theorem putL_new (ys : List (Int × Int)) (a s p q : Int) (h : a + s ≠ p) : putL (ys ++ [(a, s)]) p q = ys ++ [(a, s)] ++ [(p, q - p)] := by
  simp [putL, h]

/-- Small numbers: no sum of them wraps. -/
abbrev Lo (z : Int) : Prop := -4398046511104 ≤ z ∧ z ≤ 4398046511104

set_option maxRecDepth 100000 in
set_option maxHeartbeats 1000000 in
theorem refput_any (B : Nat) (v : Value) (xs : List (Int × Int)) (p q : Int) (w : World) (hB : B ≤ w.heap.size) (ho : OwnS w B v xs) (hlen : xs.length ≤ 4000000000000)
    (hx : ∀ x ∈ xs, Lo x.1 ∧ Lo x.2) (hp : Lo p) (hq : Lo q) :
    Calls Try.prog 65 #[v, .int .i64 p, .int .i64 q] w (RetS w B (putL xs p q)) := by
  obtain ⟨hp1, hp2⟩ := hp
  obtain ⟨hq1, hq2⟩ := hq
  rcases List.eq_nil_or_concat xs with rfl | ⟨ys, x, rfl⟩
  · obtain ⟨A, cap, rfl, -⟩ := ho.form spanCells (by decide)
    have HO := Lib.hid ho
    clear ho
    simp only [List.length_nil] at *
    go_enter Try.func65, Try.ntmps65
    go_wp2_with fail
    go_quiet (fail)
    go_wp2_with (at_builtin; refine wpList_app_lit rfl (.tmp 43) (.tmp 49) 29 rfl spanInfo spanCells rfl (by exact HO.out) [(p, q - p)] 1 _ rfl 1 1 rfl rfl _ rfl (by first | rfl | simp) (by omega) (by simp [maxLen]) hB ?_; intro A1 cap1 w1 hown1 hgr1 hat1; have HO1 := Lib.hid hown1; have HG1 := Lib.hid hgr1; clear hown1 hgr1 hat1)
    go_ret
    exact ⟨_, rfl, HO1.out, HO.out.below (((belowN (Below.refl _ _) _).alloc hB _)) HG1.out (by simp; omega)⟩
  · obtain ⟨a, s⟩ := x
    rw [List.concat_eq_append] at *
    have hxl := hx (a, s) (by simp)
    obtain ⟨⟨ha1, ha2⟩, hs1, hs2⟩ := hxl
    obtain ⟨g, cap, rfl, hBg, hgs⟩ := World.ownsRow.form ho (by simp)
    have hlen' : ys.length + 1 ≤ 4000000000000 := by simpa using hlen
    have e0 : w.cell? ⟨g, ys.length * 2, none⟩ = some (.int .i64 a) := by
      have := World.ownsRow.cellAt ho (ys.length * 2) (by simp)
      rw [this]
      have := flat_get spanCells (by decide) (l := ys ++ [(a, s)]) (i := ys.length) (j := 0) (x := (a, s)) (u := .int .i64 a) (by simp) rfl
      simpa using this
    have e1 : w.cell? ⟨g, ys.length * 2 + 1, none⟩ = some (.int .i64 s) := by
      have := World.ownsRow.cellAt ho (ys.length * 2 + 1) (by simp; omega)
      rw [this]
      have := flat_get spanCells (by decide) (l := ys ++ [(a, s)]) (i := ys.length) (j := 1) (x := (a, s)) (u := .int .i64 s) (by simp) rfl
      simpa using this
    have e2 : w.frozen? ⟨g, ys.length * 2 + 1, none⟩ = false := World.ownsRow.frozenAt ho _
    have hlen2 : (ys ++ [(a, s)]).length = ys.length + 1 := by simp
    rw [hlen2] at ho ⊢
    have HO := Lib.hid ho
    clear ho hx hlen hlen2
    have ib1 : (0 : Int) < (ys.length : Int) + 1 := by omega
    have ib2 : (ys.length : Int) < (ys.length : Int) + 1 := by omega
    have ib3 : (0 : Int) ≤ (ys.length : Int) := by omega
    by_cases hj : a + s = p
    · rw [putL_join ys a s p q hj]
      have hj1 : ((a + s : Int) == p) = true := by simpa using hj
      clear hj
      go_enter Try.func65, Try.ntmps65
      go_wp2_with fail
      go_quiet (fail)
      go_wp2
      go_ret
      refine ⟨_, rfl, ?_, ?_⟩
      · have h0 : (w.drewN nq).ownsRow B 23 2 (.slice (some ⟨g, 0, none⟩) (ys.length + 1) cap) (ys.length + 1) ((ys ++ [(a, s)]).flatMap spanC) := by
          have := HO.out
          unfold OwnS Own at this
          rw [show (ys ++ [(a, s)]).length = ys.length + 1 by simp] at this
          exact this
        have h1 := (World.ownsRow.stored h0 (ys.length * 2 + 1) (.int .i64 (q - a))).1
        have h2 : (ys ++ [(a, q - a)]).length = ys.length + 1 := by simp
        have h3 : (ys ++ [(a, q - a)]).flatMap spanC = ((ys ++ [(a, s)]).flatMap spanC).set (ys.length * 2 + 1) (.int .i64 (q - a)) := by
          have hl := flat_len spanCells ys
          simp only [List.flatMap_append, List.flatMap_cons, List.flatMap_nil, spanC, List.append_nil]
          rw [List.set_append_right _ _ (by omega), hl]
          simp
        show World.ownsRow _ B _ 2 _ (ys ++ [(a, q - a)]).length _
        rw [h2, h3]
        exact h1
      · exact (belowN (Below.refl _ _) _).setCell hBg _
    · rw [putL_new ys a s p q hj]
      have hj1 : ((a + s : Int) == p) = false := by simpa using hj
      clear hj
      go_enter Try.func65, Try.ntmps65
      go_wp2_with fail
      go_quiet (fail)
      go_wp2_with (at_builtin; refine wpList_app_lit rfl (.tmp 43) (.tmp 49) 29 rfl spanInfo spanCells rfl (xs := ys ++ [(a, s)]) (by exact HO.out) [(p, q - p)] 1 _ rfl (ys.length + 1 + 1) 1 (by simp) rfl _ rfl (by first | rfl | simp) (by omega) (by simp [maxLen]; omega) (by simp; omega) ?_; intro A1 cap1 w1 hown1 hgr1 hat1; have HO1 := Lib.hid hown1; have HG1 := Lib.hid hgr1; clear hown1 hgr1 hat1)
      go_ret
      refine ⟨.slice A1 (ys.length + 1 + 1) cap1, rfl, HO1.out, ?_⟩
      exact Own.below (xs := ys ++ [(a, s)]) (n := 2) (f := spanC) (w := w) HO.out ((belowN (Below.refl _ _) _).alloc hB _) HG1.out (by simp; omega)
end Go.Proofs.Ytllcekmbcmhckaa
