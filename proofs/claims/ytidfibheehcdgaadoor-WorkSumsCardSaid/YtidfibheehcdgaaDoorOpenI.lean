/- A parameter that is a struct of ints, however many. Of no program. -/
import Derived.Test.YtidfibheehcdgaaDoorBase
set_option linter.unusedSimpArgs false
set_option linter.unusedVariables false
namespace Go.Proofs.YtidfibheehcdgaaDoor
open Go.RowKit
section
open Go.WideShapes Go.ChangeShapes Go.ChangeAt Go.Joins Go.Deep
variable {H : Type} {enc : TypeId × Value → H} {w : World} {base b0 : Nat} {spare : Nat → Bool} {held : Bool} {v : Value} {d : DataW H} {p : List MemPlace} {r : Reach} {P : Program}
theorem open_intFields {t i : TypeId} {fs : Array Field} (hs : P.underlying t = some (.struct fs)) (hone : oneCellFields P fs = true) (hC : P.cellsOf t = fs.size) (hi : (fs.all fun f => f.type == i) = true) (hu : P.underlying i = some (.int .i64))
    (hv : Value.okWide P w r b0 t v) (h : DataW.Trod enc P w base spare held t v d p) :
    ∃ zs : List Int, zs.length = fs.size ∧ v = .agg (zs.map fun z => Value.int .i64 z).toArray ∧ ∀ z ∈ zs, -9223372036854775808 ≤ z ∧ z ≤ 9223372036854775807 := by
  obtain ⟨cs, rfl, hsz⟩ := okWide_struct hs hv
  obtain ⟨fuel, hf⟩ := h
  obtain ⟨ys, n, -, -, -, hyl, hg⟩ := DataW.trod_struct hs hf
  have hlen : cs.toList.length = fs.size := by simpa using hsz.trans hC
  have each : ∀ j (hj : j < cs.toList.length), ∃ z : Int, cs.toList[j] = .int .i64 z ∧ -9223372036854775808 ≤ z ∧ z ≤ 9223372036854775807 := by
    intro j hj
    have hjf : j < fs.size := by omega
    have hfj : fs[j]? = some fs[j] := Array.getElem?_eq_getElem hjf
    obtain ⟨ho, hk⟩ := hone_of hone j _ hfj
    have hty : fs[j].type = i := by
      have := Array.all_eq_true.1 hi j hjf
      simpa using this
    have h1 := hg j _ hfj
    rw [ho, hk, hty] at h1
    have e1 : (cs.toList.drop j).take 1 = [cs.toList[j]] := by rw [List.drop_eq_getElem_cons hj]; rfl
    have e2 : ((Value.agg cs).cells.toList.drop j).take 1 = [cs.toList[j]] := e1
    rw [show ((Value.agg cs).cells.toList.drop j).take 1 = [cs.toList[j]] from e1] at h1
    have hy : ys[j]? = some (ys[j]'(by omega)) := List.getElem?_eq_getElem (by omega)
    obtain ⟨z, ez, _, wz⟩ := DataW.trod_int hu (h1.trans hy)
    simp only [List.cons.injEq, and_true] at ez
    exact ⟨z, ez, i64_bd wz⟩
  have build : ∀ l : List Value, (∀ j (hj : j < l.length), ∃ z : Int, l[j] = .int .i64 z ∧ -9223372036854775808 ≤ z ∧ z ≤ 9223372036854775807) → ∃ zs : List Int, zs.length = l.length ∧ l = zs.map (fun z => Value.int .i64 z) ∧ ∀ z ∈ zs, -9223372036854775808 ≤ z ∧ z ≤ 9223372036854775807 := by
    intro l
    induction l with
    | nil => exact fun _ => ⟨[], rfl, rfl, by simp⟩
    | cons c l ih =>
      intro h
      obtain ⟨z, hz, hb⟩ := h 0 (by simp)
      obtain ⟨zs, h1, h2, h3⟩ := ih fun j hj => by
        have := h (j + 1) (by simp; omega)
        simpa using this
      have hz' : c = .int .i64 z := by simpa using hz
      exact ⟨z :: zs, by simp [h1], by rw [hz', h2]; rfl, fun x hx => by
        rcases List.mem_cons.1 hx with rfl | hx
        · exact hb
        · exact h3 x hx⟩
  obtain ⟨zs, h1, h2, h3⟩ := build cs.toList each
  exact ⟨zs, h1.trans hlen, by rw [← h2], h3⟩
theorem open_five {t i : TypeId} {fs : Array Field} (hs : P.underlying t = some (.struct fs)) (hone : oneCellFields P fs = true) (hC : P.cellsOf t = fs.size) (hi : (fs.all fun f => f.type == i) = true) (hu : P.underlying i = some (.int .i64)) (h5 : fs.size = 5)
    (hv : Value.okWide P w r b0 t v) (h : DataW.Trod enc P w base spare held t v d p) :
    ∃ a b c d e : Int, v = .agg #[.int .i64 a, .int .i64 b, .int .i64 c, .int .i64 d, .int .i64 e] ∧ (-9223372036854775808 ≤ a ∧ a ≤ 9223372036854775807) ∧ (-9223372036854775808 ≤ b ∧ b ≤ 9223372036854775807) ∧ (-9223372036854775808 ≤ c ∧ c ≤ 9223372036854775807) ∧ (-9223372036854775808 ≤ d ∧ d ≤ 9223372036854775807) ∧ (-9223372036854775808 ≤ e ∧ e ≤ 9223372036854775807) := by
  obtain ⟨zs, h1, rfl, h2⟩ := open_intFields hs hone hC hi hu hv h
  match zs, h1.trans h5 with
  | [a, b, c, d, e], _ => exact ⟨a, b, c, d, e, rfl, h2 a (by simp), h2 b (by simp), h2 c (by simp), h2 d (by simp), h2 e (by simp)⟩
end
end Go.Proofs.YtidfibheehcdgaaDoor
