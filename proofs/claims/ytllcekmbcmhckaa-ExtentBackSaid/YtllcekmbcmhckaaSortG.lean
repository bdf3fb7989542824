/- symMergeCmpFunc at spans and span.by, whole. -/
import Derived.Test.YtllcekmbcmhckaaSortF
set_option linter.unusedSimpArgs false
set_option linter.unusedVariables false
namespace Go.Proofs.Ytllcekmbcmhckaa

theorem sym_less (B g N cap : Nat) (hBg : B ≤ g) (hN2 : N ≤ 4000000000000) : ∀ K, SymLess B g N cap K := by
  intro K
  induction K with
  | zero => intro a m b xs w h; omega
  | succ K ih =>
    intro a m b xs w h hB hN ham hmb hb hoA hoB ho
    by_cases c1 : m = a + 1
    · exact symA_any B g N cap a m b xs w hB hBg hN hN2 c1 hmb hb hoB ho
    · by_cases c2 : b = m + 1
      · exact symB_any B g N cap a m b xs w hB hBg hN hN2 (by omega) c2 hb hoA ho
      · have IH : SymLess B g N cap (b - a) := fun a' m' b' xs' w' h' => ih a' m' b' xs' w' (by omega)
        by_cases c3 : (a + b) / 2 < m
        · exact symC1_any B g N cap a m b _ xs w hB hBg hN hN2 (by omega) (by omega) hb rfl c3 hoA hoB IH ho
        · exact symC2_any B g N cap a m b _ xs w hB hBg hN hN2 (by omega) (by omega) hb rfl (by omega) hoA hoB IH ho
theorem sym_any (B g N cap a m b : Nat) (xs : List (Int × Int)) (w : World) (hB : B ≤ w.heap.size) (hBg : B ≤ g) (hN : xs.length = N) (hN2 : N ≤ 4000000000000) (ham : a < m) (hmb : m < b) (hb : b ≤ N)
    (hoA : Ordered a m xs) (hoB : Ordered m b xs) (ho : OwnS w B (.slice (some ⟨g, 0, none⟩) N cap) xs) :
    Calls Try.prog 86 #[.slice (some ⟨g, 0, none⟩) N cap, .int .i64 a, .int .i64 m, .int .i64 b, .func (.func 61) #[] #[]] w
      (InPlace w B g N cap (fun ys => Seg a b xs ys ∧ Ordered a b ys)) :=
  sym_less B g N cap hBg hN2 (b - a + 1) a m b xs w (by omega) hB hN ham hmb hb hoA hoB ho
end Go.Proofs.Ytllcekmbcmhckaa
