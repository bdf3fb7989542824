/- Two rows in order, one behind the other, put together: what the steps of slices' symMerge come to. Of no program. -/
import Derived.Test.YtllcekmbcmhckaaRotSpec
set_option linter.unusedSimpArgs false
set_option linter.unusedVariables false
namespace Go.Proofs.Ytllcekmbcmhckaa

theorem ltS_trans {x y z : Int × Int} (h : leS x y = true) (k : leS z y = false) : leS z x = false := by
  rw [Bool.eq_false_iff, ne_eq, leS_iff] at *; omega
theorem ltS_trans2 {x y z : Int × Int} (h : leS y x = false) (k : leS y z = true) : leS z x = false := by
  rw [Bool.eq_false_iff, ne_eq, leS_iff] at *; omega
theorem leS_of_lt {x y : Int × Int} (h : leS y x = false) : leS x y = true := leS_of_not (by rw [h]; exact Bool.false_ne_true)

theorem Rot.id1 {a b : Nat} (xs : List (Int × Int)) : Rot a a b xs xs := fun p => by (repeat' split) <;> first | rfl | exact congrArg _ (by omega)
theorem Rot.id2 {a b : Nat} (xs : List (Int × Int)) : Rot a b b xs xs := fun p => by (repeat' split) <;> first | rfl | (exfalso; omega) | exact congrArg _ (by omega)
/-- One to the right. -/
theorem Rot.up {a k : Nat} {xs zs : List (Int × Int)} (h : Rot a (a + 1) (k + 1) xs zs) (hak : a ≤ k) (hk : k + 1 < zs.length) : Rot a (a + 1) (k + 2) xs (swapL zs k (k + 1)) := by
  intro p
  rw [gt_swap (by omega) hk, h p, h k, h (k + 1)]
  (repeat' split) <;> first | (exfalso; omega) | rfl | exact congrArg _ (by omega)
/-- One to the left. -/
theorem Rot.down {m k : Nat} {xs zs : List (Int × Int)} (h : Rot (k + 1) m (m + 1) xs zs) (hkm : k + 1 ≤ m) (hm : m < zs.length) : Rot k m (m + 1) xs (swapL zs (k + 1) k) := by
  intro p
  rw [gt_swap (by omega) (by omega), h p, h k, h (k + 1)]
  (repeat' split) <;> first | (exfalso; omega) | rfl | exact congrArg _ (by omega)
theorem Rot.seg {a m b l r : Nat} {xs ys : List (Int × Int)} (h : Rot a m b xs ys) (hl : l ≤ a) (hr : b ≤ r) (ham : a ≤ m) (hmb : m ≤ b) (hlen : ys.length = xs.length) (hp : ys.Perm xs) : Seg l r xs ys :=
  ⟨hlen, fun i hi => by rw [h i, if_pos (by omega)], hp, fun i h1 h2 => by
    rw [h i]
    split
    · exact ⟨i, h1, h2, rfl⟩
    · split
      · exact ⟨i + (m - a), by omega, by omega, rfl⟩
      · exact ⟨i - (b - m), by omega, by omega, rfl⟩⟩

/-- A lone first element put in its place. -/
theorem sym_first {a i b : Nat} {xs ys : List (Int × Int)} (h : Rot a (a + 1) i xs ys) (hi : a + 1 ≤ i) (hib : i ≤ b) (hB : Ordered (a + 1) b xs) (h1 : ∀ p, a + 1 ≤ p → p < i → leS (gt xs a) (gt xs p) = false)
    (h2 : ∀ p, i ≤ p → p < b → leS (gt xs a) (gt xs p) = true) : Ordered a b ys := by
  intro p q hp hpq hq
  rw [h p, h q]
  have e : ∀ x, x - (i - (a + 1)) = a → gt xs (x - (i - (a + 1))) = gt xs a := fun x e => by rw [e]
  (repeat' split) <;> first
    | (exfalso; omega)
    | exact hB _ _ (by omega) (by omega) (by omega)
    | (rw [e q (by omega)]; exact leS_of_lt (h1 _ (by omega) (by omega)))
    | (rw [e p (by omega)]; exact h2 _ (by omega) (by omega))
/-- A lone last element put in its place. -/
theorem sym_last {a i m : Nat} {xs ys : List (Int × Int)} (h : Rot i m (m + 1) xs ys) (hi : a ≤ i) (him : i ≤ m) (hA : Ordered a m xs) (h1 : ∀ p, a ≤ p → p < i → leS (gt xs p) (gt xs m) = true)
    (h2 : ∀ p, i ≤ p → p < m → leS (gt xs p) (gt xs m) = false) : Ordered a (m + 1) ys := by
  intro p q hp hpq hq
  rw [h p, h q]
  have e : ∀ x, x + (m - i) = m → gt xs (x + (m - i)) = gt xs m := fun x e => by rw [e]
  (repeat' split) <;> first
    | (exfalso; omega)
    | exact hA _ _ (by omega) (by omega) (by omega)
    | (rw [e q (by omega)]; exact h1 _ (by omega) (by omega))
    | (rw [e p (by omega)]; exact leS_of_lt (h2 _ (by omega) (by omega)))

/-- Behind the exchange of the two inner rows. -/
structure Split (a s d e b : Nat) (zs : List (Int × Int)) : Prop where
  o1 : Ordered a s zs
  o2 : Ordered s d zs
  o3 : Ordered d e zs
  o4 : Ordered e b zs
  cross : ∀ p q, a ≤ p → p < d → d ≤ q → q < b → leS (gt zs p) (gt zs q) = true
theorem sym_split {a s m e b d : Nat} {xs zs : List (Int × Int)} (h : Rot s m e xs zs) (has : a ≤ s) (hsm : s ≤ m) (hme : m ≤ e) (heb : e ≤ b) (hd : d = s + (e - m)) (hA : Ordered a m xs) (hB : Ordered m b xs)
    (h1 : a < s → e < b → leS (gt xs (s - 1)) (gt xs e) = true) (h2 : s < m → m < e → leS (gt xs (e - 1)) (gt xs s) = true) : Split a s d e b zs := by
  have c1 : ∀ p q, a ≤ p → p < s → e ≤ q → q < b → leS (gt xs p) (gt xs q) = true := fun p q k1 k2 k3 k4 =>
    leS_trans _ _ _ (hA.le k1 (by omega : p ≤ s - 1) (by omega)) (leS_trans _ _ _ (h1 (by omega) (by omega)) (hB.le (by omega) k3 k4))
  have c2 : ∀ p q, m ≤ p → p < e → s ≤ q → q < m → leS (gt xs p) (gt xs q) = true := fun p q k1 k2 k3 k4 =>
    leS_trans _ _ _ (hB.le k1 (by omega : p ≤ e - 1) (by omega)) (leS_trans _ _ _ (h2 (by omega) (by omega)) (hA.le (by omega) k3 k4))
  subst hd
  refine ⟨?_, ?_, ?_, ?_, ?_⟩
  · intro p q k1 k2 k3
    rw [h p, h q, if_pos (by omega), if_pos (by omega)]
    exact hA p q k1 k2 (by omega)
  · intro p q k1 k2 k3
    rw [h p, h q, if_neg (by omega), if_pos (by omega), if_neg (by omega), if_pos (by omega)]
    exact hB _ _ (by omega) (by omega) (by omega)
  · intro p q k1 k2 k3
    rw [h p, h q, if_neg (by omega), if_neg (by omega), if_neg (by omega), if_neg (by omega)]
    exact hA _ _ (by omega) (by omega) (by omega)
  · intro p q k1 k2 k3
    rw [h p, h q, if_pos (by omega), if_pos (by omega)]
    exact hB p q (by omega) k2 k3
  · intro p q k1 k2 k3 k4
    rw [h p, h q]
    (repeat' split) <;> first
      | (exfalso; omega)
      | exact c1 _ _ (by omega) (by omega) (by omega) (by omega)
      | exact c2 _ _ (by omega) (by omega) (by omega) (by omega)
      | exact hA _ _ (by omega) (by omega) (by omega)
      | exact hB _ _ (by omega) (by omega) (by omega)
/-- Both sides put in order: the whole is. -/
theorem Split.done {a s d e b : Nat} {zs ls rs : List (Int × Int)} (h : Split a s d e b zs) (has : a ≤ s) (hsd : s ≤ d) (hde : d ≤ e) (heb : e ≤ b) (hl : Seg a d zs ls) (hol : Ordered a d ls) (hr : Seg d b ls rs) (hor : Ordered d b rs) : Seg a b zs rs ∧ Ordered a b rs := by
  refine ⟨(hl.mono (Nat.le_refl _) (by omega)).trans (hr.mono (by omega) (Nat.le_refl _)), Ordered.join (m := d) (hol.congr fun i h1 h2 => hr.out i (by omega)) hor fun i j h1 h2 h3 h4 => ?_⟩
  rw [hr.out i (by omega)]
  obtain ⟨k, k1, k2, e1⟩ := hl.sub i h1 h2
  obtain ⟨l, l1, l2, e2⟩ := hr.sub j h3 h4
  rw [e1, e2, hl.out l (by omega)]
  exact h.cross k l k1 k2 l1 l2
end Go.Proofs.Ytllcekmbcmhckaa
