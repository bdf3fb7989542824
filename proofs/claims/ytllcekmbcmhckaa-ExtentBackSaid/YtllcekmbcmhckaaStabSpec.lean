/- Blocks of a row that are in order each: what the rounds of slices' stable come to. Of no program. -/
import Derived.Test.YtllcekmbcmhckaaSymSpec
set_option linter.unusedSimpArgs false
set_option linter.unusedVariables false
namespace Go.Proofs.Ytllcekmbcmhckaa

/-- From p up to N: blocks of bs, the last may be shorter. -/
inductive Blk (bs N : Nat) (zs : List (Int × Int)) : Nat → Prop
  | last (p : Nat) : p ≤ N → N ≤ p + bs → Ordered p N zs → Blk bs N zs p
  | cons (p : Nat) : p + bs ≤ N → Ordered p (p + bs) zs → Blk bs N zs (p + bs) → Blk bs N zs p
/-- From 0 up to p: whole blocks. -/
inductive DBlk (bs : Nat) (zs : List (Int × Int)) : Nat → Prop
  | zero : DBlk bs zs 0
  | snoc (p : Nat) : DBlk bs zs p → Ordered p (p + bs) zs → DBlk bs zs (p + bs)
theorem DBlk.congr {bs p : Nat} {zs ys : List (Int × Int)} (h : DBlk bs zs p) : (∀ i, i < p → gt ys i = gt zs i) → DBlk bs ys p := by
  induction h with
  | zero => intro _; exact DBlk.zero
  | snoc p h1 h2 ih => intro e; exact DBlk.snoc p (ih fun i hi => e i (by omega)) (h2.congr fun i h3 h4 => e i h4)
theorem Blk.congr {bs N p : Nat} {zs ys : List (Int × Int)} (h : Blk bs N zs p) : (∀ i, p ≤ i → gt ys i = gt zs i) → Blk bs N ys p := by
  induction h with
  | last p h1 h2 h3 => intro e; exact Blk.last p h1 h2 (h3.congr fun i h3 h4 => e i h3)
  | cons p h1 h2 h3 ih => intro e; exact Blk.cons p h1 (h2.congr fun i h3 h4 => e i h3) (ih fun i hi => e i (by omega))
theorem DBlk.all {bs N p : Nat} {zs : List (Int × Int)} (h : DBlk bs zs p) : Blk bs N zs p → p ≤ N → Blk bs N zs 0 := by
  induction h with
  | zero => intro h _; exact h
  | snoc p h1 h2 ih => intro h hp; exact ih (Blk.cons p hp h2 h) (by omega)
/-- The next two blocks. -/
theorem Blk.two {bs N p : Nat} {zs : List (Int × Int)} (h : Blk bs N zs p) (hb : 0 < bs) (hp : p + 2 * bs ≤ N) : Ordered p (p + bs) zs ∧ Ordered (p + bs) (p + 2 * bs) zs ∧ Blk bs N zs (p + 2 * bs) := by
  cases h with
  | last _ h1 h2 h3 => omega
  | cons _ h1 h2 h3 =>
    refine ⟨h2, ?_⟩
    cases h3 with
    | last _ k1 k2 k3 =>
      have e : N = p + 2 * bs := by omega
      exact ⟨e ▸ k3, Blk.last _ hp (by omega) fun i j h1 h2 h3 => by omega⟩
    | cons _ k1 k2 k3 =>
      rw [show p + bs + bs = p + 2 * bs by omega] at k2 k3
      exact ⟨k2, k3⟩
/-- The last two, the second of them short. -/
theorem Blk.lastTwo {bs N p : Nat} {zs : List (Int × Int)} (h : Blk bs N zs p) (hp : p + bs < N) (hq : N < p + 2 * bs) : Ordered p (p + bs) zs ∧ Ordered (p + bs) N zs := by
  cases h with
  | last _ h1 h2 h3 => omega
  | cons _ h1 h2 h3 =>
    refine ⟨h2, ?_⟩
    cases h3 with
    | last _ k1 k2 k3 => exact k3
    | cons _ k1 k2 k3 => omega
theorem Blk.one {bs N p : Nat} {zs : List (Int × Int)} (h : Blk bs N zs p) (hp : N ≤ p + bs) : Ordered p N zs := by
  cases h with
  | last _ h1 h2 h3 => exact h3
  | cons _ h1 h2 h3 => exact h2.sub (Nat.le_refl _) hp
end Go.Proofs.Ytllcekmbcmhckaa
