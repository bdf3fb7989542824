/- General lemmas on blocks and on slices of a call's own (lines of our texts on graphs). -/
import Derived.Test.YtkcpfimhbogdcaaTree
import Derived.Test.YtkcpfimhbogdcaaRange
import Derived.Test.YtkcpfimhbogdcaaSeg
import Derived.Test.YtkcpfimhbogdcaaExact
import Derived.Test.YtkcpfimhbogdcaaFork
import Derived.OwnWalk
import Derived.Lib.SliceRun
import Derived.WalkSpells
import Derived.Shelf.Abstract
import Derived.IntWalk
set_option linter.unusedSimpArgs false
set_option linter.unusedVariables false
namespace Go.Proofs.Ytkcpfimhbogdcaa
open Go.RowKit Go.Shelf

def u64C (z : Int) : List Value := [.int .u64 z]
abbrev WordsAt (w : World) (A : Option Addr) (zs : List Int) : Prop := RowAt 1 u64C w A zs
theorem words_cell {w : World} {b off : Nat} {zs : List Int} (hc : ∀ i x, zs[i]? = some x → ∀ j v, (u64C x)[j]? = some v → w.cell? ⟨b, off + i * 1 + j, none⟩ = some v) {k : Nat} (hk : k < zs.length) :
    w.cell? ⟨b, off + k, none⟩ = some (.int .u64 (zs.getD k 0)) := by
  have h := hc k zs[k] (by simp [hk]) 0 _ rfl
  simpa [hk] using h
theorem getD_mem {α : Type} {l : List α} {k : Nat} {d : α} (h : k < l.length) : l.getD k d ∈ l := by
  rw [List.getD_eq_getElem?_getD, List.getElem?_eq_getElem h]; exact List.getElem_mem h
theorem u64Cells : Cells 1 u64C := ⟨fun _ => rfl, fun x u h => by simp [u64C] at h; subst h; rfl⟩
theorem intInfo0 : (Try.prog.info? 3).map (fun i => (i.zero, i.size, i.bytes)) = some (some (.int .i64 0), 1, 8) := by kernel_rfl
theorem intInfo : Info Try.prog 24 3 1 8 :=
  ⟨Try.underlying24, by obtain ⟨i0, hi, hz0, hz1, hz2⟩ := info_parts intInfo0; exact ⟨i0, _, hi, hz0, hz1, hz2, rfl⟩, by decide⟩
theorem u64Info0 : (Try.prog.info? 64).map (fun i => (i.zero, i.size, i.bytes)) = some (some (.int .u64 0), 1, 8) := by kernel_rfl
theorem u64Info : Info Try.prog 33 64 1 8 :=
  ⟨Try.underlying33, by obtain ⟨i0, hi, hz0, hz1, hz2⟩ := info_parts u64Info0; exact ⟨i0, _, hi, hz0, hz1, hz2, rfl⟩, by decide⟩
theorem row_none {α : Type} {n : Nat} {f : α → List Value} {w : World} {xs : List α} (h : RowAt n f w none xs) : xs = [] := by
  obtain ⟨b, off, hA, _⟩ := h
  cases xs with
  | nil => rfl
  | cons x xs => exact absurd (hA (by simp)) (by simp)
section
variable {α β : Type} {e e2 : TypeId} {n n2 : Nat} {f : α → List Value} {g : β → List Value} {B B2 : Nat} {v v2 : Value} {xs ys : List α} {zs : List β} {w w' : World} {P : Program} {t : TypeId} {bytes : Nat}
theorem Own.apart (h : Own e n f w B v xs) (h2 : Own e2 n2 g w B2 v2 zs) (hne : e ≠ e2) : v.ownBlock = none ∨ v.ownBlock ≠ v2.ownBlock := by
  rcases h.2 with ⟨rfl, _⟩ | ⟨b, cap, cur, rfl, hb, hg, _⟩
  · exact .inl rfl
  · refine .inr fun heq => ?_
    rcases h2.2 with ⟨rfl, _⟩ | ⟨b2, cap2, cur2, rfl, hb2, hg2, _⟩
    · cases heq
    · have : b = b2 := by simpa [Value.ownBlock] using heq
      subst this
      rw [hg] at hg2
      cases hg2
      exact hne rfl
theorem Own.keep2 (h : Own e n f w B v xs) (h2 : Own e2 n2 g w B2 v2 zs) (hne : e ≠ e2) (hg : w.grownBy w' v2.ownBlock) : Own e n f w' B v xs := h.kept hg (h.apart h2 hne)
theorem Own.setOther (h : Own e n f w B v xs) {Bo i : Nat} {u : Value} {ws : Array Value} {t : TypeId} {r : Nat × Nat} (hb : w.heap[Bo]? = some (.cells ws t r)) (hne : t ≠ e) : Own e n f (w.setCell ⟨Bo, i, none⟩ u) B v xs :=
  h.same fun g cs ty rr hg hc => (Below.heap_setCell w ⟨Bo, i, none⟩ u g (fun heq => by
    simp only at heq
    subst heq
    rcases h.2 with ⟨hv, _⟩ | ⟨b, cap, cur, hv, _, hg2, _⟩
    · rw [hv] at hg; cases hg
    · rw [hv] at hg
      have : b = g := by simpa [Value.ownBlock] using hg
      subst this
      rw [hb] at hg2
      cases hg2
      exact hne rfl)).trans hc
theorem wp_app_src {o : Oper} {a : Act} {K : Act → World → Prop} {Q : Exit → Act → World → Prop} (s x : Operand) (t : TypeId)
    (ho : o.op = .call { callee := .builtin .append, args := #[s, x], argTypes := #[t, t] }) (hI : Info P t e n bytes) (hf : Cells n f)
    (hs : a.eval s = v) (hown : Own e n f w B v xs) (ys : List α) (A : Option Addr) (c : Nat) (hA : A = none → c = 0) (r m : Nat) (hk : xs.length + ys.length = r) (hm : ys.length = m) (hx : a.eval x = .slice A m c) (hr : RowAt n f w A ys)
    (hlen : r * bytes ≤ 140737488355328) (h63 : r ≤ maxLen) (hB : B ≤ w.heap.size)
    (h : ∀ A cap w', Own e n f w' B (.slice A r cap) (xs ++ ys) → w.grownBy w' v.ownBlock →
      ((Value.slice A r cap).ownBlock = v.ownBlock ∨ (Value.slice A r cap).ownBlock = some w.heap.size) →
      K (a.put o.dst (.slice A r cap)) w') : o.wp P a w K Q := by
  cases A with
  | some ad => exact wp_app s x t ho hI hf hs hown ad c ys r m hk hm hx hr hlen h63 hB h
  | none =>
    obtain rfl := row_none hr
    subst hm
    obtain rfl := hA rfl
    obtain ⟨A0, cap0, rfl, _⟩ := hown.form hf hI.pos
    simp only [List.length_nil, Nat.add_zero] at hk
    subst hk
    obtain ⟨i, z, hi, hz, hsz, hby, hzs⟩ := hI.inf
    have hrun := run_append_owned_none (P := P) (w := w) B t o.type e i n hI.und hi _ xs.length _ hown
    have hh := h A0 cap0 w (by simpa using hown) (World.grownBy.refl _ _) (.inl rfl)
    unfold Oper.wp execOp
    simp only [ho, resolve, invoke, builtin, Sem.run_bind, Sem.run_pure, Result.andThen_ok, List.map_toArray, List.map_cons, List.map_nil, hs, hx, List.length_nil, hrun]
    exact hh
theorem wpList_src {ops : Array Oper} {rest : List Oper} {o : Oper} {a : Act} {Q : Exit → Act → World → Prop} (hgd : o.guard = none) (s x : Operand) (t : TypeId)
    (ho : o.op = .call { callee := .builtin .append, args := #[s, x], argTypes := #[t, t] }) (hI : Info P t e n bytes) (hf : Cells n f)
    (hs : a.eval s = v) (hown : Own e n f w B v xs) (ys : List α) (A : Option Addr) (c : Nat) (hA : A = none → c = 0) (r m : Nat) (hk : xs.length + ys.length = r) (hm : ys.length = m) (hx : a.eval x = .slice A m c) (hr : RowAt n f w A ys)
    (hlen : r * bytes ≤ 140737488355328) (h63 : r ≤ maxLen) (hB : B ≤ w.heap.size)
    (h : ∀ A cap w', Own e n f w' B (.slice A r cap) (xs ++ ys) → w.grownBy w' v.ownBlock →
      ((Value.slice A r cap).ownBlock = v.ownBlock ∨ (Value.slice A r cap).ownBlock = some w.heap.size) →
      wpList P ops Q rest (a.put o.dst (.slice A r cap)) w') : wpList P ops Q (o :: rest) a w :=
  wpList_plain hgd fun _ hK => wp_app_src s x t ho hI hf hs hown ys A c hA r m hk hm hx hr hlen h63 hB fun A cap w' h2 h3 h4 => hK _ _ (h A cap w' h2 h3 h4)
theorem Own.setNe (h : Own e n f w B v xs) {g i : Nat} {u : Value} (hne : v.ownBlock ≠ some g) : Own e n f (w.setCell ⟨g, i, none⟩ u) B v xs :=
  h.same fun b cs ty rr hb hc => (Below.heap_setCell w ⟨g, i, none⟩ u b (fun heq => by simp only at heq; subst heq; exact hne hb)).trans hc
end
theorem Own.ne_block {α : Type} {e : TypeId} {n : Nat} {f : α → List Value} {B : Nat} {v : Value} {xs : List α} {w : World} (h : Own e n f w B v xs) {b : Nat} {ws : Array Value} {t : TypeId} {r : Nat × Nat} (hb : w.heap[b]? = some (.cells ws t r)) (hne : t ≠ e) : some b ≠ v.ownBlock := fun heq => by
  rcases h.2 with ⟨hv, _⟩ | ⟨b2, cap, cur, hv, _, hg2, _⟩
  · rw [hv] at heq; cases heq
  · rw [hv] at heq
    have : b = b2 := by simpa [Value.ownBlock] using heq
    subst this
    rw [hb] at hg2
    cases hg2
    exact hne rfl
theorem map_snoc {α β : Type} {f : α → β} {l : List α} {d : α} {k : Nat} (hk : k < l.length) : (l.take (k + 1)).map f = (l.take k).map f ++ [f (l.getD k d)] := by
  rw [List.take_add_one, List.getElem?_eq_getElem hk, List.getD_eq_getElem?_getD, List.getElem?_eq_getElem hk]
  simp only [Option.toList_some, List.map_append, List.map_cons, List.map_nil, Option.getD_some]
theorem all_ofD {α : Type} {d : α} {p : α → Bool} {l : List α} (h : ∀ i, i < l.length → p (l.getD i d) = true) : l.all p = true := by
  rw [List.all_eq_true]
  intro x hx
  obtain ⟨i, hi, rfl⟩ := List.getElem_of_mem hx
  have := h i hi
  simpa [List.getElem?_eq_getElem hi] using this
theorem all_notD {α : Type} {d : α} {p : α → Bool} {l : List α} {k : Nat} (hk : k < l.length) (h : p (l.getD k d) = false) : l.all p = false := by
  rw [List.all_eq_false]
  exact ⟨_, getD_mem hk, by rw [h]; simp⟩
theorem upTo {α : Type} {d : α} {p : α → Bool} {l : List α} {k : Nat} (hq : ∀ i, i < k → p (l.getD i d) = true) (h : p (l.getD k d) = true) : ∀ i, i < k + 1 → p (l.getD i d) = true := fun i hi => by
  rcases Nat.lt_or_ge i k with h' | h'
  · exact hq i h'
  · obtain rfl : i = k := by omega
    exact h
theorem own_row {α : Type} {e : TypeId} {n : Nat} {f : α → List Value} {w : World} {B : Nat} {A : Option Addr} {cap : Nat} {xs : List α} (h : Own e n f w B (.slice A xs.length cap) xs) (hf : Cells n f) (hn : 0 < n) :
    RowAt n f w A xs ∧ (A = none → cap = 0) ∧ xs.length ≤ cap := by
  obtain ⟨A0, cap0, hv, hrow, hnn, -, hcap, -⟩ := h.form hf hn
  injection hv with h1 h2 h3
  subst h1 h3
  exact ⟨hrow, hnn, hcap⟩
theorem wp_norm {P : Program} {c : Code} {Q : Exit → Act → World → Prop} {a : Act} {w : World} (C : Act → World → Prop) (h : c.wp P (fun e a w => e = .normal ∧ C a w) a w) (h2 : ∀ a w, C a w → Q .normal a w) : c.wp P Q a w :=
  Code.wp_mono (by rintro e a w ⟨rfl, h⟩; exact h2 a w h) h
theorem own_heap {α : Type} {e : TypeId} {n : Nat} {f : α → List Value} {B g len cap : Nat} {xs : List α} {w : World} (h : Own e n f w B (.slice (some ⟨g, 0, none⟩) len cap) xs) : ∃ cur, w.heap[g]? = some (.cells cur e (0, 0)) := by
  rcases h.2 with ⟨hv, _⟩ | ⟨b2, cap2, cur, hv, _, hg2, _⟩
  · cases hv
  · injection hv with h1 h2 h3
    injection h1 with h1
    injection h1 with h1
    subst h1
    exact ⟨cur, hg2⟩
theorem own_some {α : Type} {e : TypeId} {n : Nat} {f : α → List Value} {w : World} {B : Nat} {A : Option Addr} {len cap : Nat} {xs : List α} (h : Own e n f w B (.slice A len cap) xs) (hn : xs ≠ []) : ∃ g, A = some ⟨g, 0, none⟩ ∧ B ≤ g ∧ g < w.heap.size := by
  rcases h.2 with ⟨_, h0⟩ | ⟨b, cap2, cur, hv, hb, hg, _⟩
  · exact absurd (List.eq_nil_of_length_eq_zero h0) hn
  · injection hv with h1 h2 h3
    exact ⟨b, h1, hb, lt_of_heap hg⟩
theorem cell_lt {w : World} {b o : Nat} {v : Value} (h : w.cell? ⟨b, o, none⟩ = some v) : b < w.heap.size := by
  unfold World.cell? at h
  rcases Nat.lt_or_ge b w.heap.size with h2 | h2
  · exact h2
  · rw [Array.getElem?_eq_none h2] at h; cases h
theorem row_litb {α : Type} {e : TypeId} {n : Nat} {f : α → List Value} {ys : List α} (w : World) (b : Nat) (hb : w.heap.size = b) (cs : Array Value) (hcs : cs = (ys.flatMap f).toArray) (hf : Cells n f) (hn : 0 < n) : RowAt n f (w.alloc (.cells cs e)) (some ⟨b, 0, none⟩) ys := by subst hb; exact row_lit w cs hcs hf hn
theorem row_block {α : Type} {e : TypeId} {n : Nat} {f : α → List Value} {w : World} {b : Nat} {cs : Array Value} {xs : List α} (h : w.heap[b]? = some (.cells cs e (0, 0))) (hcs : cs = (xs.flatMap f).toArray) (hf : Cells n f) (hn : 0 < n) : RowAt n f w (some ⟨b, 0, none⟩) xs := by
  refine ⟨b, 0, fun _ => rfl, fun i x hx j u hu => ?_⟩
  have := flat_get hf hn hx hu
  subst hcs
  simpa [World.cell?, h] using this
theorem blk_new (w : World) (cs : Array Value) (t : TypeId) (b : Nat) (hb : w.heap.size = b) : (w.alloc (.cells cs t)).heap[b]? = some (.cells cs t (0, 0)) := by subst hb; exact World.alloc_heap_new w _
theorem blk_old {w : World} {b : Nat} {o o2 : Obj} (h : w.heap[b]? = some o) : (w.alloc o2).heap[b]? = some o := (Below.heap_alloc w o2 b (lt_of_heap h)).trans h
theorem row_here {α : Type} {n : Nat} {f : α → List Value} {w : World} {b off : Nat} {xs : List α} (h : RowAt n f w (some ⟨b, off, none⟩) xs) (hne : 0 < xs.length) : ∀ i x, xs[i]? = some x → ∀ j v, (f x)[j]? = some v → w.cell? ⟨b, off + i * n + j, none⟩ = some v := by
  obtain ⟨b', off', hA, hc⟩ := h.get hne
  injection hA with e
  injection e with e1 e2
  subst e1 e2
  exact hc
theorem int_set : ∀ (xs : List Int) (k : Nat) (z : Int), (xs.flatMap intC).set k (.int .i64 z) = (xs.set k z).flatMap intC
  | [], k, z => by simp
  | x :: xs, 0, z => by simp [intC]
  | x :: xs, k + 1, z => by
    have h := int_set xs k z
    simp only [List.flatMap_cons, List.set_cons_succ]
    rw [← h]
    simp [intC]
theorem u64_set : ∀ (xs : List Int) (k : Nat) (z : Int), (xs.flatMap u64C).set k (.int .u64 z) = (xs.set k z).flatMap u64C
  | [], k, z => by simp
  | x :: xs, 0, z => by simp [u64C]
  | x :: xs, k + 1, z => by
    have h := u64_set xs k z
    simp only [List.flatMap_cons, List.set_cons_succ]
    rw [← h]
    simp [u64C]
theorem own_setI {w : World} {B g cap n : Nat} {xs : List Int} (h : Own 3 1 intC w B (.slice (some ⟨g, 0, none⟩) n cap) xs) (hn : xs.length = n) (k : Nat) (z : Int) :
    Own 3 1 intC (w.setCell ⟨g, k, none⟩ (.int .i64 z)) B (.slice (some ⟨g, 0, none⟩) n cap) (xs.set k z) := by
  unfold Own at h ⊢
  rw [hn] at h
  rw [List.length_set, hn, ← int_set]
  exact (World.ownsRow.stored h k (.int .i64 z)).1
theorem wpList_makeI {ops : Array Oper} {rest : List Oper} {o : Oper} {a : Act} {w : World} {Q : Exit → Act → World → Prop} (hg : o.guard = none) (l : Operand) (hop : o.op = Op.makeSlice 24 l l) (n : Nat) (hl : a.eval l = .int .i64 (n : Int)) (hn : n ≤ 17592186044416)
    (hK : ∀ w', Own 3 1 intC w' w.heap.size (.slice (some ⟨w.heap.size, 0, none⟩) n n) (List.replicate n (0 : Int)) → Ext w w' → wpList Try.prog ops Q rest (a.put o.dst (.slice (some ⟨w.heap.size, 0, none⟩) n n)) w') : wpList Try.prog ops Q (o :: rest) a w := by
  obtain ⟨i, hi, hz0, hz1, hz2⟩ := info_parts intInfo0
  refine wpList_make_full w hg l l 24 hop w.heap.size 3 i (.int .i64 0) 1 Try.underlying24 hi hz0 hz1 .i64 .i64 n n n hl hl rfl rfl (by rw [hz2]; omega) (by unfold maxLen; omega) (Nat.le_refl _) ?_
  intro w' ho hgr
  refine hK w' ?_ ⟨hgr.os, hgr.tape, hgr.output, hgr.size, fun k hk => hgr.block k hk (by simp)⟩
  unfold Own
  have e : (List.replicate n (0 : Int)).flatMap intC = (madeCells (Value.int .i64 0).cells (n * 1)).toList := by
    rw [Nat.mul_one, show (Value.int .i64 0).cells = #[Value.int .i64 0] from rfl, toList_madeCells_one]
    clear ho hgr hl hn hK
    induction n with
    | zero => rfl
    | succ n ih => rw [List.replicate_succ, List.flatMap_cons, ih]; rfl
  rw [e, List.length_replicate]
  exact ho
end Go.Proofs.Ytkcpfimhbogdcaa
