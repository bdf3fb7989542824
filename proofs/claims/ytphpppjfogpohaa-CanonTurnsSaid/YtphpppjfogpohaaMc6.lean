/- Merged by program (merge.py) out of: Gen, Pers, Boo, Lst, GraA, GraB, GraC, GraD, GraE, GraF, GraG. -/
import Derived.OwnWalk
import Derived.Lib.SliceRun
import Derived.WalkSpells
import Derived.Shelf.Abstract
import Derived.IntWalk
import Derived.Test.YtphpppjfogpohaaMc3
import Derived.Test.YtphpppjfogpohaaMc5
import Derived.Test.YtphpppjfogpohaaMc4
import Derived.Test.YtphpppjfogpohaaMc2
/- General lemmas on blocks and on slices of a call's own (lines of our texts on graphs). -/
set_option linter.unusedSimpArgs false
set_option linter.unusedVariables false
namespace Go.Proofs.Ytphpppjfogpohaa
open Go.RowKit Go.Shelf

def u64C (z : Int) : List Value := [.int .u64 z]
abbrev WordsAt (w : World) (A : Option Addr) (zs : List Int) : Prop := RowAt 1 u64C w A zs
theorem words_cell {w : World} {b off : Nat} {zs : List Int} (hc : ∀ i x, zs[i]? = some x → ∀ j v, (u64C x)[j]? = some v → w.cell? ⟨b, off + i * 1 + j, none⟩ = some v) {k : Nat} (hk : k < zs.length) :
    w.cell? ⟨b, off + k, none⟩ = some (.int .u64 (zs.getD k 0)) := by
  have h := hc k zs[k] (by simp [hk]) 0 _ rfl
  simpa [hk] using h
theorem getD_mem {α : Type} {l : List α} {k : Nat} {d : α} (h : k < l.length) : l.getD k d ∈ l := by
  rw [List.getD_eq_getElem?_getD, List.getElem?_eq_getElem h]; exact List.getElem_mem h
theorem u64Cells : Cells 1 u64C := ⟨fun _ => rfl, fun x u h => by simp [u64C] at h; subst h; rfl⟩
theorem intInfo0 : (Try.prog.info? 3).map (fun i => (i.zero, i.size, i.bytes)) = some (some (.int .i64 0), 1, 8) := by kernel_rfl
theorem intInfo : Info Try.prog 28 3 1 8 :=
  ⟨Try.underlying28, by obtain ⟨i0, hi, hz0, hz1, hz2⟩ := info_parts intInfo0; exact ⟨i0, _, hi, hz0, hz1, hz2, rfl⟩, by decide⟩
theorem u64Info0 : (Try.prog.info? 68).map (fun i => (i.zero, i.size, i.bytes)) = some (some (.int .u64 0), 1, 8) := by kernel_rfl
theorem u64Info : Info Try.prog 49 68 1 8 :=
  ⟨Try.underlying49, by obtain ⟨i0, hi, hz0, hz1, hz2⟩ := info_parts u64Info0; exact ⟨i0, _, hi, hz0, hz1, hz2, rfl⟩, by decide⟩
theorem row_none {α : Type} {n : Nat} {f : α → List Value} {w : World} {xs : List α} (h : RowAt n f w none xs) : xs = [] := by
  obtain ⟨b, off, hA, _⟩ := h
  cases xs with
  | nil => rfl
  | cons x xs => exact absurd (hA (by simp)) (by simp)
section
variable {α β : Type} {e e2 : TypeId} {n n2 : Nat} {f : α → List Value} {g : β → List Value} {B B2 : Nat} {v v2 : Value} {xs ys : List α} {zs : List β} {w w' : World} {P : Program} {t : TypeId} {bytes : Nat}
theorem Own.apart (h : Own e n f w B v xs) (h2 : Own e2 n2 g w B2 v2 zs) (hne : e ≠ e2) : v.ownBlock = none ∨ v.ownBlock ≠ v2.ownBlock := by
  rcases h.2 with ⟨rfl, _⟩ | ⟨b, cap, cur, rfl, hb, hg, _⟩
  · exact .inl rfl
  · refine .inr fun heq => ?_
    rcases h2.2 with ⟨rfl, _⟩ | ⟨b2, cap2, cur2, rfl, hb2, hg2, _⟩
    · cases heq
    · have : b = b2 := by simpa [Value.ownBlock] using heq
      subst this
      rw [hg] at hg2
      cases hg2
      exact hne rfl
theorem Own.keep2 (h : Own e n f w B v xs) (h2 : Own e2 n2 g w B2 v2 zs) (hne : e ≠ e2) (hg : w.grownBy w' v2.ownBlock) : Own e n f w' B v xs := h.kept hg (h.apart h2 hne)
theorem Own.setOther (h : Own e n f w B v xs) {Bo i : Nat} {u : Value} {ws : Array Value} {t : TypeId} {r : Nat × Nat} (hb : w.heap[Bo]? = some (.cells ws t r)) (hne : t ≠ e) : Own e n f (w.setCell ⟨Bo, i, none⟩ u) B v xs :=
  h.same fun g cs ty rr hg hc => (Below.heap_setCell w ⟨Bo, i, none⟩ u g (fun heq => by
    simp only at heq
    subst heq
    rcases h.2 with ⟨hv, _⟩ | ⟨b, cap, cur, hv, _, hg2, _⟩
    · rw [hv] at hg; cases hg
    · rw [hv] at hg
      have : b = g := by simpa [Value.ownBlock] using hg
      subst this
      rw [hb] at hg2
      cases hg2
      exact hne rfl)).trans hc
theorem wp_app_src {o : Oper} {a : Act} {K : Act → World → Prop} {Q : Exit → Act → World → Prop} (s x : Operand) (t : TypeId)
    (ho : o.op = .call { callee := .builtin .append, args := #[s, x], argTypes := #[t, t] }) (hI : Info P t e n bytes) (hf : Cells n f)
    (hs : a.eval s = v) (hown : Own e n f w B v xs) (ys : List α) (A : Option Addr) (c : Nat) (hA : A = none → c = 0) (r m : Nat) (hk : xs.length + ys.length = r) (hm : ys.length = m) (hx : a.eval x = .slice A m c) (hr : RowAt n f w A ys)
    (hlen : r * bytes ≤ 140737488355328) (h63 : r ≤ maxLen) (hB : B ≤ w.heap.size)
    (h : ∀ A cap w', Own e n f w' B (.slice A r cap) (xs ++ ys) → w.grownBy w' v.ownBlock →
      ((Value.slice A r cap).ownBlock = v.ownBlock ∨ (Value.slice A r cap).ownBlock = some w.heap.size) →
      K (a.put o.dst (.slice A r cap)) w') : o.wp P a w K Q := by
  cases A with
  | some ad => exact wp_app s x t ho hI hf hs hown ad c ys r m hk hm hx hr hlen h63 hB h
  | none =>
    obtain rfl := row_none hr
    subst hm
    obtain rfl := hA rfl
    obtain ⟨A0, cap0, rfl, _⟩ := hown.form hf hI.pos
    simp only [List.length_nil, Nat.add_zero] at hk
    subst hk
    obtain ⟨i, z, hi, hz, hsz, hby, hzs⟩ := hI.inf
    have hrun := run_append_owned_none (P := P) (w := w) B t o.type e i n hI.und hi _ xs.length _ hown
    have hh := h A0 cap0 w (by simpa using hown) (World.grownBy.refl _ _) (.inl rfl)
    unfold Oper.wp execOp
    simp only [ho, resolve, invoke, builtin, Sem.run_bind, Sem.run_pure, Result.andThen_ok, List.map_toArray, List.map_cons, List.map_nil, hs, hx, List.length_nil, hrun]
    exact hh
theorem wpList_src {ops : Array Oper} {rest : List Oper} {o : Oper} {a : Act} {Q : Exit → Act → World → Prop} (hgd : o.guard = none) (s x : Operand) (t : TypeId)
    (ho : o.op = .call { callee := .builtin .append, args := #[s, x], argTypes := #[t, t] }) (hI : Info P t e n bytes) (hf : Cells n f)
    (hs : a.eval s = v) (hown : Own e n f w B v xs) (ys : List α) (A : Option Addr) (c : Nat) (hA : A = none → c = 0) (r m : Nat) (hk : xs.length + ys.length = r) (hm : ys.length = m) (hx : a.eval x = .slice A m c) (hr : RowAt n f w A ys)
    (hlen : r * bytes ≤ 140737488355328) (h63 : r ≤ maxLen) (hB : B ≤ w.heap.size)
    (h : ∀ A cap w', Own e n f w' B (.slice A r cap) (xs ++ ys) → w.grownBy w' v.ownBlock →
      ((Value.slice A r cap).ownBlock = v.ownBlock ∨ (Value.slice A r cap).ownBlock = some w.heap.size) →
      wpList P ops Q rest (a.put o.dst (.slice A r cap)) w') : wpList P ops Q (o :: rest) a w :=
  wpList_plain hgd fun _ hK => wp_app_src s x t ho hI hf hs hown ys A c hA r m hk hm hx hr hlen h63 hB fun A cap w' h2 h3 h4 => hK _ _ (h A cap w' h2 h3 h4)
theorem Own.setNe (h : Own e n f w B v xs) {g i : Nat} {u : Value} (hne : v.ownBlock ≠ some g) : Own e n f (w.setCell ⟨g, i, none⟩ u) B v xs :=
  h.same fun b cs ty rr hb hc => (Below.heap_setCell w ⟨g, i, none⟩ u b (fun heq => by simp only at heq; subst heq; exact hne hb)).trans hc
end
theorem Own.ne_block {α : Type} {e : TypeId} {n : Nat} {f : α → List Value} {B : Nat} {v : Value} {xs : List α} {w : World} (h : Own e n f w B v xs) {b : Nat} {ws : Array Value} {t : TypeId} {r : Nat × Nat} (hb : w.heap[b]? = some (.cells ws t r)) (hne : t ≠ e) : some b ≠ v.ownBlock := fun heq => by
  rcases h.2 with ⟨hv, _⟩ | ⟨b2, cap, cur, hv, _, hg2, _⟩
  · rw [hv] at heq; cases heq
  · rw [hv] at heq
    have : b = b2 := by simpa [Value.ownBlock] using heq
    subst this
    rw [hb] at hg2
    cases hg2
    exact hne rfl
theorem map_snoc {α β : Type} {f : α → β} {l : List α} {d : α} {k : Nat} (hk : k < l.length) : (l.take (k + 1)).map f = (l.take k).map f ++ [f (l.getD k d)] := by
  rw [List.take_add_one, List.getElem?_eq_getElem hk, List.getD_eq_getElem?_getD, List.getElem?_eq_getElem hk]
  simp only [Option.toList_some, List.map_append, List.map_cons, List.map_nil, Option.getD_some]
theorem all_ofD {α : Type} {d : α} {p : α → Bool} {l : List α} (h : ∀ i, i < l.length → p (l.getD i d) = true) : l.all p = true := by
  rw [List.all_eq_true]
  intro x hx
  obtain ⟨i, hi, rfl⟩ := List.getElem_of_mem hx
  have := h i hi
  simpa [List.getElem?_eq_getElem hi] using this
theorem all_notD {α : Type} {d : α} {p : α → Bool} {l : List α} {k : Nat} (hk : k < l.length) (h : p (l.getD k d) = false) : l.all p = false := by
  rw [List.all_eq_false]
  exact ⟨_, getD_mem hk, by rw [h]; simp⟩
theorem upTo {α : Type} {d : α} {p : α → Bool} {l : List α} {k : Nat} (hq : ∀ i, i < k → p (l.getD i d) = true) (h : p (l.getD k d) = true) : ∀ i, i < k + 1 → p (l.getD i d) = true := fun i hi => by
  rcases Nat.lt_or_ge i k with h' | h'
  · exact hq i h'
  · obtain rfl : i = k := by omega
    exact h
theorem own_row {α : Type} {e : TypeId} {n : Nat} {f : α → List Value} {w : World} {B : Nat} {A : Option Addr} {cap : Nat} {xs : List α} (h : Own e n f w B (.slice A xs.length cap) xs) (hf : Cells n f) (hn : 0 < n) :
    RowAt n f w A xs ∧ (A = none → cap = 0) ∧ xs.length ≤ cap := by
  obtain ⟨A0, cap0, hv, hrow, hnn, -, hcap, -⟩ := h.form hf hn
  injection hv with h1 h2 h3
  subst h1 h3
  exact ⟨hrow, hnn, hcap⟩
theorem wp_norm {P : Program} {c : Code} {Q : Exit → Act → World → Prop} {a : Act} {w : World} (C : Act → World → Prop) (h : c.wp P (fun e a w => e = .normal ∧ C a w) a w) (h2 : ∀ a w, C a w → Q .normal a w) : c.wp P Q a w :=
  Code.wp_mono (by rintro e a w ⟨rfl, h⟩; exact h2 a w h) h
theorem own_heap {α : Type} {e : TypeId} {n : Nat} {f : α → List Value} {B g len cap : Nat} {xs : List α} {w : World} (h : Own e n f w B (.slice (some ⟨g, 0, none⟩) len cap) xs) : ∃ cur, w.heap[g]? = some (.cells cur e (0, 0)) := by
  rcases h.2 with ⟨hv, _⟩ | ⟨b2, cap2, cur, hv, _, hg2, _⟩
  · cases hv
  · injection hv with h1 h2 h3
    injection h1 with h1
    injection h1 with h1
    subst h1
    exact ⟨cur, hg2⟩
theorem own_some {α : Type} {e : TypeId} {n : Nat} {f : α → List Value} {w : World} {B : Nat} {A : Option Addr} {len cap : Nat} {xs : List α} (h : Own e n f w B (.slice A len cap) xs) (hn : xs ≠ []) : ∃ g, A = some ⟨g, 0, none⟩ ∧ B ≤ g ∧ g < w.heap.size := by
  rcases h.2 with ⟨_, h0⟩ | ⟨b, cap2, cur, hv, hb, hg, _⟩
  · exact absurd (List.eq_nil_of_length_eq_zero h0) hn
  · injection hv with h1 h2 h3
    exact ⟨b, h1, hb, lt_of_heap hg⟩
theorem cell_lt {w : World} {b o : Nat} {v : Value} (h : w.cell? ⟨b, o, none⟩ = some v) : b < w.heap.size := by
  unfold World.cell? at h
  rcases Nat.lt_or_ge b w.heap.size with h2 | h2
  · exact h2
  · rw [Array.getElem?_eq_none h2] at h; cases h
theorem row_litb {α : Type} {e : TypeId} {n : Nat} {f : α → List Value} {ys : List α} (w : World) (b : Nat) (hb : w.heap.size = b) (cs : Array Value) (hcs : cs = (ys.flatMap f).toArray) (hf : Cells n f) (hn : 0 < n) : RowAt n f (w.alloc (.cells cs e)) (some ⟨b, 0, none⟩) ys := by subst hb; exact row_lit w cs hcs hf hn
theorem row_block {α : Type} {e : TypeId} {n : Nat} {f : α → List Value} {w : World} {b : Nat} {cs : Array Value} {xs : List α} (h : w.heap[b]? = some (.cells cs e (0, 0))) (hcs : cs = (xs.flatMap f).toArray) (hf : Cells n f) (hn : 0 < n) : RowAt n f w (some ⟨b, 0, none⟩) xs := by
  refine ⟨b, 0, fun _ => rfl, fun i x hx j u hu => ?_⟩
  have := flat_get hf hn hx hu
  subst hcs
  simpa [World.cell?, h] using this
theorem blk_new (w : World) (cs : Array Value) (t : TypeId) (b : Nat) (hb : w.heap.size = b) : (w.alloc (.cells cs t)).heap[b]? = some (.cells cs t (0, 0)) := by subst hb; exact World.alloc_heap_new w _
theorem blk_old {w : World} {b : Nat} {o o2 : Obj} (h : w.heap[b]? = some o) : (w.alloc o2).heap[b]? = some o := (Below.heap_alloc w o2 b (lt_of_heap h)).trans h
theorem row_here {α : Type} {n : Nat} {f : α → List Value} {w : World} {b off : Nat} {xs : List α} (h : RowAt n f w (some ⟨b, off, none⟩) xs) (hne : 0 < xs.length) : ∀ i x, xs[i]? = some x → ∀ j v, (f x)[j]? = some v → w.cell? ⟨b, off + i * n + j, none⟩ = some v := by
  obtain ⟨b', off', hA, hc⟩ := h.get hne
  injection hA with e
  injection e with e1 e2
  subst e1 e2
  exact hc
theorem int_set : ∀ (xs : List Int) (k : Nat) (z : Int), (xs.flatMap intC).set k (.int .i64 z) = (xs.set k z).flatMap intC
  | [], k, z => by simp
  | x :: xs, 0, z => by simp [intC]
  | x :: xs, k + 1, z => by
    have h := int_set xs k z
    simp only [List.flatMap_cons, List.set_cons_succ]
    rw [← h]
    simp [intC]
theorem u64_set : ∀ (xs : List Int) (k : Nat) (z : Int), (xs.flatMap u64C).set k (.int .u64 z) = (xs.set k z).flatMap u64C
  | [], k, z => by simp
  | x :: xs, 0, z => by simp [u64C]
  | x :: xs, k + 1, z => by
    have h := u64_set xs k z
    simp only [List.flatMap_cons, List.set_cons_succ]
    rw [← h]
    simp [u64C]
theorem own_setI {w : World} {B g cap n : Nat} {xs : List Int} (h : Own 3 1 intC w B (.slice (some ⟨g, 0, none⟩) n cap) xs) (hn : xs.length = n) (k : Nat) (z : Int) :
    Own 3 1 intC (w.setCell ⟨g, k, none⟩ (.int .i64 z)) B (.slice (some ⟨g, 0, none⟩) n cap) (xs.set k z) := by
  unfold Own at h ⊢
  rw [hn] at h
  rw [List.length_set, hn, ← int_set]
  exact (World.ownsRow.stored h k (.int .i64 z)).1
theorem wpList_makeI {ops : Array Oper} {rest : List Oper} {o : Oper} {a : Act} {w : World} {Q : Exit → Act → World → Prop} (hg : o.guard = none) (l : Operand) (hop : o.op = Op.makeSlice 28 l l) (n : Nat) (hl : a.eval l = .int .i64 (n : Int)) (hn : n ≤ 17592186044416)
    (hK : ∀ w', Own 3 1 intC w' w.heap.size (.slice (some ⟨w.heap.size, 0, none⟩) n n) (List.replicate n (0 : Int)) → Ext w w' → wpList Try.prog ops Q rest (a.put o.dst (.slice (some ⟨w.heap.size, 0, none⟩) n n)) w') : wpList Try.prog ops Q (o :: rest) a w := by
  obtain ⟨i, hi, hz0, hz1, hz2⟩ := info_parts intInfo0
  refine wpList_make_full w hg l l 28 hop w.heap.size 3 i (.int .i64 0) 1 Try.underlying28 hi hz0 hz1 .i64 .i64 n n n hl hl rfl rfl (by rw [hz2]; omega) (by unfold maxLen; omega) (Nat.le_refl _) ?_
  intro w' ho hgr
  refine hK w' ?_ ⟨hgr.os, hgr.tape, hgr.output, hgr.size, fun k hk => hgr.block k hk (by simp)⟩
  unfold Own
  have e : (List.replicate n (0 : Int)).flatMap intC = (madeCells (Value.int .i64 0).cells (n * 1)).toList := by
    rw [Nat.mul_one, show (Value.int .i64 0).cells = #[Value.int .i64 0] from rfl, toList_madeCells_one]
    clear ho hgr hl hn hK
    induction n with
    | zero => rfl
    | succ n ih => rw [List.replicate_succ, List.flatMap_cons, ih]; rfl
  rw [e, List.length_replicate]
  exact ho
end Go.Proofs.Ytphpppjfogpohaa

/- What is known of a world and stays known of all that it grows into. Of no program. -/
set_option linter.unusedSimpArgs false
set_option linter.unusedVariables false
namespace Go.Proofs.Ytphpppjfogpohaa
open Go.RowKit

/-- P of all worlds that W has grown into. -/
def Pers (W : World) (P : World → Prop) : Prop := ∀ w, Ext W w → P w
section
variable {W W1 w : World} {P : World → Prop}
theorem Pers.at (h : Pers W P) (hx : Ext W w) : P w := h w hx
theorem Pers.re (h : Pers W P) (hx : Ext W W1) : Pers W1 P := fun w k => h w (hx.trans k)
theorem Pers.here (h : Pers W P) : P W := h W (Ext.refl W)
theorem pers_row {α : Type} {n : Nat} {f : α → List Value} {A : Option Addr} {xs : List α} (h : RowAt n f W A xs) : Pers W (fun w => RowAt n f w A xs) := fun _ k => h.ext k
theorem pers_own {α : Type} {e : TypeId} {n : Nat} {f : α → List Value} {B : Nat} {v : Value} {xs : List α} (h : Own e n f W B v xs) : Pers W (fun w => Own e n f w B v xs) := fun _ k => h.ext k
theorem pers_blk {b : Nat} {o : Obj} (h : W.heap[b]? = some o) : Pers W (fun w => w.heap[b]? = some o) := fun _ k => (k.block (lt_of_heap h)).trans h
theorem pers_new (w : World) (cs : Array Value) (t : TypeId) (b : Nat) (hb : w.heap.size = b) : Pers (w.alloc (.cells cs t)) (fun w => w.heap[b]? = some (.cells cs t (0, 0))) := pers_blk (blk_new w cs t b hb)
theorem pers_new2 (w : World) (cs : Array Value) (t : TypeId) (b : Nat) (hb : w.heap.size = b) (o2 : Obj) : Pers ((w.alloc (.cells cs t)).alloc o2) (fun w => w.heap[b]? = some (.cells cs t (0, 0))) := pers_blk (blk_old (blk_new w cs t b hb))
theorem Pers.cells {b : Nat} {cs : Array Value} {t : TypeId} (h : Pers W (fun w => w.heap[b]? = some (.cells cs t (0, 0)))) : ∀ (u : ExtOf W) (i : Nat), u.1.cell? ⟨b, i, none⟩ = cs[i]? := fun u i => by
  have := h u.1 u.2
  simp [World.cell?, this]
theorem Pers.frees {b : Nat} {cs : Array Value} {t : TypeId} (h : Pers W (fun w => w.heap[b]? = some (.cells cs t (0, 0)))) : ∀ (u : ExtOf W) (i : Nat), u.1.frozen? ⟨b, i, none⟩ = false := fun u i => by
  have := h u.1 u.2
  simp [World.frozen?, this]
theorem Pers.lt {b : Nat} {o : Obj} (h : Pers W (fun w => w.heap[b]? = some o)) : ∀ u : ExtOf W, b < u.1.heap.size := fun u => lt_of_heap (h u.1 u.2)
theorem ExtOf.ext (u : ExtOf W) : Ext W u.1 := u.2
theorem at_baseC {P : Program} {f : FuncId} {args : Array Value} {Q : Ending → World → Prop} (h : ∀ u : ExtOf W, Calls P f args u.1 Q) : Calls P f args W Q := h ⟨W, Ext.refl W⟩
/-- A walk that stands in W may be thought to stand in some world that W has grown into. -/
theorem at_base {G : World → Prop} (h : ∀ u : ExtOf W, G u.1) : G W := h ⟨W, Ext.refl W⟩
theorem blk_set {b i : Nat} {cs : Array Value} {t : TypeId} (h : W.heap[b]? = some (.cells cs t (0, 0))) (v : Value) : (W.setCell ⟨b, i, none⟩ v).heap[b]? = some (.cells (cs.setIfInBounds i v) t (0, 0)) := heap_setCell_same W b i _ _ _ h
theorem blk_set_other {b c i : Nat} {o : Obj} (h : W.heap[b]? = some o) (v : Value) (hne : b ≠ c) : (W.setCell ⟨c, i, none⟩ v).heap[b]? = some o := (Below.heap_setCell W ⟨c, i, none⟩ v b hne).trans h
theorem arr5 {α : Type} {cs : Array α} (h : cs.size = 5) : ∃ a b c d e, cs = #[a, b, c, d, e] := by
  obtain ⟨l⟩ := cs
  match l, h with
  | [a, b, c, d, e], _ => exact ⟨a, b, c, d, e, rfl⟩
theorem cells_of {b : Nat} {cs : Array Value} {t : TypeId} (h : W.heap[b]? = some (.cells cs t (0, 0))) : (∀ i, W.cell? ⟨b, i, none⟩ = cs[i]?) ∧ ∀ i, W.frozen? ⟨b, i, none⟩ = false := ⟨fun i => by simp [World.cell?, h], fun i => by simp [World.frozen?, h]⟩
/-- A cell that stays. -/
theorem pers_cell {p : Addr} {v : Value} (h : W.cell? p = some v) : ∀ u : ExtOf W, u.1.cell? p = some v := fun u => u.2.cell h
end
/-- A post that the walk does not open. -/
structure Behind (P : Act → World → Prop) (a : Act) (w : World) : Prop where
  mk ::
  out : P a w
end Go.Proofs.Ytphpppjfogpohaa

/- Rows of Booleans; rows that share no block. Of no program but for its types. -/
set_option linter.unusedSimpArgs false
set_option linter.unusedVariables false
namespace Go.Proofs.Ytphpppjfogpohaa
open Go.RowKit Go.Shelf

/-- Slices that share no block. -/
def Sep (vs : List Value) : Prop := ∀ (i j : Nat) (a b : Value) (g : Nat), vs[i]? = some a → vs[j]? = some b → i ≠ j → a.ownBlock = some g → b.ownBlock ≠ some g
section
variable {vs : List Value}
theorem Sep.ne (h : Sep vs) (i j : Nat) {a b : Value} (hi : vs[i]? = some a) (hj : vs[j]? = some b) (hij : i ≠ j) : a.ownBlock = none ∨ a.ownBlock ≠ b.ownBlock := by
  cases e : a.ownBlock with
  | none => exact .inl rfl
  | some g => exact .inr (fun e2 => h i j a b g hi hj hij e e2.symm)
theorem Sep.turn (h : Sep vs) (i : Nat) {m : Nat} {a x : Value} (hi : vs[i]? = some a) (hx : x.ownBlock = a.ownBlock ∨ x.ownBlock = none ∨ ∃ k, m ≤ k ∧ x.ownBlock = some k) (hm : ∀ b ∈ vs, ∀ g, b.ownBlock = some g → g < m) : Sep (vs.set i x) := by
  have hlt : i < vs.length := (List.getElem?_eq_some_iff.1 hi).1
  intro k j a' b' g hk hj hkj ha hb
  rw [List.getElem?_set] at hk hj
  by_cases e1 : i = k
  · subst e1
    rw [if_pos rfl, if_pos hlt] at hk
    rw [if_neg hkj] at hj
    injection hk with hk
    subst hk
    rcases hx with hx | hx | ⟨q, hq, hx⟩
    · exact h i j a b' g hi hj hkj (hx ▸ ha) hb
    · rw [hx] at ha; cases ha
    · rw [hx] at ha
      injection ha with ha
      have := hm b' (List.mem_of_getElem? hj) g hb
      omega
  · rw [if_neg e1] at hk
    by_cases e2 : i = j
    · subst e2
      rw [if_pos rfl, if_pos hlt] at hj
      injection hj with hj
      subst hj
      rcases hx with hx | hx | ⟨q, hq, hx⟩
      · exact h k i a' a g hk hi hkj ha (hx ▸ hb)
      · rw [hx] at hb; cases hb
      · rw [hx] at hb
        injection hb with hb
        have := hm a' (List.mem_of_getElem? hk) g ha
        omega
    · rw [if_neg e2] at hj
      exact h k j a' b' g hk hj hkj ha hb
end
theorem own_below {α : Type} {e : TypeId} {n : Nat} {f : α → List Value} {w : World} {B : Nat} {v : Value} {xs : List α} (h : Own e n f w B v xs) {g : Nat} (hg : v.ownBlock = some g) : B ≤ g ∧ g < w.heap.size := World.ownsRow.lt h g hg
theorem own_getR {α : Type} {e : TypeId} {n : Nat} {f : α → List Value} {w : World} {B g N cap : Nat} {xs : List α} (hf : Cells n f) (h0 : 0 < n) (h : Own e n f w B (.slice (some ⟨g, 0, none⟩) N cap) xs) (hn : xs.length = N) (k j : Nat) (hk : k < xs.length) (v : Value) (hv : (f xs[k])[j]? = some v) : w.cell? ⟨g, k * n + j, none⟩ = some v := by
  subst hn
  have hr := (own_row h hf h0).1
  obtain ⟨b, off, e1, hc⟩ := RowAt.get hr (by omega)
  injection e1 with e1
  injection e1 with e1 e2 _
  subst e1 e2
  have := hc k xs[k] (by simp [hk]) j v hv
  simpa using this
theorem own_intAt {w : World} {B g cap n : Nat} {xs : List Int} (h : Own 3 1 intC w B (.slice (some ⟨g, 0, none⟩) n cap) xs) (hn : xs.length = n) {k : Nat} (hk : k < n) : w.cell? ⟨g, k, none⟩ = some (.int .i64 (xs.getD k 0)) := by
  subst hn
  have := own_getR intCells (by decide) h rfl k 0 hk (.int .i64 xs[k]) rfl
  simpa [List.getD_eq_getElem?_getD, hk] using this
def boolC (z : Bool) : List Value := [.bool z]
theorem boolCells : Cells 1 boolC := ⟨fun _ => rfl, fun x u h => by simp [boolC] at h; subst h; rfl⟩
theorem boolInfo0 : (Try.prog.info? 4).map (fun i => (i.zero, i.size, i.bytes)) = some (some (.bool false), 1, 1) := by kernel_rfl
theorem boolInfo : Info Try.prog 76 4 1 1 :=
  ⟨Try.underlying76, by obtain ⟨i0, hi, hz0, hz1, hz2⟩ := info_parts boolInfo0; exact ⟨i0, _, hi, hz0, hz1, hz2, rfl⟩, by decide⟩
theorem bool_set : ∀ (xs : List Bool) (k : Nat) (z : Bool), (xs.flatMap boolC).set k (.bool z) = (xs.set k z).flatMap boolC
  | [], k, z => by simp
  | x :: xs, 0, z => by simp [boolC]
  | x :: xs, k + 1, z => by
    have h := bool_set xs k z
    simp only [List.flatMap_cons, List.set_cons_succ]
    rw [← h]
    simp [boolC]
theorem own_setB {w : World} {B g cap n : Nat} {xs : List Bool} (h : Own 4 1 boolC w B (.slice (some ⟨g, 0, none⟩) n cap) xs) (hn : xs.length = n) (k : Nat) (z : Bool) :
    Own 4 1 boolC (w.setCell ⟨g, k, none⟩ (.bool z)) B (.slice (some ⟨g, 0, none⟩) n cap) (xs.set k z) := by
  unfold Own at h ⊢
  rw [hn] at h
  rw [List.length_set, hn, ← bool_set]
  exact (World.ownsRow.stored h k (.bool z)).1
theorem wpList_makeB {ops : Array Oper} {rest : List Oper} {o : Oper} {a : Act} {w : World} {Q : Exit → Act → World → Prop} (hg : o.guard = none) (l : Operand) (hop : o.op = Op.makeSlice 76 l l) (n : Nat) (hl : a.eval l = .int .i64 (n : Int)) (hn : n ≤ 17592186044416)
    (hK : ∀ w', Own 4 1 boolC w' w.heap.size (.slice (some ⟨w.heap.size, 0, none⟩) n n) (List.replicate n false) → Ext w w' → wpList Try.prog ops Q rest (a.put o.dst (.slice (some ⟨w.heap.size, 0, none⟩) n n)) w') : wpList Try.prog ops Q (o :: rest) a w := by
  obtain ⟨i, hi, hz0, hz1, hz2⟩ := info_parts boolInfo0
  refine wpList_make_full w hg l l 76 hop w.heap.size 4 i (.bool false) 1 Try.underlying76 hi hz0 hz1 .i64 .i64 n n n hl hl rfl rfl (by rw [hz2]; omega) (by unfold maxLen; omega) (Nat.le_refl _) ?_
  intro w' ho hgr
  refine hK w' ?_ ⟨hgr.os, hgr.tape, hgr.output, hgr.size, fun k hk => hgr.block k hk (by simp)⟩
  unfold Own
  have e : (List.replicate n false).flatMap boolC = (madeCells (Value.bool false).cells (n * 1)).toList := by
    rw [Nat.mul_one, show (Value.bool false).cells = #[Value.bool false] from rfl, toList_madeCells_one]
    clear ho hgr hl hn hK
    induction n with
    | zero => rfl
    | succ n ih => rw [List.replicate_succ, List.flatMap_cons, ih]; rfl
  rw [e, List.length_replicate]
  exact ho
theorem own_boolAt {w : World} {B g cap n : Nat} {xs : List Bool} (h : Own 4 1 boolC w B (.slice (some ⟨g, 0, none⟩) n cap) xs) (hn : xs.length = n) {k : Nat} (hk : k < n) : w.cell? ⟨g, k, none⟩ = some (.bool (xs.getD k false)) := by
  subst hn
  have := own_getR boolCells (by decide) h rfl k 0 hk (.bool xs[k]) rfl
  simpa [List.getD_eq_getElem?_getD, hk] using this
/-- The beginning of a row. -/
theorem own_take {α : Type} {e : TypeId} {n : Nat} {f : α → List Value} {w : World} {B : Nat} {A : Option Addr} {cap N : Nat} {xs : List α} (h : Own e n f w B (.slice A N cap) xs) (hf : Cells n f) (hn : xs.length = N) (m : Nat) (hm : m ≤ N) : Own e n f w B (.slice A m cap) (xs.take m) := by
  subst hn
  have hl : (xs.take m).length = m := by rw [List.length_take]; omega
  have hfl : (xs.take m).flatMap f = (xs.flatMap f).take (m * n) := by
    have : ∀ (xs : List α) (m : Nat), (xs.take m).flatMap f = (xs.flatMap f).take (m * n) := by
      intro xs
      induction xs with
      | nil => intro m; simp
      | cons x xs ih =>
        intro m
        cases m with
        | zero => simp
        | succ m =>
          rw [List.take_succ_cons, List.flatMap_cons, List.flatMap_cons, ih, List.take_append, hf.len, Nat.succ_mul]
          rw [show m * n + n - n = m * n by omega, List.take_of_length_le (l := f x) (by rw [hf.len]; omega)]
    exact this xs m
  obtain ⟨h1, h2⟩ := h
  unfold Own
  rw [hl]
  refine ⟨by rw [hfl, List.length_take, h1]; exact Nat.min_eq_left (Nat.mul_le_mul_right _ hm), ?_⟩
  rcases h2 with ⟨hv, h0⟩ | ⟨g, cap', cur, hv, hb, hg, hc, hcm, hcs, ht⟩
  · injection hv with ha hb hc
    exact .inl ⟨by rw [ha, hc, show m = 0 by omega], by omega⟩
  · injection hv with ha hb' hc'
    refine .inr ⟨g, cap', cur, by rw [ha, hc'], hb, hg, by omega, hcm, hcs, ?_⟩
    rw [hfl, ← ht, List.take_take, Nat.min_eq_left (Nat.mul_le_mul_right _ hm)]
theorem own_cap {α : Type} {e : TypeId} {n : Nat} {f : α → List Value} {w : World} {B : Nat} {A : Option Addr} {cap N : Nat} {xs : List α} (h : Own e n f w B (.slice A N cap) xs) (hn : xs.length = N) : N ≤ cap ∧ cap ≤ maxLen := by
  subst hn
  rcases h.2 with ⟨hv, h0⟩ | ⟨g, cap', cur, hv, _, _, hc, hcm, _⟩
  · injection hv with _ _ hc
    subst hc
    exact ⟨by omega, by simp [maxLen]⟩
  · injection hv with _ _ hc'
    subst hc'
    exact ⟨hc, hcm⟩
/-- A block that stands: what each operation of a drawn region keeps. -/
def BoxK (b : Nat) (cs : Array Value) (t : TypeId) (w : World) : Prop := w.heap[b]? = some (.cells cs t (0, 0))
theorem BoxK.cells {b : Nat} {cs : Array Value} {t : TypeId} {W : World} (h : BoxK b cs t W) (u : KeptOf W (BoxK b cs t)) (i : Nat) : u.1.cell? ⟨b, i, none⟩ = cs[i]? := (cells_of (u.of h)).1 i
theorem BoxK.ext {b : Nat} {cs : Array Value} {t : TypeId} {W W' : World} (h : BoxK b cs t W) (hx : Ext W W') : BoxK b cs t W' := (hx.block (lt_of_heap h)).trans h
end Go.Proofs.Ytphpppjfogpohaa

/- Lists of numbers: the same ones, a copy of words. -/
set_option linter.unusedSimpArgs false
set_option linter.unusedVariables false
namespace Go.Proofs.Ytphpppjfogpohaa
open Go.RowKit Go.Shelf

theorem same_ofD {α : Type} {d : α} {xs ys : List α} (hl : xs.length = ys.length) (h : ∀ i, i < xs.length → xs.getD i d = ys.getD i d) : xs = ys := by
  refine List.ext_getElem hl fun i h1 h2 => ?_
  have := h i h1
  simpa [List.getElem?_eq_getElem h1, List.getElem?_eq_getElem h2] using this
set_option maxRecDepth 100000
set_option maxHeartbeats 4000000
theorem ints_any (A A2 : Option Addr) (cap cap2 : Nat) (xs ys : List Int) (W : World) (hlen : xs.length ≤ 9223372036854775807) (hlen2 : ys.length ≤ 9223372036854775807) (hl : IntsAt W A xs) (hl2 : IntsAt W A2 ys) :
    Calls Try.prog 15 #[.slice A xs.length cap, .slice A2 ys.length cap2] W fun e w' => e = .returned (.bool (decide (xs = ys))) ∧ Ext W w' := by
  have HL := Lib.hid hl
  have HL2 := Lib.hid hl2
  clear hl hl2
  by_cases hne : xs.length = ys.length
  rotate_left
  · have h1 : ((xs.length : Int) != (ys.length : Int)) = true := by rw [bne_iff_ne]; omega
    have h2 : decide (xs = ys) = false := by simp; intro e; subst e; exact hne rfl
    have HR := Lib.hid h2
    clear h2 hne
    go_enter Try.func15, Try.ntmps15
    go_wp2_with fail
    go_ret
    exact ⟨ret_bool (by rw [HR.out]), Ext.refl _⟩
  have HN := Lib.hid hne
  have h1 : ((xs.length : Int) != (ys.length : Int)) = false := by rw [← HN.out]; simp
  clear hne
  go_enter Try.func15, Try.ntmps15
  go_wp2_with fail
  go_loopw [5] (fun i wr => ∃ k : Nat, k ≤ xs.length ∧ i = .int .i64 k ∧ Ext W wr ∧ Hid (∀ i, i < k → xs.getD i 0 = ys.getD i 0)) (fun i _ => xs.length - (intOf i).toNat)
  case atStart => exact ⟨0, by omega, rfl, Ext.refl _, Lib.hid (by omega)⟩
  case round =>
    obtain ⟨k, hk, rfl, hxr, hq⟩ := hrel
    by_cases hlt : k < xs.length
    rotate_left
    · have HR := Lib.hid (same_ofD HN.out (fun i hi => hq.out i (by omega)))
      clear hq
      go_wp2_with fail
      go_ret
      exact ⟨ret_bool (by simp [HR.out]), hxr⟩
    have hlt2 : k < ys.length := by have := HN.out; omega
    obtain ⟨lb, off, rfl, hc⟩ := HL.out.get (by omega)
    obtain ⟨lb2, off2, rfl, hc2⟩ := HL2.out.get (by omega)
    have e1 := ints_cell hc hlt
    have e3 := ints_cell hc2 hlt2
    have c1 := hxr.cell e1
    have c3 := hxr.cell e3
    have HS := Lib.hid (fun (h : xs.getD k 0 = ys.getD k 0) => (fun i (hi : i < k + 1) => by
      rcases Nat.lt_or_ge i k with h' | h'
      · exact hq.out i h'
      · obtain rfl : i = k := by omega
        exact h : ∀ i, i < k + 1 → xs.getD i 0 = ys.getD i 0))
    have HD := Lib.hid (fun (h : xs.getD k 0 ≠ ys.getD k 0) => (fun e : xs = ys => h (by rw [e]) : xs ≠ ys))
    clear e1 e3 hc hc2 HL HL2 hq HN
    generalize xs.getD k 0 = x at *
    generalize ys.getD k 0 = y at *
    have ib1 : (k : Int) < (xs.length : Int) := by omega
    have ib2 : (k : Int) < (ys.length : Int) := by omega
    have ib3 : (0 : Int) ≤ (k : Int) := by omega
    by_cases he : x = y
    · obtain rfl := he
      go_wp2_with fail
      go_quiet (fail)
      go_wp2_with fail
      go_roundw
      case rel => exact ⟨k + 1, by omega, by go_num, hxr.drewN _, Lib.hid (HS.out (by first | rfl | trivial))⟩
      case measure => simp [intOf]; omega
    · have HE := Lib.hid (HD.out he)
      have hb : (x != y) = true := by rw [bne_iff_ne]; exact he
      clear he HD HS
      go_wp2_with fail
      go_quiet (fail)
      go_wp2_with fail
      go_ret
      exact ⟨ret_bool (decide_eq_false HE.out).symm, hxr.drewN _⟩
set_option maxHeartbeats 2000000 in
theorem cloneU_any (A : Option Addr) (cap : Nat) (xs : List Int) (W : World) (hlen : xs.length ≤ 17592186044416) (hl : RowAt 1 u64C W A xs) :
    Calls Try.prog 42 #[.slice A xs.length cap] W fun e w' => ∃ A1 cap1, e = .returned (.slice A1 xs.length cap1) ∧ Own 68 1 u64C w' W.heap.size (.slice A1 xs.length cap1) xs ∧ Ext W w' := by
  have HL := Lib.hid hl
  clear hl
  cases A with
  | none =>
    obtain rfl := row_none HL.out
    have he := fun w => Lib.run_eql_slice_nil (P := Try.prog) w 49 68 none 0 cap 0 0 Try.underlying49
    simp only [Option.isNone_none] at he
    simp only [List.length_nil]
    clear HL
    go_enter Try.func42, Try.ntmps42
    go_wp2_with fail
    go_ret
    exact ⟨none, 0, rfl, Own.nil _ _ _ _ _, Ext.refl _⟩
  | some ad =>
    have he := fun w => Lib.run_eql_slice_nil (P := Try.prog) w 49 68 (some ad) xs.length cap 0 0 Try.underlying49
    simp only [Option.isNone_some] at he
    go_enter Try.func42, Try.ntmps42
    go_wp2_with (at_builtin; refine wpList_app rfl (.tmp 5) (.tmp 6) 49 rfl u64Info u64Cells rfl (by exact Own.empty 68 1 u64C W W.heap.size (Nat.le_refl _)) xs ad cap xs.length xs.length (by simp) rfl rfl (by exact RowAt.ext HL.out ((Ext.refl _).alloc _)) (by omega) (by simp [maxLen]; try omega) (by simp) ?_; intro A3 cap3 w3 hown3 hgr3 hat3; have HO3 := Lib.hid hown3; have hX3 : Ext W w3 := Own.below (Own.empty 68 1 u64C W W.heap.size (Nat.le_refl _)) ((Below.refl _ _).alloc (Nat.le_refl _) _) hgr3 (by simp); clear hown3 hgr3 hat3)
    go_ret
    exact ⟨A3, cap3, rfl, by simpa using HO3.out, hX3⟩
end Go.Proofs.Ytphpppjfogpohaa

/- Graphs in memory; how large their nodes are. -/
set_option linter.unusedSimpArgs false
set_option linter.unusedVariables false
namespace Go.Proofs.Ytphpppjfogpohaa
open Go.RowKit

/-- A node: its cells, and what they lead to. -/
structure NodeD where
  kind : Int
  fA : Option Addr
  fcap : Nat
  fields : List (Int × Int)
  rA : Option Addr
  rcap : Nat
  raws : List Int
def nodeC (x : NodeD) : List Value := [.int .i64 x.kind, .slice x.fA x.fields.length x.fcap, .slice x.rA x.raws.length x.rcap]
instance : Inhabited NodeD := ⟨⟨0, none, 0, [], none, 0, []⟩⟩
structure NodeAt (w : World) (x : NodeD) : Prop where
  fields : SpansAt w x.fA x.fields
  raws : WordsAt w x.rA x.raws
structure NodesAt (w : World) (A : Option Addr) (ns : List NodeD) : Prop where
  row : RowAt 3 nodeC w A ns
  each : ∀ x ∈ ns, NodeAt w x
structure NodeOk (x : NodeD) : Prop where
  kind : -9223372036854775808 ≤ x.kind ∧ x.kind ≤ 9223372036854775807
  fl : x.fields.length ≤ 8796093022208
  rl : x.raws.length ≤ 17592186044416
  fn : x.fA = none → x.fcap = 0
  rn : x.rA = none → x.rcap = 0
  fc : x.fields.length ≤ x.fcap
  rc : x.raws.length ≤ x.rcap
  fv : ∀ v ∈ x.fields, (-9223372036854775808 ≤ v.1 ∧ v.1 ≤ 9223372036854775807) ∧ (-9223372036854775808 ≤ v.2 ∧ v.2 ≤ 9223372036854775807)
  rv : ∀ v ∈ x.raws, 0 ≤ v ∧ v < 18446744073709551616
structure GraphD where
  nA : Option Addr
  ncap : Nat
  ns : List NodeD
  rA : Option Addr
  rcap : Nat
  rs : List (Int × Int)
structure GraphAt (w : World) (G : GraphD) : Prop where
  nodes : NodesAt w G.nA G.ns
  roots : SpansAt w G.rA G.rs
structure GraphOk (G : GraphD) : Prop where
  nl : G.ns.length ≤ 2513169434843
  rl : G.rs.length ≤ 8796093022208
  nn : G.nA = none → G.ncap = 0
  rn : G.rA = none → G.rcap = 0
  nc : G.ns.length ≤ G.ncap
  rc : G.rs.length ≤ G.rcap
  each : ∀ x ∈ G.ns, NodeOk x
  rv : ∀ v ∈ G.rs, (-9223372036854775808 ≤ v.1 ∧ v.1 ≤ 9223372036854775807) ∧ (-9223372036854775808 ≤ v.2 ∧ v.2 ≤ 9223372036854775807)
theorem NodeAt.ext {w w' : World} {x : NodeD} (h : NodeAt w x) (hx : Ext w w') : NodeAt w' x := ⟨h.fields.ext hx, h.raws.ext hx⟩
theorem NodesAt.ext {w w' : World} {A : Option Addr} {ns : List NodeD} (h : NodesAt w A ns) (hx : Ext w w') : NodesAt w' A ns := ⟨h.row.ext hx, fun x hm => (h.each x hm).ext hx⟩
theorem GraphAt.ext {w w' : World} {G : GraphD} (h : GraphAt w G) (hx : Ext w w') : GraphAt w' G := ⟨h.nodes.ext hx, h.roots.ext hx⟩
theorem nodes_cell {w : World} {b off : Nat} {ns : List NodeD} (hc : ∀ i x, ns[i]? = some x → ∀ j v, (nodeC x)[j]? = some v → w.cell? ⟨b, off + i * 3 + j, none⟩ = some v) {k : Nat} (hk : k < ns.length) :
    w.cell? ⟨b, off + k * 3, none⟩ = some (.int .i64 (ns.getD k default).kind) ∧ w.cell? ⟨b, off + k * 3 + 1, none⟩ = some (.slice (ns.getD k default).fA (ns.getD k default).fields.length (ns.getD k default).fcap) ∧
      w.cell? ⟨b, off + k * 3 + 2, none⟩ = some (.slice (ns.getD k default).rA (ns.getD k default).raws.length (ns.getD k default).rcap) := by
  have hg : ns.getD k default = ns[k] := by simp [hk]
  have h0 := hc k ns[k] (by simp [hk]) 0 _ rfl
  have h1 := hc k ns[k] (by simp [hk]) 1 _ rfl
  have h2 := hc k ns[k] (by simp [hk]) 2 _ rfl
  rw [hg]
  exact ⟨by simpa using h0, by simpa using h1, by simpa using h2⟩
/-- How many words a node has. -/
def sizeN (x : NodeD) : Int := wrap64 (wrap64 (1 + x.fields.length) + x.raws.length)
set_option maxHeartbeats 1000000
theorem size_any (x : NodeD) (W : World) : Calls Try.prog 76 #[.agg #[.int .i64 x.kind, .slice x.fA x.fields.length x.fcap, .slice x.rA x.raws.length x.rcap]] W fun e w' => e = .returned (.int .i64 (sizeN x)) ∧ Ext W w' := by
  go_enter Try.func76, Try.ntmps76
  go_wp2_with fail
  go_ret
  exact ⟨ret_int rfl, (Ext.refl _).alloc _⟩
theorem refsize_any (x : NodeD) (W : World) : Calls Try.prog 78 #[.agg #[.int .i64 x.kind, .slice x.fA x.fields.length x.fcap, .slice x.rA x.raws.length x.rcap]] W fun e w' => e = .returned (.int .i64 (sizeN x)) ∧ Ext W w' := by
  go_enter Try.func78, Try.ntmps78
  go_wp2_with fail
  go_ret
  exact ⟨ret_int rfl, (Ext.refl _).alloc _⟩
theorem fieldsof_any (x : NodeD) (W : World) : Calls Try.prog 77 #[.agg #[.int .i64 x.kind, .slice x.fA x.fields.length x.fcap, .slice x.rA x.raws.length x.rcap]] W fun e w' => e = .returned (.int .i64 x.fields.length) ∧ Ext W w' := by
  go_enter Try.func77, Try.ntmps77
  go_wp2_with fail
  go_ret
  exact ⟨rfl, (Ext.refl _).alloc _⟩
end Go.Proofs.Ytphpppjfogpohaa

/- How many words and fields nodes have; whether a graph is too large. -/
set_option linter.unusedSimpArgs false
set_option linter.unusedVariables false
namespace Go.Proofs.Ytphpppjfogpohaa
open Go.RowKit Go.Shelf

/-- Something added up over nodes of a list. -/
def addS (f : NodeD → Int) (ns : List NodeD) (l : List Int) : Int := l.foldl (fun (n i : Int) => if 0 ≤ i ∧ i < ns.length then wrap64 (n + f (ns.getD i.toNat default)) else n) 0
theorem addS_snoc {f : NodeD → Int} {ns : List NodeD} {l : List Int} {k : Nat} (hk : k < l.length) :
    addS f ns (l.take (k + 1)) = (if 0 ≤ l.getD k 0 ∧ l.getD k 0 < ns.length then wrap64 (addS f ns (l.take k) + f (ns.getD (l.getD k 0).toNat default)) else addS f ns (l.take k)) := by
  rw [List.take_add_one, List.getElem?_eq_getElem hk]
  unfold addS
  rw [Option.toList_some, List.foldl_append]
  simp [hk]
/-- A function of a node that is a number, in every world. -/
def Counts (g : Nat) (f : NodeD → Int) : Prop := ∀ W (x : NodeD), Calls Try.prog g #[.agg #[.int .i64 x.kind, .slice x.fA x.fields.length x.fcap, .slice x.rA x.raws.length x.rcap]] W fun e w' => e = .returned (.int .i64 (f x)) ∧ Ext W w'

set_option maxRecDepth 100000
set_option maxHeartbeats 4000000
theorem sum_any (f : NodeD → Int) (g : Nat) (eg : ∀ args w, (callFunc g args).run Try.prog w = .ok (.enter g args) w) (hf : Counts g f) (G : GraphD) (A : Option Addr) (cap : Nat) (l : List Int) (V : World) (hG : GraphAt V G) (hl : IntsAt V A l) (hlen : l.length ≤ 9223372036854775807) (hn : G.ns.length ≤ 9223372036854775807) :
    Calls Try.prog 75 #[.agg #[.slice G.nA G.ns.length G.ncap, .slice G.rA G.rs.length G.rcap], .slice A l.length cap, .func (.func g) #[] #[]] V fun e w' => e = .returned (.int .i64 (addS f G.ns l)) ∧ Ext V w' := by
  have k0 := fun w' => boxed V #[.slice G.nA G.ns.length G.ncap, .slice G.rA G.rs.length G.rcap] 25 0 (.slice G.nA G.ns.length G.ncap) rfl w'
  have HL := Lib.hid hl
  have HG := Lib.hid hG
  have HF := Lib.hid hf
  have hV : Ext V (V.alloc (.cells #[.slice G.nA G.ns.length G.ncap, .slice G.rA G.rs.length G.rcap] 25)) := (Ext.refl V).alloc _
  have HV := Lib.hid hV
  clear hl hG hf hV
  go_enter Try.func75, Try.ntmps75
  go_wp2_with fail
  go_loopw [7, 9, 12] (fun n _ i wr => ∃ k : Nat, k ≤ l.length ∧ i = .int .i64 k ∧ n = .int .i64 (addS f G.ns (l.take k)) ∧ Ext (V.alloc (.cells #[.slice G.nA G.ns.length G.ncap, .slice G.rA G.rs.length G.rcap] 25)) wr) (fun _ _ i _ => l.length - (intOf i).toNat)
  case atStart => exact ⟨0, by omega, rfl, rfl, Ext.refl _⟩
  case round =>
    obtain ⟨k, hk, rfl, rfl, hxr⟩ := hrel
    by_cases hlt : k < l.length
    rotate_left
    · go_wp2_with fail
      go_ret
      exact ⟨ret_int (by rw [List.take_of_length_le (by omega)]), HV.out.trans hxr⟩
    obtain ⟨lb, off, rfl, hc⟩ := HL.out.get (by omega)
    have c1 := hxr.cell (HV.out.cell (ints_cell hc hlt))
    have b0 := k0 _ hxr
    have HT := Lib.hid (addS_snoc (f := f) (ns := G.ns) hlt)
    have ib1 : (k : Int) < (l.length : Int) := by omega
    clear hc HL
    generalize l.getD k 0 = i at *
    by_cases hi : 0 ≤ i ∧ i < G.ns.length
    · obtain ⟨hi1, hi2⟩ := hi
      obtain ⟨j, rfl⟩ := Int.eq_ofNat_of_zero_le hi1
      have hj : j < G.ns.length := by omega
      obtain ⟨nb, noff, hA, hcn⟩ := HG.out.nodes.row.get (by omega)
      obtain ⟨d0, d1, d2⟩ := nodes_cell hcn hj
      have e0 := hxr.cell (HV.out.cell d0)
      have e1 := hxr.cell (HV.out.cell d1)
      have e2 := hxr.cell (HV.out.cell d2)
      have HE := Lib.hid (HT.out.trans (if_pos ⟨hi1, hi2⟩))
      rw [Int.toNat_natCast] at HE
      have hcall := Lib.hid (HF.out wr (G.ns.getD j default))
      rw [hA] at b0
      clear hcn d0 d1 d2 HT HF hA k0
      generalize G.ns.getD j default = x at *
      go_wp2_with (go_at_fn g; refine hcall.out.mono ?_; rintro e w1 ⟨rfl, hx1⟩; replace hxr := hxr.trans hx1)
      go_roundw
      case rel => exact ⟨k + 1, by omega, by go_num, by rw [HE.out], hxr⟩
      case measure => simp [intOf]; omega
    · have HE := Lib.hid (HT.out.trans (if_neg hi))
      have hcase : i < 0 ∨ (0 ≤ i ∧ ¬ i < G.ns.length) := by omega
      clear hi HT HF
      rcases hcase with hi | ⟨hi, hi2⟩
      all_goals
        go_wp2_with fail
        go_roundw
        case rel => exact ⟨k + 1, by omega, by go_num, by rw [HE.out], hxr⟩
        case measure => simp [intOf]; omega
theorem gwords_any (G : GraphD) (A : Option Addr) (cap : Nat) (l : List Int) (V : World) (hG : GraphAt V G) (hl : IntsAt V A l) (hlen : l.length ≤ 9223372036854775807) (hn : G.ns.length ≤ 9223372036854775807) :
    Calls Try.prog 52 #[.agg #[.slice G.nA G.ns.length G.ncap, .slice G.rA G.rs.length G.rcap], .slice A l.length cap] V fun e w' => e = .returned (.int .i64 (addS sizeN G.ns l)) ∧ Ext V w' := by
  have HL := Lib.hid hl
  have HG := Lib.hid hG
  clear hl hG
  go_enter Try.func52, Try.ntmps52
  go_wp2_with fail
  refine (sum_any sizeN 76 (enters_of Try.func76 (by kernel_rfl) rfl) (fun W x => size_any x W) G A cap l _ (HG.out.ext ((Ext.refl V).alloc _)) (HL.out.ext ((Ext.refl V).alloc _)) hlen hn).mono ?_
  rintro e w1 ⟨rfl, hx⟩
  go_wp2_with fail
  go_ret
  exact ⟨rfl, ((Ext.refl V).alloc _).trans hx⟩
theorem fieldsG_any (G : GraphD) (A : Option Addr) (cap : Nat) (l : List Int) (V : World) (hG : GraphAt V G) (hl : IntsAt V A l) (hlen : l.length ≤ 9223372036854775807) (hn : G.ns.length ≤ 9223372036854775807) :
    Calls Try.prog 53 #[.agg #[.slice G.nA G.ns.length G.ncap, .slice G.rA G.rs.length G.rcap], .slice A l.length cap] V fun e w' => e = .returned (.int .i64 (addS (fun x => x.fields.length) G.ns l)) ∧ Ext V w' := by
  have HL := Lib.hid hl
  have HG := Lib.hid hG
  clear hl hG
  go_enter Try.func53, Try.ntmps53
  go_wp2_with fail
  refine (sum_any (fun x => x.fields.length) 77 (enters_of Try.func77 (by kernel_rfl) rfl) (fun W x => fieldsof_any x W) G A cap l _ (HG.out.ext ((Ext.refl V).alloc _)) (HL.out.ext ((Ext.refl V).alloc _)) hlen hn).mono ?_
  rintro e w1 ⟨rfl, hx⟩
  go_wp2_with fail
  go_ret
  exact ⟨rfl, ((Ext.refl V).alloc _).trans hx⟩
end Go.Proofs.Ytphpppjfogpohaa

/- The reference's sums over nodes; whether a graph is too large. -/
set_option linter.unusedSimpArgs false
set_option linter.unusedVariables false
namespace Go.Proofs.Ytphpppjfogpohaa
open Go.RowKit Go.Shelf

set_option maxRecDepth 100000
set_option maxHeartbeats 4000000
theorem grefsums_any (G : GraphD) (A : Option Addr) (cap : Nat) (l : List Int) (V : World) (hG : GraphAt V G) (hl : IntsAt V A l) (hlen : l.length ≤ 9223372036854775807) (hn : G.ns.length ≤ 9223372036854775807) :
    Calls Try.prog 54 #[.agg #[.slice G.nA G.ns.length G.ncap, .slice G.rA G.rs.length G.rcap], .slice A l.length cap] V fun e w' => e = .returned (.tuple #[.int .i64 (addS sizeN G.ns l), .int .i64 (addS (fun x => x.fields.length) G.ns l)]) ∧ Ext V w' := by
  have k0 := fun w' => boxed V #[.slice G.nA G.ns.length G.ncap, .slice G.rA G.rs.length G.rcap] 25 0 (.slice G.nA G.ns.length G.ncap) rfl w'
  have HL := Lib.hid hl
  have HG := Lib.hid hG
  have hV : Ext V (V.alloc (.cells #[.slice G.nA G.ns.length G.ncap, .slice G.rA G.rs.length G.rcap] 25)) := (Ext.refl V).alloc _
  have HV := Lib.hid hV
  clear hl hG hV
  go_enter Try.func54, Try.ntmps54
  go_wp2_with fail
  go_loopw [6, 7, 8] (fun m n i wr => ∃ k : Nat, k ≤ l.length ∧ i = .int .i64 k ∧ m = .int .i64 (addS sizeN G.ns (l.take k)) ∧ n = .int .i64 (addS (fun x => x.fields.length) G.ns (l.take k)) ∧ Ext (V.alloc (.cells #[.slice G.nA G.ns.length G.ncap, .slice G.rA G.rs.length G.rcap] 25)) wr) (fun _ _ i _ => l.length - (intOf i).toNat)
  case atStart => exact ⟨0, by omega, rfl, rfl, rfl, Ext.refl _⟩
  case round =>
    obtain ⟨k, hk, rfl, rfl, rfl, hxr⟩ := hrel
    by_cases hlt : k < l.length
    rotate_left
    · go_wp2_with fail
      go_ret2
      exact ⟨by rw [List.take_of_length_le (by omega)]; rfl, HV.out.trans hxr⟩
    obtain ⟨lb, off, rfl, hc⟩ := HL.out.get (by omega)
    have c1 := hxr.cell (HV.out.cell (ints_cell hc hlt))
    have b0 := k0 _ hxr
    have HX := Lib.hid hxr
    have HT := Lib.hid (addS_snoc (f := sizeN) (ns := G.ns) hlt)
    have HT2 := Lib.hid (addS_snoc (f := fun x => x.fields.length) (ns := G.ns) hlt)
    have ib1 : (k : Int) < (l.length : Int) := by omega
    have ib0 : (0 : Int) ≤ (k : Int) := by omega
    have hs0 : Ext wr wr := Ext.refl wr
    clear hc HL k0 hxr
    generalize l.getD k 0 = i at *
    have l1 : ∀ u : ExtOf wr, u.1.cell? ⟨lb, off + k, none⟩ = some (.int .i64 i) := fun u => u.2.cell c1
    by_cases hi : 0 ≤ i ∧ i < G.ns.length
    · obtain ⟨hi1, hi2⟩ := hi
      obtain ⟨j, rfl⟩ := Int.eq_ofNat_of_zero_le hi1
      have hj : j < G.ns.length := by omega
      obtain ⟨nb, noff, hA, hcn⟩ := HG.out.nodes.row.get (by omega)
      obtain ⟨d0, d1, d2⟩ := nodes_cell hcn hj
      have e0 := HX.out.cell (HV.out.cell d0)
      have e1 := HX.out.cell (HV.out.cell d1)
      have e2 := HX.out.cell (HV.out.cell d2)
      have HE := Lib.hid (HT.out.trans (if_pos ⟨hi1, hi2⟩))
      have HE2 := Lib.hid (HT2.out.trans (if_pos ⟨hi1, hi2⟩))
      rw [Int.toNat_natCast] at HE HE2
      rw [hA] at b0
      clear hcn d0 d1 d2 HT HT2 hA
      generalize G.ns.getD j default = x at *
      have l0 : ∀ u : ExtOf wr, u.1.cell? ⟨V.heap.size, 0, none⟩ = some (.slice (some ⟨nb, noff, none⟩) G.ns.length G.ncap) := fun u => u.2.cell b0
      have l2 : ∀ u : ExtOf wr, u.1.cell? ⟨nb, noff + j * 3, none⟩ = some (.int .i64 x.kind) := fun u => u.2.cell e0
      have l3 : ∀ u : ExtOf wr, u.1.cell? ⟨nb, noff + j * 3 + 1, none⟩ = some (.slice x.fA x.fields.length x.fcap) := fun u => u.2.cell e1
      have l4 : ∀ u : ExtOf wr, u.1.cell? ⟨nb, noff + j * 3 + 2, none⟩ = some (.slice x.rA x.raws.length x.rcap) := fun u => u.2.cell e2
      go_wp2_with fail
      (refine wp_region_ext (W := wr) (by kernel_rfl) (by kernel_rfl) (by with_reducible assumption) ?_; (repeat (go_big_quiet_step (fail))); refine wpQuiet_nil ?_; intro w1 hx)
      go_wp2_with fail
      have hs1 := hx
      (refine wp_region_ext (W := wr) (by kernel_rfl) (by kernel_rfl) (by with_reducible assumption) ?_; (repeat (go_big_quiet_step (first | (go_at_call 78; with_reducible exact Calls.ext_of (refsize_any x _))))); refine wpQuiet_nil ?_; intro w1 hx)
      have hs2 := hx
      go_wp2_with fail
      (refine wp_region_ext (W := wr) (by kernel_rfl) (by kernel_rfl) (by with_reducible assumption) ?_; (repeat (go_big_quiet_step (fail))); refine wpQuiet_nil ?_; intro w1 hx)
      go_wp2_with fail
      go_roundw
      case rel => exact ⟨k + 1, by omega, by go_num, by rw [HE.out], by rw [HE2.out], HX.out.trans hx⟩
      case measure => simp [intOf]; omega
    · have HE := Lib.hid (HT.out.trans (if_neg hi))
      have HE2 := Lib.hid (HT2.out.trans (if_neg hi))
      have hcase : i < 0 ∨ (0 ≤ i ∧ ¬ i < G.ns.length) := by omega
      have l0 : ∀ u : ExtOf wr, u.1.cell? ⟨V.heap.size, 0, none⟩ = some (.slice G.nA G.ns.length G.ncap) := fun u => u.2.cell b0
      clear hi HT HT2
      rcases hcase with hi | ⟨hi, hi2⟩
      · have hd : decide ((0 : Int) ≤ i) = false := by simp; omega
        go_wp2_with fail
        (refine wp_region_ext (W := wr) (by kernel_rfl) (by kernel_rfl) (by with_reducible assumption) ?_; (repeat (go_big_quiet_step (fail))); refine wpQuiet_nil ?_; intro w1 hx)
        go_wp2_with fail
        go_roundw
        case rel => exact ⟨k + 1, by omega, by go_num, by rw [HE.out], by rw [HE2.out], HX.out.trans hx⟩
        case measure => simp [intOf]; omega
      · have hd : decide ((0 : Int) ≤ i) = true := by simp; omega
        have hd2 : decide (i < (G.ns.length : Int)) = false := by simp; omega
        go_wp2_with fail
        (refine wp_region_ext (W := wr) (by kernel_rfl) (by kernel_rfl) (by with_reducible assumption) ?_; (repeat (go_big_quiet_step (fail))); refine wpQuiet_nil ?_; intro w1 hx)
        go_wp2_with fail
        go_roundw
        case rel => exact ⟨k + 1, by omega, by go_num, by rw [HE.out], by rw [HE2.out], HX.out.trans hx⟩
        case measure => simp [intOf]; omega
/-- How much is looked at. -/
def bulk (ns : List NodeD) : Int := ns.foldl (fun n x => n + (min x.fields.length 5000 + min x.raws.length 5000 : Nat)) 0
theorem bulk_snoc {ns : List NodeD} {k : Nat} (hk : k < ns.length) : bulk (ns.take (k + 1)) = bulk (ns.take k) + (min (ns.getD k default).fields.length 5000 + min (ns.getD k default).raws.length 5000 : Nat) := by
  rw [List.take_add_one, List.getElem?_eq_getElem hk]
  unfold bulk
  rw [Option.toList_some, List.foldl_append]
  simp [hk]
theorem bulk_bd (ns : List NodeD) (k : Nat) : 0 ≤ bulk (ns.take k) ∧ bulk (ns.take k) ≤ 10000 * k := by
  induction k with
  | zero => simp [bulk]
  | succ k ih =>
    rcases Nat.lt_or_ge k ns.length with h | h
    · rw [bulk_snoc h]; omega
    · rw [List.take_of_length_le (show ns.length ≤ k + 1 by omega)]
      rw [List.take_of_length_le h] at ih
      omega
def largeG (G : GraphD) : Bool := decide (60 < G.ns.length ∨ 100 < G.rs.length ∨ 9000 < bulk G.ns)
theorem glarge_any (G : GraphD) (V : World) (hG : GraphAt V G) (hn : G.ns.length ≤ 9223372036854775807) (hr : G.rs.length ≤ 9223372036854775807) (hf : ∀ x ∈ G.ns, x.fields.length ≤ 9223372036854775807 ∧ x.raws.length ≤ 9223372036854775807) :
    Calls Try.prog 9 #[.agg #[.slice G.nA G.ns.length G.ncap, .slice G.rA G.rs.length G.rcap]] V fun e w' => e = .returned (.bool (largeG G)) ∧ Ext V w' := by
  have k0 := fun w' => boxed V #[.slice G.nA G.ns.length G.ncap, .slice G.rA G.rs.length G.rcap] 25 0 (.slice G.nA G.ns.length G.ncap) rfl w'
  have HG := Lib.hid hG
  have HF := Lib.hid hf
  have hV : Ext V (V.alloc (.cells #[.slice G.nA G.ns.length G.ncap, .slice G.rA G.rs.length G.rcap] 25)) := (Ext.refl V).alloc _
  have HV := Lib.hid hV
  clear hG hV hf
  by_cases h1 : 60 < G.ns.length
  · have HR := Lib.hid (show largeG G = true by simp [largeG, h1])
    have h1' : (60 : Int) < (G.ns.length : Int) := by omega
    go_enter Try.func9, Try.ntmps9
    go_wp2_with fail
    go_ret
    exact ⟨ret_bool HR.out.symm, HV.out⟩
  by_cases h2 : 100 < G.rs.length
  · have HR := Lib.hid (show largeG G = true by simp [largeG, h2])
    have h1' : ¬ (60 : Int) < (G.ns.length : Int) := by omega
    have h2' : (100 : Int) < (G.rs.length : Int) := by omega
    go_enter Try.func9, Try.ntmps9
    go_wp2_with fail
    go_ret
    exact ⟨ret_bool HR.out.symm, HV.out⟩
  have HR := Lib.hid (show largeG G = decide (9000 < bulk G.ns) by simp [largeG, h1, h2])
  have h1' : ¬ (60 : Int) < (G.ns.length : Int) := by omega
  have h2' : ¬ (100 : Int) < (G.rs.length : Int) := by omega
  have h3 : G.ns.length ≤ 60 := by omega
  clear h1 h2
  go_enter Try.func9, Try.ntmps9
  go_wp2_with fail
  go_loopw [3, 4] (fun n i wr => ∃ k : Nat, k ≤ G.ns.length ∧ i = .int .i64 k ∧ n = .int .i64 (bulk (G.ns.take k)) ∧ Ext (V.alloc (.cells #[.slice G.nA G.ns.length G.ncap, .slice G.rA G.rs.length G.rcap] 25)) wr) (fun _ i _ => G.ns.length - (intOf i).toNat)
  case atStart => exact ⟨0, by omega, rfl, rfl, Ext.refl _⟩
  case round =>
    obtain ⟨k, hk, rfl, rfl, hxr⟩ := hrel
    have b0 := k0 _ hxr
    have hbd := bulk_bd G.ns k
    by_cases hlt : k < G.ns.length
    rotate_left
    · have HB := Lib.hid (show bulk (G.ns.take k) = bulk G.ns by rw [List.take_of_length_le (by omega)])
      go_wp2_with fail
      go_ret
      exact ⟨ret_bool (by rw [HR.out, HB.out]), HV.out.trans hxr⟩
    obtain ⟨nb, noff, hA, hcn⟩ := HG.out.nodes.row.get (by omega)
    obtain ⟨d0, d1, d2⟩ := nodes_cell hcn hlt
    have e1 := hxr.cell (HV.out.cell d1)
    have e2 := hxr.cell (HV.out.cell d2)
    have HX := Lib.hid hxr
    have HT := Lib.hid (bulk_snoc hlt)
    obtain ⟨f1, f2⟩ := HF.out _ (getD_mem (d := default) hlt)
    have ib1 : (k : Int) < (G.ns.length : Int) := by omega
    have ib0 : (0 : Int) ≤ (k : Int) := by omega
    have hs0 : Ext wr wr := Ext.refl wr
    rw [hA] at b0
    clear hcn d0 d1 d2 hA k0 hxr
    generalize G.ns.getD k default = x at *
    generalize bulk (G.ns.take k) = n at *
    obtain ⟨n1, n2⟩ := hbd
    have l0 : ∀ u : ExtOf wr, u.1.cell? ⟨V.heap.size, 0, none⟩ = some (.slice (some ⟨nb, noff, none⟩) G.ns.length G.ncap) := fun u => u.2.cell b0
    have l3 : ∀ u : ExtOf wr, u.1.cell? ⟨nb, noff + k * 3 + 1, none⟩ = some (.slice x.fA x.fields.length x.fcap) := fun u => u.2.cell e1
    have l4 : ∀ u : ExtOf wr, u.1.cell? ⟨nb, noff + k * 3 + 2, none⟩ = some (.slice x.rA x.raws.length x.rcap) := fun u => u.2.cell e2
    go_wp2_with fail
    (refine wp_region_ext (W := wr) (by kernel_rfl) (by kernel_rfl) (by with_reducible assumption) ?_; (repeat (go_big_quiet_step (fail))); refine wpQuiet_nil ?_; intro w1 hx)
    go_wp2_with fail
    go_roundw
    case rel => exact ⟨k + 1, by omega, by go_num, by rw [HT.out]; congr 1; omega, HX.out.trans hx⟩
    case measure => simp [intOf]; omega
end Go.Proofs.Ytphpppjfogpohaa

/- Lists of values, words and numbers held against one another; clones of values, words and nodes. -/
set_option linter.unusedSimpArgs false
set_option linter.unusedVariables false
namespace Go.Proofs.Ytphpppjfogpohaa
open Go.RowKit Go.Shelf

theorem nodeCells : Cells 3 nodeC := ⟨fun _ => rfl, fun x u h => by simp [nodeC] at h; rcases h with rfl | rfl | rfl <;> rfl⟩
theorem valInfo0 : (Try.prog.info? 53).map (fun i => (i.zero, i.size, i.bytes)) = some (some (.agg #[.int .i64 0, .int .i64 0]), 2, 16) := by kernel_rfl
theorem valInfo : Info Try.prog 23 53 2 16 :=
  ⟨Try.underlying23, by obtain ⟨i0, hi, hz0, hz1, hz2⟩ := info_parts valInfo0; exact ⟨i0, _, hi, hz0, hz1, hz2, rfl⟩, by decide⟩
theorem nodeInfo0 : (Try.prog.info? 51).map (fun i => (i.zero, i.size, i.bytes)) = some (some (.agg #[.int .i64 0, .slice none 0 0, .slice none 0 0]), 3, 56) := by kernel_rfl
theorem nodeInfo : Info Try.prog 22 51 3 56 :=
  ⟨Try.underlying22, by obtain ⟨i0, hi, hz0, hz1, hz2⟩ := info_parts nodeInfo0; exact ⟨i0, _, hi, hz0, hz1, hz2, rfl⟩, by decide⟩

set_option maxRecDepth 100000
set_option maxHeartbeats 4000000
theorem vals_any (A A2 : Option Addr) (cap cap2 : Nat) (xs ys : List (Int × Int)) (W : World) (hlen : xs.length ≤ 9223372036854775807) (hlen2 : ys.length ≤ 9223372036854775807) (hl : SpansAt W A xs) (hl2 : SpansAt W A2 ys) :
    Calls Try.prog 39 #[.slice A xs.length cap, .slice A2 ys.length cap2] W fun e w' => e = .returned (.bool (decide (xs = ys))) ∧ Ext W w' := by
  have HL := Lib.hid hl
  have HL2 := Lib.hid hl2
  clear hl hl2
  by_cases hne : xs.length = ys.length
  rotate_left
  · have h1 : ((xs.length : Int) != (ys.length : Int)) = true := by rw [bne_iff_ne]; omega
    have h2 : decide (xs = ys) = false := by simp; intro e; subst e; exact hne rfl
    have HR := Lib.hid h2
    clear h2 hne
    go_enter Try.func39, Try.ntmps39
    go_wp2_with fail
    go_ret
    exact ⟨ret_bool (by rw [HR.out]), Ext.refl _⟩
  have HN := Lib.hid hne
  have h1 : ((xs.length : Int) != (ys.length : Int)) = false := by rw [← HN.out]; simp
  clear hne
  go_enter Try.func39, Try.ntmps39
  go_wp2_with fail
  go_loopw [5] (fun i wr => ∃ k : Nat, k ≤ xs.length ∧ i = .int .i64 k ∧ Ext W wr ∧ Hid (∀ i, i < k → xs.getD i (0, 0) = ys.getD i (0, 0))) (fun i _ => xs.length - (intOf i).toNat)
  case atStart => exact ⟨0, by omega, rfl, Ext.refl _, Lib.hid (by omega)⟩
  case round =>
    obtain ⟨k, hk, rfl, hxr, hq⟩ := hrel
    by_cases hlt : k < xs.length
    rotate_left
    · have HR := Lib.hid (same_ofD HN.out (fun i hi => hq.out i (by omega)))
      clear hq
      go_wp2_with fail
      go_ret
      exact ⟨ret_bool (by simp [HR.out]), hxr⟩
    have hlt2 : k < ys.length := by have := HN.out; omega
    obtain ⟨lb, off, rfl, hc⟩ := HL.out.get (by omega)
    obtain ⟨lb2, off2, rfl, hc2⟩ := HL2.out.get (by omega)
    obtain ⟨e1, e2⟩ := spans_cell hc hlt
    obtain ⟨e3, e4⟩ := spans_cell hc2 hlt2
    have c1 := hxr.cell e1
    have c2 := hxr.cell e2
    have c3 := hxr.cell e3
    have c4 := hxr.cell e4
    have HS := Lib.hid (fun (h : xs.getD k (0, 0) = ys.getD k (0, 0)) => (fun i (hi : i < k + 1) => by
      rcases Nat.lt_or_ge i k with h' | h'
      · exact hq.out i h'
      · obtain rfl : i = k := by omega
        exact h : ∀ i, i < k + 1 → xs.getD i (0, 0) = ys.getD i (0, 0)))
    have HD := Lib.hid (fun (h : xs.getD k (0, 0) ≠ ys.getD k (0, 0)) => (fun e : xs = ys => h (by rw [e]) : xs ≠ ys))
    clear e1 e2 e3 e4 hc hc2 HL HL2 hq HN
    generalize xs.getD k (0, 0) = x at *
    generalize ys.getD k (0, 0) = y at *
    obtain ⟨a, s⟩ := x
    obtain ⟨c, d⟩ := y
    simp only at c1 c2 c3 c4
    have ib1 : (k : Int) < (xs.length : Int) := by omega
    have ib2 : (k : Int) < (ys.length : Int) := by omega
    have ib3 : (0 : Int) ≤ (k : Int) := by omega
    by_cases he : a = c ∧ s = d
    · obtain ⟨rfl, rfl⟩ := he
      go_wp2_with fail
      go_quiet (fail)
      go_wp2_with fail
      go_roundw
      case rel => exact ⟨k + 1, by omega, by go_num, hxr.drewN _, Lib.hid (HS.out (by first | rfl | trivial))⟩
      case measure => simp [intOf]; omega
    · have HE := Lib.hid (HD.out (by intro e; injection e with e1 e2; exact he ⟨e1, e2⟩))
      have hb : (a == c) = false ∨ (a = c ∧ (s == d) = false) := by
        by_cases h1 : a = c
        · exact .inr ⟨h1, by rw [beq_eq_false_iff_ne]; exact fun h => he ⟨h1, h⟩⟩
        · exact .inl (by rw [beq_eq_false_iff_ne]; exact h1)
      clear he HD HS
      rcases hb with hb | ⟨rfl, hb⟩
      all_goals
        go_wp2_with fail
        go_quiet (fail)
        go_wp2_with fail
        go_ret
        exact ⟨ret_bool (decide_eq_false HE.out).symm, hxr.drewN _⟩
theorem grefwords_any (A A2 : Option Addr) (cap cap2 : Nat) (xs ys : List Int) (W : World) (hlen : xs.length ≤ 9223372036854775807) (hlen2 : ys.length ≤ 9223372036854775807) (hl : WordsAt W A xs) (hl2 : WordsAt W A2 ys) :
    Calls Try.prog 40 #[.slice A xs.length cap, .slice A2 ys.length cap2] W fun e w' => e = .returned (.bool (decide (xs = ys))) ∧ Ext W w' := by
  have HL := Lib.hid hl
  have HL2 := Lib.hid hl2
  clear hl hl2
  by_cases hne : xs.length = ys.length
  rotate_left
  · have h1 : ((xs.length : Int) != (ys.length : Int)) = true := by rw [bne_iff_ne]; omega
    have h2 : decide (xs = ys) = false := by simp; intro e; subst e; exact hne rfl
    have HR := Lib.hid h2
    clear h2 hne
    go_enter Try.func40, Try.ntmps40
    go_wp2_with fail
    go_ret
    exact ⟨ret_bool (by rw [HR.out]), Ext.refl _⟩
  have HN := Lib.hid hne
  have h1 : ((xs.length : Int) != (ys.length : Int)) = false := by rw [← HN.out]; simp
  clear hne
  go_enter Try.func40, Try.ntmps40
  go_wp2_with fail
  go_loopw [5] (fun i wr => ∃ k : Nat, k ≤ xs.length ∧ i = .int .i64 k ∧ Ext W wr ∧ Hid (∀ i, i < k → xs.getD i 0 = ys.getD i 0)) (fun i _ => xs.length - (intOf i).toNat)
  case atStart => exact ⟨0, by omega, rfl, Ext.refl _, Lib.hid (by omega)⟩
  case round =>
    obtain ⟨k, hk, rfl, hxr, hq⟩ := hrel
    by_cases hlt : k < xs.length
    rotate_left
    · have HR := Lib.hid (same_ofD HN.out (fun i hi => hq.out i (by omega)))
      clear hq
      go_wp2_with fail
      go_ret
      exact ⟨ret_bool (by simp [HR.out]), hxr⟩
    have hlt2 : k < ys.length := by have := HN.out; omega
    obtain ⟨lb, off, rfl, hc⟩ := HL.out.get (by omega)
    obtain ⟨lb2, off2, rfl, hc2⟩ := HL2.out.get (by omega)
    have e1 := words_cell hc hlt
    have e3 := words_cell hc2 hlt2
    have c1 := hxr.cell e1
    have c3 := hxr.cell e3
    have HS := Lib.hid (fun (h : xs.getD k 0 = ys.getD k 0) => (fun i (hi : i < k + 1) => by
      rcases Nat.lt_or_ge i k with h' | h'
      · exact hq.out i h'
      · obtain rfl : i = k := by omega
        exact h : ∀ i, i < k + 1 → xs.getD i 0 = ys.getD i 0))
    have HD := Lib.hid (fun (h : xs.getD k 0 ≠ ys.getD k 0) => (fun e : xs = ys => h (by rw [e]) : xs ≠ ys))
    clear e1 e3 hc hc2 HL HL2 hq HN
    generalize xs.getD k 0 = x at *
    generalize ys.getD k 0 = y at *
    have ib1 : (k : Int) < (xs.length : Int) := by omega
    have ib2 : (k : Int) < (ys.length : Int) := by omega
    have ib3 : (0 : Int) ≤ (k : Int) := by omega
    by_cases he : x = y
    · obtain rfl := he
      go_wp2_with fail
      go_quiet (fail)
      go_wp2_with fail
      go_roundw
      case rel => exact ⟨k + 1, by omega, by go_num, hxr.drewN _, Lib.hid (HS.out (by first | rfl | trivial))⟩
      case measure => simp [intOf]; omega
    · have HE := Lib.hid (HD.out he)
      have hb : (x != y) = true := by rw [bne_iff_ne]; exact he
      clear he HD HS
      go_wp2_with fail
      go_quiet (fail)
      go_wp2_with fail
      go_ret
      exact ⟨ret_bool (decide_eq_false HE.out).symm, hxr.drewN _⟩
theorem equalV_any (A A2 : Option Addr) (cap cap2 : Nat) (xs ys : List (Int × Int)) (W : World) (hlen : xs.length ≤ 9223372036854775807) (hlen2 : ys.length ≤ 9223372036854775807) (hl : SpansAt W A xs) (hl2 : SpansAt W A2 ys) :
    Calls Try.prog 61 #[.slice A xs.length cap, .slice A2 ys.length cap2] W fun e w' => e = .returned (.bool (decide (xs = ys))) ∧ Ext W w' := by
  have HL := Lib.hid hl
  have HL2 := Lib.hid hl2
  clear hl hl2
  by_cases hne : xs.length = ys.length
  rotate_left
  · have h1 : ((xs.length : Int) != (ys.length : Int)) = true := by rw [bne_iff_ne]; omega
    have h2 : decide (xs = ys) = false := by simp; intro e; subst e; exact hne rfl
    have HR := Lib.hid h2
    clear h2 hne
    go_enter Try.func61, Try.ntmps61
    go_wp2_with fail
    go_ret
    exact ⟨ret_bool (by rw [HR.out]), Ext.refl _⟩
  have HN := Lib.hid hne
  have h1 : ((xs.length : Int) != (ys.length : Int)) = false := by rw [← HN.out]; simp
  clear hne
  go_enter Try.func61, Try.ntmps61
  go_wp2_with fail
  go_loopw [5, 13] (fun _ i wr => ∃ k : Nat, k ≤ xs.length ∧ i = .int .i64 k ∧ Ext W wr ∧ Hid (∀ i, i < k → xs.getD i (0, 0) = ys.getD i (0, 0))) (fun _ i _ => xs.length - (intOf i).toNat)
  case atStart => exact ⟨0, by omega, rfl, Ext.refl _, Lib.hid (by omega)⟩
  case round =>
    obtain ⟨k, hk, rfl, hxr, hq⟩ := hrel
    by_cases hlt : k < xs.length
    rotate_left
    · have HR := Lib.hid (same_ofD HN.out (fun i hi => hq.out i (by omega)))
      clear hq
      go_wp2_with fail
      go_ret
      exact ⟨ret_bool (by simp [HR.out]), hxr⟩
    have hlt2 : k < ys.length := by have := HN.out; omega
    obtain ⟨lb, off, rfl, hc⟩ := HL.out.get (by omega)
    obtain ⟨lb2, off2, rfl, hc2⟩ := HL2.out.get (by omega)
    obtain ⟨e1, e2⟩ := spans_cell hc hlt
    obtain ⟨e3, e4⟩ := spans_cell hc2 hlt2
    have c1 := hxr.cell e1
    have c2 := hxr.cell e2
    have c3 := hxr.cell e3
    have c4 := hxr.cell e4
    have HS := Lib.hid (fun (h : xs.getD k (0, 0) = ys.getD k (0, 0)) => (fun i (hi : i < k + 1) => by
      rcases Nat.lt_or_ge i k with h' | h'
      · exact hq.out i h'
      · obtain rfl : i = k := by omega
        exact h : ∀ i, i < k + 1 → xs.getD i (0, 0) = ys.getD i (0, 0)))
    have HD := Lib.hid (fun (h : xs.getD k (0, 0) ≠ ys.getD k (0, 0)) => (fun e : xs = ys => h (by rw [e]) : xs ≠ ys))
    clear e1 e2 e3 e4 hc hc2 HL HL2 hq HN
    generalize xs.getD k (0, 0) = x at *
    generalize ys.getD k (0, 0) = y at *
    obtain ⟨a, s⟩ := x
    obtain ⟨c, d⟩ := y
    simp only at c1 c2 c3 c4
    have ib1 : (k : Int) < (xs.length : Int) := by omega
    have ib2 : (k : Int) < (ys.length : Int) := by omega
    have ib3 : (0 : Int) ≤ (k : Int) := by omega
    by_cases he : a = c ∧ s = d
    · obtain ⟨rfl, rfl⟩ := he
      go_wp2_with fail
      go_quiet (fail)
      go_wp2_with fail
      go_roundw
      case rel => exact ⟨k + 1, by omega, by go_num, hxr.drewN _, Lib.hid (HS.out (by first | rfl | trivial))⟩
      case measure => simp [intOf]; omega
    · have HE := Lib.hid (HD.out (by intro e; injection e with e1 e2; exact he ⟨e1, e2⟩))
      have hb : (a == c) = false ∨ (a = c ∧ (s == d) = false) := by
        by_cases h1 : a = c
        · exact .inr ⟨h1, by rw [beq_eq_false_iff_ne]; exact fun h => he ⟨h1, h⟩⟩
        · exact .inl (by rw [beq_eq_false_iff_ne]; exact h1)
      clear he HD HS
      rcases hb with hb | ⟨rfl, hb⟩
      all_goals
        go_wp2_with fail
        go_quiet (fail)
        go_wp2_with fail
        go_ret
        exact ⟨ret_bool (decide_eq_false HE.out).symm, hxr.drewN _⟩
theorem equalU_any (A A2 : Option Addr) (cap cap2 : Nat) (xs ys : List Int) (W : World) (hlen : xs.length ≤ 9223372036854775807) (hlen2 : ys.length ≤ 9223372036854775807) (hl : WordsAt W A xs) (hl2 : WordsAt W A2 ys) :
    Calls Try.prog 64 #[.slice A xs.length cap, .slice A2 ys.length cap2] W fun e w' => e = .returned (.bool (decide (xs = ys))) ∧ Ext W w' := by
  have HL := Lib.hid hl
  have HL2 := Lib.hid hl2
  clear hl hl2
  by_cases hne : xs.length = ys.length
  rotate_left
  · have h1 : ((xs.length : Int) != (ys.length : Int)) = true := by rw [bne_iff_ne]; omega
    have h2 : decide (xs = ys) = false := by simp; intro e; subst e; exact hne rfl
    have HR := Lib.hid h2
    clear h2 hne
    go_enter Try.func64, Try.ntmps64
    go_wp2_with fail
    go_ret
    exact ⟨ret_bool (by rw [HR.out]), Ext.refl _⟩
  have HN := Lib.hid hne
  have h1 : ((xs.length : Int) != (ys.length : Int)) = false := by rw [← HN.out]; simp
  clear hne
  go_enter Try.func64, Try.ntmps64
  go_wp2_with fail
  go_loopw [5, 13] (fun _ i wr => ∃ k : Nat, k ≤ xs.length ∧ i = .int .i64 k ∧ Ext W wr ∧ Hid (∀ i, i < k → xs.getD i 0 = ys.getD i 0)) (fun _ i _ => xs.length - (intOf i).toNat)
  case atStart => exact ⟨0, by omega, rfl, Ext.refl _, Lib.hid (by omega)⟩
  case round =>
    obtain ⟨k, hk, rfl, hxr, hq⟩ := hrel
    by_cases hlt : k < xs.length
    rotate_left
    · have HR := Lib.hid (same_ofD HN.out (fun i hi => hq.out i (by omega)))
      clear hq
      go_wp2_with fail
      go_ret
      exact ⟨ret_bool (by simp [HR.out]), hxr⟩
    have hlt2 : k < ys.length := by have := HN.out; omega
    obtain ⟨lb, off, rfl, hc⟩ := HL.out.get (by omega)
    obtain ⟨lb2, off2, rfl, hc2⟩ := HL2.out.get (by omega)
    have e1 := words_cell hc hlt
    have e3 := words_cell hc2 hlt2
    have c1 := hxr.cell e1
    have c3 := hxr.cell e3
    have HS := Lib.hid (fun (h : xs.getD k 0 = ys.getD k 0) => (fun i (hi : i < k + 1) => by
      rcases Nat.lt_or_ge i k with h' | h'
      · exact hq.out i h'
      · obtain rfl : i = k := by omega
        exact h : ∀ i, i < k + 1 → xs.getD i 0 = ys.getD i 0))
    have HD := Lib.hid (fun (h : xs.getD k 0 ≠ ys.getD k 0) => (fun e : xs = ys => h (by rw [e]) : xs ≠ ys))
    clear e1 e3 hc hc2 HL HL2 hq HN
    generalize xs.getD k 0 = x at *
    generalize ys.getD k 0 = y at *
    have ib1 : (k : Int) < (xs.length : Int) := by omega
    have ib2 : (k : Int) < (ys.length : Int) := by omega
    have ib3 : (0 : Int) ≤ (k : Int) := by omega
    by_cases he : x = y
    · obtain rfl := he
      go_wp2_with fail
      go_quiet (fail)
      go_wp2_with fail
      go_roundw
      case rel => exact ⟨k + 1, by omega, by go_num, hxr.drewN _, Lib.hid (HS.out (by first | rfl | trivial))⟩
      case measure => simp [intOf]; omega
    · have HE := Lib.hid (HD.out he)
      have hb : (x != y) = true := by rw [bne_iff_ne]; exact he
      clear he HD HS
      go_wp2_with fail
      go_quiet (fail)
      go_wp2_with fail
      go_ret
      exact ⟨ret_bool (decide_eq_false HE.out).symm, hxr.drewN _⟩
theorem cloneV_any (A : Option Addr) (cap : Nat) (xs : List (Int × Int)) (W : World) (hlen : xs.length ≤ 8796093022208) (hl : RowAt 2 spanC W A xs) :
    Calls Try.prog 41 #[.slice A xs.length cap] W fun e w' => ∃ A1 cap1, e = .returned (.slice A1 xs.length cap1) ∧ Own 53 2 spanC w' W.heap.size (.slice A1 xs.length cap1) xs ∧ Ext W w' := by
  have HL := Lib.hid hl
  clear hl
  cases A with
  | none =>
    obtain rfl := row_none HL.out
    have he := fun w => Lib.run_eql_slice_nil (P := Try.prog) w 23 53 none 0 cap 0 0 Try.underlying23
    simp only [Option.isNone_none] at he
    simp only [List.length_nil]
    clear HL
    go_enter Try.func41, Try.ntmps41
    go_wp2_with fail
    go_ret
    exact ⟨none, 0, rfl, Own.nil _ _ _ _ _, Ext.refl _⟩
  | some ad =>
    have he := fun w => Lib.run_eql_slice_nil (P := Try.prog) w 23 53 (some ad) xs.length cap 0 0 Try.underlying23
    simp only [Option.isNone_some] at he
    go_enter Try.func41, Try.ntmps41
    go_wp2_with (at_builtin; refine wpList_app rfl (.tmp 5) (.tmp 6) 23 rfl valInfo spanCells rfl (by exact Own.empty 53 2 spanC W W.heap.size (Nat.le_refl _)) xs ad cap xs.length xs.length (by simp) rfl rfl (by exact RowAt.ext HL.out ((Ext.refl _).alloc _)) (by omega) (by simp [maxLen]; try omega) (by simp) ?_; intro A3 cap3 w3 hown3 hgr3 hat3; have HO3 := Lib.hid hown3; have hX3 : Ext W w3 := Own.below (Own.empty 53 2 spanC W W.heap.size (Nat.le_refl _)) ((Below.refl _ _).alloc (Nat.le_refl _) _) hgr3 (by simp); clear hown3 hgr3 hat3)
    go_ret
    exact ⟨A3, cap3, rfl, by simpa using HO3.out, hX3⟩
theorem cloneN_any (A : Option Addr) (cap : Nat) (xs : List NodeD) (W : World) (hlen : xs.length ≤ 2513169434843) (hl : RowAt 3 nodeC W A xs) :
    Calls Try.prog 55 #[.slice A xs.length cap] W fun e w' => ∃ A1 cap1, e = .returned (.slice A1 xs.length cap1) ∧ Own 51 3 nodeC w' W.heap.size (.slice A1 xs.length cap1) xs ∧ Ext W w' := by
  have HL := Lib.hid hl
  clear hl
  cases A with
  | none =>
    obtain rfl := row_none HL.out
    have he := fun w => Lib.run_eql_slice_nil (P := Try.prog) w 22 51 none 0 cap 0 0 Try.underlying22
    simp only [Option.isNone_none] at he
    simp only [List.length_nil]
    clear HL
    go_enter Try.func55, Try.ntmps55
    go_wp2_with fail
    go_ret
    exact ⟨none, 0, rfl, Own.nil _ _ _ _ _, Ext.refl _⟩
  | some ad =>
    have he := fun w => Lib.run_eql_slice_nil (P := Try.prog) w 22 51 (some ad) xs.length cap 0 0 Try.underlying22
    simp only [Option.isNone_some] at he
    go_enter Try.func55, Try.ntmps55
    go_wp2_with (at_builtin; refine wpList_app rfl (.tmp 5) (.tmp 6) 22 rfl nodeInfo nodeCells rfl (by exact Own.empty 51 3 nodeC W W.heap.size (Nat.le_refl _)) xs ad cap xs.length xs.length (by simp) rfl rfl (by exact RowAt.ext HL.out ((Ext.refl _).alloc _)) (by omega) (by simp [maxLen]; try omega) (by simp) ?_; intro A3 cap3 w3 hown3 hgr3 hat3; have HO3 := Lib.hid hown3; have hX3 : Ext W w3 := Own.below (Own.empty 51 3 nodeC W W.heap.size (Nat.le_refl _)) ((Below.refl _ _).alloc (Nat.le_refl _) _) hgr3 (by simp); clear hown3 hgr3 hat3)
    go_ret
    exact ⟨A3, cap3, rfl, by simpa using HO3.out, hX3⟩
end Go.Proofs.Ytphpppjfogpohaa

/- Where a node leads, and its reference. -/
set_option linter.unusedSimpArgs false
set_option linter.unusedVariables false
namespace Go.Proofs.Ytphpppjfogpohaa
open Go.RowKit Go.Shelf

/-- The values that lead somewhere. -/
def leadsL (l : List (Int × Int)) : List Int := (l.filter fun x => decide (x.1 = 2)).map (·.2)
theorem leads_snoc {l : List (Int × Int)} {k : Nat} (hk : k < l.length) : leadsL (l.take (k + 1)) = if (l.getD k (0, 0)).1 = 2 then leadsL (l.take k) ++ [(l.getD k (0, 0)).2] else leadsL (l.take k) := by
  rw [List.take_add_one, List.getElem?_eq_getElem hk]
  unfold leadsL
  rw [Option.toList_some, List.filter_append, List.map_append]
  have hg : l.getD k (0, 0) = l[k] := by simp [hk]
  rw [hg]
  by_cases h : l[k].1 = 2 <;> simp [h]
theorem leads_len (l : List (Int × Int)) : (leadsL l).length ≤ l.length := by unfold leadsL; rw [List.length_map]; exact List.length_filter_le _ _
def leadG (ns : List NodeD) (i : Int) : List Int := if 0 ≤ i ∧ i < ns.length then leadsL (ns.getD i.toNat default).fields else []
def LeadRel (V : World) (fs : List (Int × Int)) (v i : Value) (wr : World) : Prop :=
  ∃ (k n : Nat) (A1 : Option Addr) (cap1 : Nat), k ≤ fs.length ∧ i = .int .i64 k ∧ v = .slice A1 n cap1 ∧ n ≤ k ∧ (leadsL (fs.take k)).length = n ∧ Own 3 1 intC wr V.heap.size v (leadsL (fs.take k)) ∧ Ext V wr
/-- A slice of numbers of the call's own comes back. -/
def RetIG (W : World) (zs : List Int) (e : Ending) (w' : World) : Prop := ∃ A1 cap1, e = .returned (.slice A1 zs.length cap1) ∧ IntsAt w' A1 zs ∧ Ext W w'
theorem retI_of {V w : World} {zs : List Int} {A1 : Option Addr} {n cap1 : Nat} (hn : zs.length = n) (ho : Own 3 1 intC w V.heap.size (.slice A1 n cap1) zs) (hx : Ext V w) : RetIG V zs (.returned (.slice A1 n cap1)) w := by
  subst hn
  obtain ⟨A0, cap0, hv, hrow, -, -, -, -⟩ := Own.form ho intCells (by decide)
  injection hv with h1 h2 h3
  subst h1 h3
  exact ⟨_, _, rfl, hrow, hx⟩

set_option maxRecDepth 100000
set_option maxHeartbeats 4000000
end Go.Proofs.Ytphpppjfogpohaa

/- The reference's Leads; a number's place in a list. -/
set_option linter.unusedSimpArgs false
set_option linter.unusedVariables false
namespace Go.Proofs.Ytphpppjfogpohaa
open Go.RowKit Go.Shelf
set_option maxRecDepth 100000
set_option maxHeartbeats 4000000
/-- The first place of a number; -1. -/
def placeZ (l : List Int) (x : Int) : Int := match l.findIdx? (fun y => decide (y = x)) with
  | some i => i
  | none => -1
theorem place_hit {l : List Int} {x : Int} {k : Nat} (hk : k < l.length) (h : l.getD k 0 = x) (hq : ∀ i, i < k → l.getD i 0 ≠ x) : placeZ l x = k := by
  have : l.findIdx? (fun y => decide (y = x)) = some k := by
    rw [List.findIdx?_eq_some_iff_getElem]
    refine ⟨hk, by simpa [List.getElem?_eq_getElem hk] using h, fun j hj => ?_⟩
    have := hq j hj
    simpa [List.getElem?_eq_getElem (show j < l.length by omega)] using this
  simp [placeZ, this]
theorem place_miss {l : List Int} {x : Int} (hq : ∀ i, i < l.length → l.getD i 0 ≠ x) : placeZ l x = -1 := by
  have : l.findIdx? (fun y => decide (y = x)) = none := by
    rw [List.findIdx?_eq_none_iff]
    intro y hy
    obtain ⟨i, hi, rfl⟩ := List.getElem_of_mem hy
    simpa [List.getElem?_eq_getElem hi] using hq i hi
  simp [placeZ, this]
theorem place_cases (l : List Int) (x : Int) : (placeZ l x = -1 ∧ ∀ y ∈ l, y ≠ x) ∨ ∃ k : Nat, k < l.length ∧ placeZ l x = k ∧ l.getD k 0 = x ∧ ∀ i, i < k → l.getD i 0 ≠ x := by
  cases h : l.findIdx? (fun y => decide (y = x)) with
  | none =>
    refine .inl ⟨by simp [placeZ, h], fun y hy => ?_⟩
    have := List.findIdx?_eq_none_iff.1 h y hy
    simpa using this
  | some k =>
    obtain ⟨hk, h1, h2⟩ := List.findIdx?_eq_some_iff_getElem.1 h
    refine .inr ⟨k, hk, by simp [placeZ, h], by simpa [List.getElem?_eq_getElem hk] using h1, fun i hi => ?_⟩
    have := h2 i hi
    simpa [List.getElem?_eq_getElem (show i < l.length by omega)] using this
theorem place_any (A : Option Addr) (cap : Nat) (l : List Int) (x : Int) (W : World) (hlen : l.length ≤ 9223372036854775807) (hl : IntsAt W A l) :
    Calls Try.prog 59 #[.slice A l.length cap, .int .i64 x] W fun e w' => e = .returned (.int .i64 (placeZ l x)) ∧ Ext W w' := by
  have HL := Lib.hid hl
  clear hl
  go_enter Try.func59, Try.ntmps59
  go_wp2_with fail
  go_loopw [5] (fun i wr => ∃ k : Nat, k ≤ l.length ∧ i = .int .i64 k ∧ Ext W wr ∧ Hid (∀ i, i < k → l.getD i 0 ≠ x)) (fun i _ => l.length - (intOf i).toNat)
  case atStart => exact ⟨0, by omega, rfl, Ext.refl _, Lib.hid (by omega)⟩
  case round =>
    obtain ⟨k, hk, rfl, hxr, hq⟩ := hrel
    by_cases hlt : k < l.length
    rotate_left
    · have HR := Lib.hid (place_miss (l := l) (x := x) (fun i hi => hq.out i (by omega)))
      clear hq
      go_wp2_with fail
      go_ret
      exact ⟨ret_int HR.out.symm, hxr⟩
    obtain ⟨lb, off, rfl, hc⟩ := HL.out.get (by omega)
    have c1 := hxr.cell (ints_cell hc hlt)
    have HS := Lib.hid (fun (h : l.getD k 0 ≠ x) => (fun i (hi : i < k + 1) => by
      rcases Nat.lt_or_ge i k with h' | h'
      · exact hq.out i h'
      · obtain rfl : i = k := by omega
        exact h : ∀ i, i < k + 1 → l.getD i 0 ≠ x))
    have HH := Lib.hid (fun (h : l.getD k 0 = x) => place_hit hlt h hq.out)
    have ib1 : (k : Int) < (l.length : Int) := by omega
    clear hc HL hq
    generalize l.getD k 0 = y at *
    by_cases he : y = x
    · have HR := Lib.hid (HH.out he)
      subst he
      clear HH HS
      go_wp2_with fail
      go_ret
      exact ⟨ret_int HR.out.symm, hxr⟩
    · have HR := Lib.hid (HS.out he)
      have hb : (y == x) = false := by simpa using he
      clear HH HS he
      go_wp2_with fail
      go_roundw
      case rel => exact ⟨k + 1, by omega, by go_num, hxr, HR⟩
      case measure => simp [intOf]; omega
end Go.Proofs.Ytphpppjfogpohaa

/- The reference's turn: values whose references lead to where nodes are now. -/
set_option linter.unusedSimpArgs false
set_option linter.unusedVariables false
namespace Go.Proofs.Ytphpppjfogpohaa
open Go.RowKit Go.Shelf

def turned (o : List Int) (v : Int × Int) : Int × Int := if v.1 = 2 then (2, placeZ o v.2) else v
def lostV (o : List Int) (v : Int × Int) : Bool := decide (v.1 = 2 ∧ placeZ o v.2 < 0)
theorem place_ge (l : List Int) (x : Int) : -1 ≤ placeZ l x ∧ placeZ l x < l.length := by
  rcases place_cases l x with ⟨h, _⟩ | ⟨k, hk, h, _⟩ <;> omega
theorem ret_slice_bool {a b : Value} {x y : Bool} (h : a = b) (h2 : x = y) : Ending.returned (.tuple #[a, .bool x]) = .returned (.tuple #[b, .bool y]) := by rw [h, h2]
def TurnRel (V : World) (l : List (Int × Int)) (o : List Int) (v i : Value) (wr : World) : Prop :=
  ∃ (k n : Nat) (A1 : Option Addr) (cap1 : Nat), k ≤ l.length ∧ i = .int .i64 k ∧ v = .slice A1 n cap1 ∧ n = k ∧ Own 53 2 spanC wr V.heap.size v ((l.take k).map (turned o)) ∧ Ext V wr ∧ ∀ i, i < k → lostV o (l.getD i (0, 0)) = false
def RetT (W : World) (l : List (Int × Int)) (o : List Int) (e : Ending) (w' : World) : Prop :=
  Ext W w' ∧ ((l.any (lostV o) = true ∧ e = .returned (.tuple #[.slice none 0 0, .bool false])) ∨
    (l.any (lostV o) = false ∧ ∃ A1 cap1, e = .returned (.tuple #[.slice A1 (l.map (turned o)).length cap1, .bool true]) ∧ Own 53 2 spanC w' W.heap.size (.slice A1 (l.map (turned o)).length cap1) (l.map (turned o))))
theorem lost_all {o : List Int} {l : List (Int × Int)} (h : ∀ i, i < l.length → lostV o (l.getD i (0, 0)) = false) : l.any (lostV o) = false := by
  rw [List.any_eq_false]
  intro x hx
  obtain ⟨i, hi, rfl⟩ := List.getElem_of_mem hx
  have := h i hi
  simpa [List.getElem?_eq_getElem hi] using this
theorem lost_one {o : List Int} {l : List (Int × Int)} {k : Nat} (hk : k < l.length) (h : lostV o (l.getD k (0, 0)) = true) : l.any (lostV o) = true := List.any_eq_true.2 ⟨_, getD_mem hk, h⟩
theorem retT_of {V w : World} {l : List (Int × Int)} {o : List Int} {A1 : Option Addr} {n cap1 : Nat} (hn : n = l.length) (hl : l.any (lostV o) = false) (ho : Own 53 2 spanC w V.heap.size (.slice A1 n cap1) (l.map (turned o))) (hx : Ext V w) :
    RetT V l o (.returned (.tuple #[.slice A1 n cap1, .bool true])) w := by
  subst hn
  exact ⟨hx, .inr ⟨hl, A1, cap1, by rw [List.length_map], by rw [List.length_map]; exact ho⟩⟩

set_option maxRecDepth 100000
set_option maxHeartbeats 4000000
theorem turn_any (A A2 : Option Addr) (cap cap2 : Nat) (l : List (Int × Int)) (o : List Int) (V : World) (hlen : l.length ≤ 8796093022208) (holen : o.length ≤ 9223372036854775807) (hl : SpansAt V A l) (ho : IntsAt V A2 o) :
    Calls Try.prog 60 #[.slice A l.length cap, .slice A2 o.length cap2] V (RetT V l o) := by
  have HL := Lib.hid hl
  have HO2 := Lib.hid ho
  clear hl ho
  go_enter Try.func60, Try.ntmps60
  go_wp2_with fail
  go_loopw [6, 7] (fun v i wr => TurnRel V l o v i wr) (fun _ i _ => l.length - (intOf i).toNat)
  case atStart => exact ⟨0, 0, none, 0, by omega, rfl, rfl, rfl, Own.nil _ _ _ _ _, Ext.refl _, by omega⟩
  case round =>
    obtain ⟨k, n, A1, cap1, hk, rfl, rfl, hnk, hown, hE, hq⟩ := hrel
    have HO := Lib.hid hown
    have HE := Lib.hid hE
    have HQ := Lib.hid hq
    have HN := Lib.hid hnk
    clear hown hq
    by_cases hlt : k < l.length
    rotate_left
    · obtain rfl : k = l.length := by omega
      clear hnk
      go_wp2_with fail
      go_ret2
      have ho := HO.out
      rw [List.take_length] at ho
      exact retT_of HN.out (lost_all HQ.out) ho hE
    obtain ⟨lb, off, rfl, hc⟩ := HL.out.get (by omega)
    obtain ⟨f1, f2⟩ := spans_cell hc hlt
    have c1 := HE.out.cell f1
    have c2 := HE.out.cell f2
    have HT := Lib.hid (map_snoc (f := turned o) (d := (0, 0)) hlt)
    have HL1 := Lib.hid (fun h => lost_one (o := o) hlt h)
    have HQ1 := Lib.hid (fun (h : lostV o (l.getD k (0, 0)) = false) => (fun i (hi : i < k + 1) => by
      rcases Nat.lt_or_ge i k with h' | h'
      · exact HQ.out i h'
      · obtain rfl : i = k := by omega
        exact h : ∀ i, i < k + 1 → lostV o (l.getD i (0, 0)) = false))
    have ib1 : (k : Int) < (l.length : Int) := by omega
    have ib0 : (0 : Int) ≤ (k : Int) := by omega
    have hsz : V.heap.size ≤ wr.heap.size := Ext.size HE.out
    have hnl : n < 8796093022208 := by omega
    clear hc f1 f2 hE hnk HQ
    generalize l.getD k (0, 0) = y at *
    obtain ⟨p, q⟩ := y
    simp only at c1 c2 HT
    by_cases hp : p = 2
    · subst hp
      have hpg := place_ge o q
      have HW := Lib.hid (show turned o (2, q) = (2, placeZ o q) by simp [turned])
      have HB := Lib.hid (show lostV o (2, q) = decide (placeZ o q < 0) by simp [lostV])
      go_wp2_with fail
      refine (place_any A2 cap2 o q _ holen (HO2.out.ext (HE.out.alloc _))).mono ?_
      rintro e w1 ⟨rfl, hx⟩
      generalize placeZ o q = z at *
      obtain ⟨z1, z2⟩ := hpg
      have hb : w1.heap[wr.heap.size]? = some (.cells #[.int .i64 2, .int .i64 q] 53 (0, 0)) := (hx.block (by simp)).trans (World.alloc_heap_new _ _)
      have HX := Lib.hid (HE.out.trans (((Ext.refl wr).alloc _).trans hx))
      by_cases hz : z < 0
      · have hd : decide (z < 0) = true := by simpa using hz
        have HR := Lib.hid (HL1.out (HB.out.trans hd))
        go_wp2_with fail
        go_ret2
        exact ⟨HX.out, .inl ⟨HR.out, rfl⟩⟩
      · have hd : decide (z < 0) = false := by simpa using hz
        have HR := Lib.hid (HQ1.out (HB.out.trans hd))
        have g0 : w1.cell? ⟨wr.heap.size, 0, none⟩ = some (.int .i64 2) := by simp [World.cell?, hb]
        have g1 : w1.cell? ⟨wr.heap.size, 1, none⟩ = some (.int .i64 q) := by simp [World.cell?, hb]
        have g2 : w1.frozen? ⟨wr.heap.size, 1, none⟩ = false := by simp [World.frozen?, hb]
        have HOw := Lib.hid (show Own 53 2 spanC (w1.setCell ⟨wr.heap.size, 1, none⟩ (.int .i64 z)) V.heap.size (.slice A1 n cap1) ((l.take k).map (turned o)) from
          (HO.out.ext (((Ext.refl wr).alloc _).trans hx)).same fun g cs t r hg hc => (Below.heap_setCell w1 ⟨wr.heap.size, 1, none⟩ _ g (fun e => by simp only at e; have := (World.ownsRow.lt HO.out g hg).2; omega)).trans hc)
        have HXS := Lib.hid (HX.out.setCell (p := ⟨wr.heap.size, 1, none⟩) hsz (.int .i64 z))
        have hsz2 : wr.heap.size < w1.heap.size := by have := Ext.size hx; simp at this; omega
        have HXX := Lib.hid hx
        clear hx hb HL1 HQ1
        go_wp2_with (at_builtin; refine wpList_app_lit rfl (.tmp 31) (.tmp 33) 23 rfl valInfo spanCells rfl (by exact HOw.out) [(2, z)] 1 _ rfl (n + 1) 1 (by rw [List.length_map, List.length_take]; have := HN.out; simp only [List.length_cons, List.length_nil]; omega) rfl _ rfl (by first | rfl | simp) (by omega) (by simp [maxLen]; try omega) (by simp; omega) ?_; intro A4 cap4 w4 hown4 hgr4 hat4; have HO4 := Lib.hid hown4; have hE4 : Ext V w4 := Own.below HOw.out (Below.alloc HXS.out (by simp; omega) _) hgr4 (by simp; omega); clear hown4 hgr4 hat4)
        go_roundw
        case rel => exact ⟨k + 1, n + 1, A4, cap4, by omega, by go_num, rfl, by have := HN.out; omega, by rw [HT.out, HW.out]; exact HO4.out, hE4, HR.out⟩
        case measure => simp [intOf]; omega
    · have hb : (p == 2) = false := by simpa using hp
      have HW := Lib.hid (show turned o (p, q) = (p, q) by simp [turned, hp])
      have HR := Lib.hid (HQ1.out (by simp [lostV, hp]))
      clear hp HL1 HQ1
      go_wp2_with (at_builtin; refine wpList_app_lit rfl (.tmp 31) (.tmp 33) 23 rfl valInfo spanCells rfl (by exact HO.out.ext ((Ext.refl _).alloc _)) [(p, q)] 1 _ rfl (n + 1) 1 (by rw [List.length_map, List.length_take]; have := HN.out; simp only [List.length_cons, List.length_nil]; omega) rfl _ rfl (by first | rfl | simp) (by omega) (by simp [maxLen]; try omega) (by simp; omega) ?_; intro A4 cap4 w4 hown4 hgr4 hat4; have HO4 := Lib.hid hown4; have hE4 : Ext V w4 := Own.below HO.out (Below.alloc (Below.alloc HE.out hsz _) (by simp; omega) _) hgr4 (by simp; omega); clear hown4 hgr4 hat4)
      go_roundw
      case rel => exact ⟨k + 1, n + 1, A4, cap4, by omega, by go_num, rfl, by have := HN.out; omega, by rw [HT.out, HW.out]; exact HO4.out, hE4, HR.out⟩
      case measure => simp [intOf]; omega
end Go.Proofs.Ytphpppjfogpohaa

