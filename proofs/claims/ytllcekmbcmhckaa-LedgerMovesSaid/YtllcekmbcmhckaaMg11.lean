/- Merged by program (merge.py) out of: JoinX. -/
import Derived.Shelf.Abstract
import Derived.Test.YtllcekmbcmhckaaMg10
/- The walk of span.Join. -/
set_option linter.unusedSimpArgs false
set_option linter.unusedVariables false
namespace Go.Proofs.Ytllcekmbcmhckaa
open Go.RowKit Go.Shelf
attribute [local go_sem] Oper.semAt_some

theorem joinL_length (xs : List (Int × Int)) : (joinL xs).length ≤ xs.length := by
  have := join_length (sortS xs)
  rw [sortS_length] at this
  exact this

set_option maxRecDepth 100000 in
set_option maxHeartbeats 4000000 in
theorem join_any (A : Option Addr) (cap : Nat) (xs : List (Int × Int)) (V : World) (hlen : xs.length ≤ 1000000) (hl : SpansAt V A xs) :
    Calls Try.prog 29 #[.slice A xs.length cap] V (RetS V V.heap.size (joinL xs)) := by
  refine (callsIn_wide (n := 5)).1 ?_
  have hro : Fence.wide.round = none := rfl
  refine callsIn_of_wp_marks Try.func29 rfl trivial ?_ hro
  simp only [Try.ntmps29, List.size_toArray, List.length_cons, List.length_nil, Nat.reduceAdd, Nat.reduceSub, Array.replicate_succ, Array.replicate_zero, List.push_toArray, List.append_toArray, List.nil_append, List.cons_append]
  gi_wp2_with (refine ⟨trivial, ?_⟩; gi_at_call 62; refine (callsIn_wide.2 (rows_any _ _ _ _)).mono ?_; rintro e w' ⟨rfl, rfl⟩)
  have hw0 : Ext V ((V.alloc (.cells #[.slice none 0 0] 29)).alloc (.cells #[.slice A xs.length cap] 29)) := ((Ext.refl _).alloc _).alloc _
  have hws : ((V.alloc (.cells #[.slice none 0 0] 29)).alloc (.cells #[.slice A xs.length cap] 29)).heap.size = V.heap.size + 2 := by simp
  have hbo : ((V.alloc (.cells #[.slice none 0 0] 29)).alloc (.cells #[.slice A xs.length cap] 29)).heap[V.heap.size]? = some (.cells #[.slice none 0 0] 29 (0, 0)) := (Below.heap_alloc _ _ _ (by simp)).trans (World.alloc_heap_new _ _)
  have hbl : ((V.alloc (.cells #[.slice none 0 0] 29)).alloc (.cells #[.slice A xs.length cap] 29)).heap[V.heap.size + 1]? = some (.cells #[.slice A xs.length cap] 29 (0, 0)) := by
    have := World.alloc_heap_new (V.alloc (.cells #[.slice none 0 0] 29)) (.cells #[.slice A xs.length cap] 29)
    simpa using this
  generalize (V.alloc (.cells #[.slice none 0 0] 29)).alloc (.cells #[.slice A xs.length cap] 29) = w0 at *
  have hjl := joinL_length xs
  refine wpIn_range (gf := 82) (lb := #[.pointer (some ⟨V.heap.size + 1, 0, none⟩)]) rfl (enters_of Try.func82 (by kernel_rfl) rfl)
    (rows1_stops V.heap.size (V.heap.size + 1) V.heap.size A cap xs w0 hlen (by omega) (by omega) (by simp [World.cell?, hbl]) (hl.ext hw0) (by omega) (by simp [World.cell?, hbo]))
    (by omega) (fun _ => rfl)
    (fun pre W => (∃ v, Coll w0.heap.size V.heap.size 29 pre W v) ∧ Ext V W ∧ w0.heap.size ≤ W.heap.size) (fun _ _ _ => False)
    (fun s A B h hab => ⟨h.1.imp fun v hv => hv.abI (by omega) hab, Below.trans h.2.1 (Below.mono hab.below (by omega)), Nat.le_trans h.2.2 hab.below.size⟩)
    (fun _ _ _ _ h _ => h)
    ⟨⟨_, hbo, Own.nil _ _ _ _ _⟩, hw0, Nat.le_refl _⟩
    (fun pre x a' W => (∃ v, Coll w0.heap.size V.heap.size 29 pre W v) ∧ Ext V W ∧ ∃ X, w0.heap.size ≤ X ∧ W.heap[X]? = some (.cells #[.int .i64 x.1, .int .i64 x.2] 23 (0, 0)) ∧
      a' = { tmps := #[.slice A xs.length cap, undef, .slice none 0 0, .pointer (some ⟨V.heap.size, 0, none⟩), .pointer (some ⟨X, 0, none⟩), .slice A xs.length cap, .func (.func 82) #[] #[.pointer (some ⟨V.heap.size + 1, 0, none⟩)], .agg #[.int .i64 (x.1), .int .i64 (x.2)], undef, undef, undef, undef, undef], defers := [] })
    ?hax ?assign ?body ?done ?stop
  case hax =>
    rintro pre x a' A B ⟨⟨v, hv⟩, hE, X, hX, hbX, rfl⟩ hb hk
    exact ⟨⟨v, hv.keep (by omega) hk⟩, Below.trans hE (Below.mono hb (by omega)), X, hX, hk X _ hbX rfl, rfl⟩
  case assign =>
    rintro l pre x W K ⟨⟨v, hv⟩, hE, hS⟩ hK
    have hlt := lt_of_heap hv.box
    have hsz := Ext.size hE
    gi_wp2
    refine hK _ _ ⟨⟨v, hv.ext ((Ext.refl W).alloc _)⟩, hE.alloc _, W.heap.size, hS, World.alloc_heap_new _ _, rfl⟩ ((KeepsOthers.alloc _ _).from _) (Kp.ext ((Below.refl _ W).alloc (Nat.le_refl _) _) (by omega) hlt)
  case body =>
    rintro l pre x a' W ⟨⟨v, hv⟩, hE, X, hX, hbX, rfl⟩ hgd
    have hlt : pre.length < (joinL xs).length := by have := hgd.length_le; simp at this; omega
    clear hgd
    obtain ⟨c1, c2⟩ := hv.cell
    have g0 : W.cell? ⟨X, 0, none⟩ = some (.int .i64 x.1) := by simp [World.cell?, hbX]
    have g1 : W.cell? ⟨X, 1, none⟩ = some (.int .i64 x.2) := by simp [World.cell?, hbX]
    have hsz := Ext.size hE
    have hltX := lt_of_heap hbX
    have HB := Lib.hid hbX
    have HV := Lib.hid hv
    clear hbX hv
    gi_wp2_with (gi_at_builtin; refine wpListIn_app_lit rfl (.tmp 8) (.tmp 10) 29 rfl spanInfo spanCells rfl (by exact HV.out.own) [x] 1 _ rfl (pre.length + 1) 1 (by simp) rfl W.heap.size rfl rfl (by omega) (by simp [maxLen]; omega) (by omega) ?_; intro A1 cap1 w1 hown1 hgr1 hat1; obtain ⟨⟨d1, d2⟩, hc2, hk2, hf2, -⟩ := Coll.app (HV.out.ext ((Ext.refl W).alloc _)) (by omega) (nV := V.heap.size) (Nat.le_refl _) (by simp; omega) (by simp) hown1 hgr1 hat1; have HC2 := Lib.hid hc2; have HK2 := Lib.hid hk2; have HF2 := Lib.hid hf2; clear hc2 hk2 hf2 hown1 hgr1 hat1)
    have hk0 : Kp V.heap.size w0.heap.size V.heap.size W (W.alloc (.cells #[.int .i64 x.1, .int .i64 x.2] 23)) := Kp.ext ((Below.refl _ W).alloc (Nat.le_refl _) _) (by omega) (by omega)
    exact ⟨KeepsFrom.trans ((KeepsOthers.alloc _ _).from _) HF2.out, hk0.trans HK2.out, ⟨_, HC2.out⟩, Below.trans hE (hk0.trans HK2.out).below, by have := (hk0.trans HK2.out).below.size; omega⟩
  case done =>
    rintro D ys W hD rfl ⟨⟨v, hv⟩, hE, hS⟩ hK
    obtain ⟨c1, c2⟩ := hv.cell
    have HV := Lib.hid hv
    clear hv
    gi_wp2
    refine ⟨by simp, .inl ⟨_, _, rfl, run_takeDeferred hK, ?_⟩⟩
    have hab : AbI w0.heap.size V.heap.size W (W.putObj D (.deferred none)) := AbI.putObj hD hK rfl
    exact ⟨_, results_tmp rfl _ _ _, v, rfl, (HV.out.abI (by omega) hab).own.mono (by omega), Below.trans hE (Below.mono hab.below (by omega))⟩
  case stop =>
    rintro D c pre W _ _ h _
    exact h.elim
end Go.Proofs.Ytllcekmbcmhckaa

