/- Graphs of a call's own; append at an operation of a tree. -/
import Derived.Test.YtidfibheehcdgaaGraM
set_option linter.unusedSimpArgs false
set_option linter.unusedVariables false
namespace Go.Proofs.Ytidfibheehcdgaa
open Go.RowKit Go.Shelf

section
variable {α β : Type} {e e2 : TypeId} {n n2 : Nat} {f : α → List Value} {g : β → List Value} {B B2 : Nat} {v v2 : Value} {xs ys : List α} {zs : List β} {w w' : World} {P : Program} {t : TypeId} {bytes : Nat}
theorem Own.apart (h : Own e n f w B v xs) (h2 : Own e2 n2 g w B2 v2 zs) (hne : e ≠ e2) : v.ownBlock = none ∨ v.ownBlock ≠ v2.ownBlock := by
  rcases h.2 with ⟨rfl, _⟩ | ⟨b, cap, cur, rfl, hb, hg, _⟩
  · exact .inl rfl
  · refine .inr fun heq => ?_
    rcases h2.2 with ⟨rfl, _⟩ | ⟨b2, cap2, cur2, rfl, hb2, hg2, _⟩
    · cases heq
    · have : b = b2 := by simpa [Value.ownBlock] using heq
      subst this
      rw [hg] at hg2
      cases hg2
      exact hne rfl
theorem Own.keep2 (h : Own e n f w B v xs) (h2 : Own e2 n2 g w B2 v2 zs) (hne : e ≠ e2) (hg : w.grownBy w' v2.ownBlock) : Own e n f w' B v xs := h.kept hg (h.apart h2 hne)
theorem Own.setOther (h : Own e n f w B v xs) {Bo i : Nat} {u : Value} {ws : Array Value} {t : TypeId} {r : Nat × Nat} (hb : w.heap[Bo]? = some (.cells ws t r)) (hne : t ≠ e) : Own e n f (w.setCell ⟨Bo, i, none⟩ u) B v xs :=
  h.same fun g cs ty rr hg hc => (Below.heap_setCell w ⟨Bo, i, none⟩ u g (fun heq => by
    simp only at heq
    subst heq
    rcases h.2 with ⟨hv, _⟩ | ⟨b, cap, cur, hv, _, hg2, _⟩
    · rw [hv] at hg; cases hg
    · rw [hv] at hg
      have : b = g := by simpa [Value.ownBlock] using hg
      subst this
      rw [hb] at hg2
      cases hg2
      exact hne rfl)).trans hc
theorem wp_app_src {o : Oper} {a : Act} {K : Act → World → Prop} {Q : Exit → Act → World → Prop} (s x : Operand) (t : TypeId)
    (ho : o.op = .call { callee := .builtin .append, args := #[s, x], argTypes := #[t, t] }) (hI : Info P t e n bytes) (hf : Cells n f)
    (hs : a.eval s = v) (hown : Own e n f w B v xs) (ys : List α) (A : Option Addr) (c : Nat) (hA : A = none → c = 0) (r m : Nat) (hk : xs.length + ys.length = r) (hm : ys.length = m) (hx : a.eval x = .slice A m c) (hr : RowAt n f w A ys)
    (hlen : r * bytes ≤ 140737488355328) (h63 : r ≤ maxLen) (hB : B ≤ w.heap.size)
    (h : ∀ A cap w', Own e n f w' B (.slice A r cap) (xs ++ ys) → w.grownBy w' v.ownBlock →
      ((Value.slice A r cap).ownBlock = v.ownBlock ∨ (Value.slice A r cap).ownBlock = some w.heap.size) →
      K (a.put o.dst (.slice A r cap)) w') : o.wp P a w K Q := by
  cases A with
  | some ad => exact wp_app s x t ho hI hf hs hown ad c ys r m hk hm hx hr hlen h63 hB h
  | none =>
    obtain rfl := row_none hr
    subst hm
    obtain rfl := hA rfl
    obtain ⟨A0, cap0, rfl, _⟩ := hown.form hf hI.pos
    simp only [List.length_nil, Nat.add_zero] at hk
    subst hk
    obtain ⟨i, z, hi, hz, hsz, hby, hzs⟩ := hI.inf
    have hrun := run_append_owned_none (P := P) (w := w) B t o.type e i n hI.und hi _ xs.length _ hown
    have hh := h A0 cap0 w (by simpa using hown) (World.grownBy.refl _ _) (.inl rfl)
    unfold Oper.wp execOp
    simp only [ho, resolve, invoke, builtin, Sem.run_bind, Sem.run_pure, Result.andThen_ok, List.map_toArray, List.map_cons, List.map_nil, hs, hx, List.length_nil, hrun]
    exact hh
theorem wpList_src {ops : Array Oper} {rest : List Oper} {o : Oper} {a : Act} {Q : Exit → Act → World → Prop} (hgd : o.guard = none) (s x : Operand) (t : TypeId)
    (ho : o.op = .call { callee := .builtin .append, args := #[s, x], argTypes := #[t, t] }) (hI : Info P t e n bytes) (hf : Cells n f)
    (hs : a.eval s = v) (hown : Own e n f w B v xs) (ys : List α) (A : Option Addr) (c : Nat) (hA : A = none → c = 0) (r m : Nat) (hk : xs.length + ys.length = r) (hm : ys.length = m) (hx : a.eval x = .slice A m c) (hr : RowAt n f w A ys)
    (hlen : r * bytes ≤ 140737488355328) (h63 : r ≤ maxLen) (hB : B ≤ w.heap.size)
    (h : ∀ A cap w', Own e n f w' B (.slice A r cap) (xs ++ ys) → w.grownBy w' v.ownBlock →
      ((Value.slice A r cap).ownBlock = v.ownBlock ∨ (Value.slice A r cap).ownBlock = some w.heap.size) →
      wpList P ops Q rest (a.put o.dst (.slice A r cap)) w') : wpList P ops Q (o :: rest) a w :=
  wpList_plain hgd fun _ hK => wp_app_src s x t ho hI hf hs hown ys A c hA r m hk hm hx hr hlen h63 hB fun A cap w' h2 h3 h4 => hK _ _ (h A cap w' h2 h3 h4)
end

structure OwnN (w : World) (B : Nat) (x : NodeD) : Prop where
  f : Own 46 2 spanC w B (.slice x.fA x.fields.length x.fcap) x.fields
  r : Own 47 1 u64C w B (.slice x.rA x.raws.length x.rcap) x.raws
structure OwnG (w : World) (B : Nat) (G : GraphD) : Prop where
  nodes : Own 34 3 nodeC w B (.slice G.nA G.ns.length G.ncap) G.ns
  each : ∀ x ∈ G.ns, OwnN w B x
  roots : Own 46 2 spanC w B (.slice G.rA G.rs.length G.rcap) G.rs
theorem own_row {α : Type} {e : TypeId} {n : Nat} {f : α → List Value} {w : World} {B : Nat} {A : Option Addr} {cap : Nat} {xs : List α} (h : Own e n f w B (.slice A xs.length cap) xs) (hf : Cells n f) (hn : 0 < n) :
    RowAt n f w A xs ∧ (A = none → cap = 0) ∧ xs.length ≤ cap := by
  obtain ⟨A0, cap0, hv, hrow, hnn, -, hcap, -⟩ := h.form hf hn
  injection hv with h1 h2 h3
  subst h1 h3
  exact ⟨hrow, hnn, hcap⟩
theorem OwnN.at {w : World} {B : Nat} {x : NodeD} (h : OwnN w B x) : NodeAt w x := ⟨(own_row h.f spanCells (by decide)).1, (own_row h.r u64Cells (by decide)).1⟩
theorem OwnG.at {w : World} {B : Nat} {G : GraphD} (h : OwnG w B G) : GraphAt w G :=
  ⟨⟨(own_row h.nodes nodeCells (by decide)).1, fun x hx => (h.each x hx).at⟩, (own_row h.roots spanCells (by decide)).1⟩
theorem OwnN.ext {w w' : World} {B : Nat} {x : NodeD} (h : OwnN w B x) (hx : Ext w w') : OwnN w' B x := ⟨h.f.ext hx, h.r.ext hx⟩
theorem OwnN.mono {w : World} {B B' : Nat} {x : NodeD} (h : OwnN w B x) (hb : B' ≤ B) : OwnN w B' x := ⟨h.f.mono hb, h.r.mono hb⟩
/-- Nodes are appended elsewhere. -/
theorem OwnN.kept {w w' : World} {B B2 : Nat} {x : NodeD} {v2 : Value} {zs : List NodeD} (h : OwnN w B x) (h2 : Own 34 3 nodeC w B2 v2 zs) (hg : w.grownBy w' v2.ownBlock) : OwnN w' B x :=
  ⟨h.f.keep2 h2 (by decide) hg, h.r.keep2 h2 (by decide) hg⟩
theorem map_mem {ns ms : List NodeD} (h : ms.map nodeV = ns.map nodeV) {x : NodeD} (hx : x ∈ ms) : ∃ y ∈ ns, nodeV x = nodeV y := by
  have : nodeV x ∈ ms.map nodeV := List.mem_map.2 ⟨x, hx, rfl⟩
  rw [h] at this
  obtain ⟨y, hy, e⟩ := List.mem_map.1 this
  exact ⟨y, hy, e.symm⟩
theorem OwnG.ok {w : World} {B : Nat} {G H : GraphD} (h : OwnG w B H) (hv : H.ns.map nodeV = G.ns.map nodeV) (hr : H.rs = G.rs) (oG : GraphOk G) : GraphOk H := by
  have hl : H.ns.length = G.ns.length := by simpa using congrArg List.length hv
  obtain ⟨_, n1, n2⟩ := own_row h.nodes nodeCells (by decide)
  obtain ⟨_, r1, r2⟩ := own_row h.roots spanCells (by decide)
  refine ⟨by rw [hl]; exact oG.nl, by rw [hr]; exact oG.rl, n1, r1, n2, r2, fun x hx => ?_, by rw [hr]; exact oG.rv⟩
  obtain ⟨y, hy, e⟩ := map_mem hv hx
  have oy := oG.each y hy
  simp only [nodeV, Prod.mk.injEq] at e
  obtain ⟨e1, e2, e3⟩ := e
  obtain ⟨_, f1, f2⟩ := own_row (h.each x hx).f spanCells (by decide)
  obtain ⟨_, g1, g2⟩ := own_row (h.each x hx).r u64Cells (by decide)
  exact ⟨by rw [e1]; exact oy.kind, by rw [e2]; exact oy.fl, by rw [e3]; exact oy.rl, f1, g1, f2, g2, by rw [e2]; exact oy.fv, by rw [e3]; exact oy.rv⟩
theorem map_nodeV_snoc {ns cs : List NodeD} {k : Nat} {x : NodeD} (hk : k < ns.length) (h : cs.map nodeV = (ns.take k).map nodeV) (hx : nodeV x = nodeV (ns.getD k default)) : (cs ++ [x]).map nodeV = (ns.take (k + 1)).map nodeV := by
  rw [map_snoc (d := default) hk, List.map_append, h, ← hx]
  rfl
/-- What a copying loop keeps: the given graph's box, the result's, and the new graph's. -/
structure CopI (V : World) (Bo : Nat) (g0 g1 : Value) (res : Array Value) (rs : List (Int × Int)) (cs : List NodeD) (v root : Value) (wr : World) : Prop where
  g : wr.heap[V.heap.size]? = some (.cells #[g0, g1] 25 (0, 0))
  r : wr.heap[V.heap.size + 1]? = some (.cells res 25 (0, 0))
  out : wr.heap[Bo]? = some (.cells #[v, root] 25 (0, 0))
  own : Own 34 3 nodeC wr V.heap.size v cs
  each : ∀ c ∈ cs, OwnN wr V.heap.size c
  root : Own 46 2 spanC wr V.heap.size root rs
  ext : Ext V wr
  bo : V.heap.size + 1 < Bo
section
variable {V : World} {Bo : Nat} {g0 g1 : Value} {res : Array Value} {rs : List (Int × Int)} {cs : List NodeD} {v root : Value} {wr w' : World}
theorem CopI.grow (h : CopI V Bo g0 g1 res rs cs v root wr) (hx : Ext wr w') : CopI V Bo g0 g1 res rs cs v root w' :=
  ⟨(hx.block (lt_of_heap h.g)).trans h.g, (hx.block (lt_of_heap h.r)).trans h.r, (hx.block (lt_of_heap h.out)).trans h.out, h.own.ext hx, fun c hc => (h.each c hc).ext hx, h.root.ext hx, h.ext.trans hx, h.bo⟩
/-- A node more. -/
theorem CopI.app (h : CopI V Bo g0 g1 res rs cs v root wr) {v' : Value} {x : NodeD} (hown : Own 34 3 nodeC w' V.heap.size v' (cs ++ [x])) (hg : wr.grownBy w' v.ownBlock) (hx : OwnN wr V.heap.size x) :
    CopI V Bo g0 g1 res rs (cs ++ [x]) v' root (w'.setCell ⟨Bo, 0, none⟩ v') := by
  have hty : ∀ (b : Nat) (ws : Array Value), wr.heap[b]? = some (.cells ws 25 (0, 0)) → w'.heap[b]? = some (.cells ws 25 (0, 0)) := fun b ws hb => by
    refine (hg.block b (lt_of_heap hb) fun e => ?_).trans hb
    rcases h.own.2 with ⟨hv, _⟩ | ⟨b2, cap2, cur2, hv, _, hg2, _⟩
    · rw [hv] at e; cases e
    · rw [hv] at e
      have : b = b2 := by simpa [Value.ownBlock] using e
      subst this
      rw [hb] at hg2
      cases hg2
  have hout := hty _ _ h.out
  have hbo := h.bo
  have hset : ∀ b o, w'.heap[b]? = some o → b ≠ Bo → (w'.setCell ⟨Bo, 0, none⟩ v').heap[b]? = some o := fun b o hb hne => (Below.heap_setCell w' ⟨Bo, 0, none⟩ v' b hne).trans hb
  have hn : ∀ c, OwnN w' V.heap.size c → OwnN (w'.setCell ⟨Bo, 0, none⟩ v') V.heap.size c := fun c hc => ⟨hc.f.setOther hout (by decide), hc.r.setOther hout (by decide)⟩
  refine ⟨hset _ _ (hty _ _ h.g) (by omega), hset _ _ (hty _ _ h.r) (by omega), ?_, hown.setOther hout (by decide), fun c hc => hn c ?_, (h.root.keep2 h.own (by decide) hg).setOther hout (by decide), (Own.grown h.own hg (Nat.le_refl _) h.ext).setCell (by simp only; omega) _, h.bo⟩
  · rw [heap_setCell_same w' Bo 0 _ _ _ hout]; rfl
  · rcases List.mem_append.1 hc with hc | hc
    · exact (h.each c hc).kept h.own hg
    · rcases List.mem_singleton.1 hc with rfl
      exact hx.kept h.own hg
end
end Go.Proofs.Ytidfibheehcdgaa
