/- Graphs in memory; how large their nodes are. -/
import Derived.Test.YtidfibheehcdgaaOwn
import Derived.Test.YtidfibheehcdgaaExact
set_option linter.unusedSimpArgs false
set_option linter.unusedVariables false
namespace Go.Proofs.Ytidfibheehcdgaa
open Go.RowKit

def u64C (z : Int) : List Value := [.int .u64 z]
abbrev WordsAt (w : World) (A : Option Addr) (zs : List Int) : Prop := RowAt 1 u64C w A zs
theorem words_cell {w : World} {b off : Nat} {zs : List Int} (hc : ∀ i x, zs[i]? = some x → ∀ j v, (u64C x)[j]? = some v → w.cell? ⟨b, off + i * 1 + j, none⟩ = some v) {k : Nat} (hk : k < zs.length) :
    w.cell? ⟨b, off + k, none⟩ = some (.int .u64 (zs.getD k 0)) := by
  have h := hc k zs[k] (by simp [hk]) 0 _ rfl
  simpa [hk] using h
/-- A node: its cells, and what they lead to. -/
structure NodeD where
  kind : Int
  fA : Option Addr
  fcap : Nat
  fields : List (Int × Int)
  rA : Option Addr
  rcap : Nat
  raws : List Int
def nodeC (x : NodeD) : List Value := [.int .i64 x.kind, .slice x.fA x.fields.length x.fcap, .slice x.rA x.raws.length x.rcap]
instance : Inhabited NodeD := ⟨⟨0, none, 0, [], none, 0, []⟩⟩
structure NodeAt (w : World) (x : NodeD) : Prop where
  fields : SpansAt w x.fA x.fields
  raws : WordsAt w x.rA x.raws
structure NodesAt (w : World) (A : Option Addr) (ns : List NodeD) : Prop where
  row : RowAt 3 nodeC w A ns
  each : ∀ x ∈ ns, NodeAt w x
structure NodeOk (x : NodeD) : Prop where
  kind : -9223372036854775808 ≤ x.kind ∧ x.kind ≤ 9223372036854775807
  fl : x.fields.length ≤ 8796093022208
  rl : x.raws.length ≤ 17592186044416
  fn : x.fA = none → x.fcap = 0
  rn : x.rA = none → x.rcap = 0
  fc : x.fields.length ≤ x.fcap
  rc : x.raws.length ≤ x.rcap
  fv : ∀ v ∈ x.fields, (-9223372036854775808 ≤ v.1 ∧ v.1 ≤ 9223372036854775807) ∧ (-9223372036854775808 ≤ v.2 ∧ v.2 ≤ 9223372036854775807)
  rv : ∀ v ∈ x.raws, 0 ≤ v ∧ v < 18446744073709551616
structure GraphD where
  nA : Option Addr
  ncap : Nat
  ns : List NodeD
  rA : Option Addr
  rcap : Nat
  rs : List (Int × Int)
structure GraphAt (w : World) (G : GraphD) : Prop where
  nodes : NodesAt w G.nA G.ns
  roots : SpansAt w G.rA G.rs
structure GraphOk (G : GraphD) : Prop where
  nl : G.ns.length ≤ 2513169434843
  rl : G.rs.length ≤ 8796093022208
  nn : G.nA = none → G.ncap = 0
  rn : G.rA = none → G.rcap = 0
  nc : G.ns.length ≤ G.ncap
  rc : G.rs.length ≤ G.rcap
  each : ∀ x ∈ G.ns, NodeOk x
  rv : ∀ v ∈ G.rs, (-9223372036854775808 ≤ v.1 ∧ v.1 ≤ 9223372036854775807) ∧ (-9223372036854775808 ≤ v.2 ∧ v.2 ≤ 9223372036854775807)
theorem NodeAt.ext {w w' : World} {x : NodeD} (h : NodeAt w x) (hx : Ext w w') : NodeAt w' x := ⟨h.fields.ext hx, h.raws.ext hx⟩
theorem NodesAt.ext {w w' : World} {A : Option Addr} {ns : List NodeD} (h : NodesAt w A ns) (hx : Ext w w') : NodesAt w' A ns := ⟨h.row.ext hx, fun x hm => (h.each x hm).ext hx⟩
theorem GraphAt.ext {w w' : World} {G : GraphD} (h : GraphAt w G) (hx : Ext w w') : GraphAt w' G := ⟨h.nodes.ext hx, h.roots.ext hx⟩
theorem nodes_cell {w : World} {b off : Nat} {ns : List NodeD} (hc : ∀ i x, ns[i]? = some x → ∀ j v, (nodeC x)[j]? = some v → w.cell? ⟨b, off + i * 3 + j, none⟩ = some v) {k : Nat} (hk : k < ns.length) :
    w.cell? ⟨b, off + k * 3, none⟩ = some (.int .i64 (ns.getD k default).kind) ∧ w.cell? ⟨b, off + k * 3 + 1, none⟩ = some (.slice (ns.getD k default).fA (ns.getD k default).fields.length (ns.getD k default).fcap) ∧
      w.cell? ⟨b, off + k * 3 + 2, none⟩ = some (.slice (ns.getD k default).rA (ns.getD k default).raws.length (ns.getD k default).rcap) := by
  have hg : ns.getD k default = ns[k] := by simp [hk]
  have h0 := hc k ns[k] (by simp [hk]) 0 _ rfl
  have h1 := hc k ns[k] (by simp [hk]) 1 _ rfl
  have h2 := hc k ns[k] (by simp [hk]) 2 _ rfl
  rw [hg]
  exact ⟨by simpa using h0, by simpa using h1, by simpa using h2⟩
theorem getD_mem {α : Type} {l : List α} {k : Nat} {d : α} (h : k < l.length) : l.getD k d ∈ l := by
  rw [List.getD_eq_getElem?_getD, List.getElem?_eq_getElem h]; exact List.getElem_mem h

/-- How many words a node has. -/
def sizeN (x : NodeD) : Int := wrap64 (wrap64 (1 + x.fields.length) + x.raws.length)
set_option maxHeartbeats 1000000
theorem size_any (x : NodeD) (W : World) : Calls Try.prog 9 #[.agg #[.int .i64 x.kind, .slice x.fA x.fields.length x.fcap, .slice x.rA x.raws.length x.rcap]] W fun e w' => e = .returned (.int .i64 (sizeN x)) ∧ Ext W w' := by
  go_enter Try.func9, Try.ntmps9
  go_wp2_with fail
  go_ret
  exact ⟨ret_int rfl, (Ext.refl _).alloc _⟩
theorem refsize_any (x : NodeD) (W : World) : Calls Try.prog 10 #[.agg #[.int .i64 x.kind, .slice x.fA x.fields.length x.fcap, .slice x.rA x.raws.length x.rcap]] W fun e w' => e = .returned (.int .i64 (sizeN x)) ∧ Ext W w' := by
  go_enter Try.func10, Try.ntmps10
  go_wp2_with fail
  go_ret
  exact ⟨ret_int rfl, (Ext.refl _).alloc _⟩
theorem fieldsof_any (x : NodeD) (W : World) : Calls Try.prog 28 #[.agg #[.int .i64 x.kind, .slice x.fA x.fields.length x.fcap, .slice x.rA x.raws.length x.rcap]] W fun e w' => e = .returned (.int .i64 x.fields.length) ∧ Ext W w' := by
  go_enter Try.func28, Try.ntmps28
  go_wp2_with fail
  go_ret
  exact ⟨rfl, (Ext.refl _).alloc _⟩
end Go.Proofs.Ytidfibheehcdgaa
