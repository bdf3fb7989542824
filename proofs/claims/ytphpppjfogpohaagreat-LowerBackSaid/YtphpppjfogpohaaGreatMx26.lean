/- Merged by program (merge.py) out of: OpenW, OpenG. -/
import Derived.Test.YtphpppjfogpohaaGreatMx25
import Derived.Test.YtphpppjfogpohaaGreatMx7
set_option linter.unusedSimpArgs false
set_option linter.unusedVariables false
set_option maxRecDepth 100000
set_option maxHeartbeats 16000000
namespace Go.Proofs.YtphpppjfogpohaaGreat
open Go.RowKit
section
open Go.WideShapes Go.ChangeShapes Go.ChangeAt Go.Joins Go.Deep
variable {H : Type} {enc : TypeId × Value → H} {w : World} {base : Nat} {spare : Nat → Bool} {held : Bool} {v : Value} {d : DataW H} {p : List MemPlace} {r : Reach} {b0 : Nat}
theorem opens_val:Opens enc Tryz.prog w base spare held 71 spanC (fun x=>(-9223372036854775808≤x.1∧x.1≤9223372036854775807)∧(-9223372036854775808≤x.2∧x.2≤9223372036854775807)):=
 (opens_struct Tryz.underlying71 (by kernel_rfl) (fields_cons (c:=1) (opens_int Tryz.underlying3) (by kernel_rfl) rfl (by kernel_rfl) (fields_cons (c:=1) (opens_int Tryz.underlying2) (by kernel_rfl) rfl (by kernel_rfl) fields_nil))).map
  (fun x=>(x.1,x.2.1)) (fun _=>rfl) (fun x h=>⟨h.1,h.2.1⟩)
theorem opens_node:Opens enc Tryz.prog w base spare held 66 nodeC (fun x=>NodeAt w x∧NodeOk x):=
 (opens_struct Tryz.underlying66 (by kernel_rfl) (fields_cons (c:=1) (opens_int Tryz.underlying3) (by kernel_rfl) rfl (by kernel_rfl)
  (fields_cons (c:=1) (opens_slice (n:=2) (k:=16) Tryz.underlying25 (by kernel_rfl) (by kernel_rfl) (by decide) opens_val) (by kernel_rfl) rfl (by kernel_rfl)
  (fields_cons (c:=1) (opens_slice (n:=1) (k:=8) Tryz.underlying30 (by kernel_rfl) (by kernel_rfl) (by decide) (opens_u64 Tryz.underlying61)) (by kernel_rfl) rfl (by kernel_rfl) fields_nil)))).map
  (fun x=>⟨x.1,x.2.1.A,x.2.1.cap,x.2.1.xs,x.2.2.1.A,x.2.2.1.cap,x.2.2.1.xs⟩) (fun _=>rfl) (fun x h=>by
   obtain ⟨h1,h2,h3, -⟩:=h
   have w2:=h2.wt
   have w3:=h3.wt
   exact ⟨⟨h2.row,h3.row⟩,h1,by simp only;omega,by simp only;omega,h2.nn,h3.nn,h2.len,h3.len,h2.each,h3.each⟩)
theorem opens_graph:Opens enc Tryz.prog w base spare held 27 (fun G:GraphD=> [.slice G.nA G.ns.length G.ncap,.slice G.rA G.rs.length G.rcap]) (fun G=>GraphAt w G∧GraphOk G):=
 (opens_struct Tryz.underlying27 (by kernel_rfl) (fields_cons (c:=1) (opens_slice (n:=3) (k:=56) Tryz.underlying24 (by kernel_rfl) (by kernel_rfl) (by decide) opens_node) (by kernel_rfl) rfl (by kernel_rfl)
  (fields_cons (c:=1) (opens_slice (n:=2) (k:=16) Tryz.underlying25 (by kernel_rfl) (by kernel_rfl) (by decide) opens_val) (by kernel_rfl) rfl (by kernel_rfl) fields_nil))).map
  (fun x=>⟨x.1.A,x.1.cap,x.1.xs,x.2.1.A,x.2.1.cap,x.2.1.xs⟩) (fun _=>rfl) (fun x h=>by
   obtain ⟨h1,h2, -⟩:=h
   have w1:=h1.wt
   have w2:=h2.wt
   exact ⟨⟨⟨h1.row,fun y hy=>(h1.each y hy).1⟩,h2.row⟩,by simp only;omega,by simp only;omega,h1.nn,h2.nn,h1.len,h2.len,fun y hy=>(h1.each y hy).2,h2.each⟩)
theorem open_graph (hv:Value.okWide Tryz.prog w r b0 27 v) (h:DataW.Trod enc Tryz.prog w base spare held 27 v d p) (hw:WOK Tryz.prog 27 d):∃G:GraphD,v= .agg #[.slice G.nA G.ns.length G.ncap,.slice G.rA G.rs.length G.rcap]∧GraphAt w G∧GraphOk G:=
 opens_graph.agg Tryz.underlying27 hv h hw
end
abbrev IsGraph (w:World) (v:Value):Prop:=∃G:GraphD,v= .agg #[.slice G.nA G.ns.length G.ncap,.slice G.rA G.rs.length G.rcap]∧GraphAt w G∧GraphOk G
end Go.Proofs.YtphpppjfogpohaaGreat
