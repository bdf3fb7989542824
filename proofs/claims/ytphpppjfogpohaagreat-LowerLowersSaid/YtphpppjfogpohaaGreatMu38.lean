/- Merged by program (merge.py) out of: CnM, CnN, CnO, CnQ, RchH, RchI. -/
import Derived.Test.YtphpppjfogpohaaGreatMu37
import Derived.Test.YtphpppjfogpohaaGreatMu36
import Derived.Test.YtphpppjfogpohaaGreatMu4
import Derived.Test.YtphpppjfogpohaaGreatMu3
set_option linter.unusedSimpArgs false
set_option linter.unusedVariables false
set_option maxRecDepth 100000
set_option maxHeartbeats 16000000
namespace Go.Proofs.YtphpppjfogpohaaGreat
open Go.RowKit Go.Shelf
def Box2K (b:Nat) (cs:Array Value) (t:TypeId) (b2:Nat) (cs2:Array Value) (t2:TypeId) (w:World):Prop:=w.heap[b]?=some (.cells cs t (0,0))∧w.heap[b2]?=some (.cells cs2 t2 (0,0))
section
variable {b : Nat} {cs : Array Value} {t : TypeId} {b2 : Nat} {cs2 : Array Value} {t2 : TypeId} {W W' : World}
theorem Box2K.one (h:Box2K b cs t b2 cs2 t2 W) (u:KeptOf W (Box2K b cs t b2 cs2 t2)) (i:Nat):u.1.cell? ⟨b,i,none⟩=cs[i]?:=(cells_of (u.of h).1).1 i
theorem Box2K.two (h:Box2K b cs t b2 cs2 t2 W) (u:KeptOf W (Box2K b cs t b2 cs2 t2)) (i:Nat):u.1.cell? ⟨b2,i,none⟩=cs2[i]?:=(cells_of (u.of h).2).1 i
theorem Box2K.ext (h:Box2K b cs t b2 cs2 t2 W) (hx:Ext W W'):Box2K b cs t b2 cs2 t2 W':=⟨(hx.block (lt_of_heap h.1)).trans h.1,(hx.block (lt_of_heap h.2)).trans h.2⟩
end
end Go.Proofs.YtphpppjfogpohaaGreat
