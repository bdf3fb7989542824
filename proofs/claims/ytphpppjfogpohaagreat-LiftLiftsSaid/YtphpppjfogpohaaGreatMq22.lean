/- Merged by program (merge.py) out of: MapK. -/
import Derived.Test.YtphpppjfogpohaaGreatMq0
import Derived.Maps.Own
import Derived.Maps.OwnOps
import Derived.Maps.OwnSet
import Derived.Maps.Views
import Derived.Test.YtphpppjfogpohaaGreatMq7
set_option linter.unusedSimpArgs false
set_option linter.unusedVariables false
set_option maxRecDepth 100000
set_option maxHeartbeats 16000000
namespace Go.Proofs.YtphpppjfogpohaaGreat
open Go.RowKit Go.Shelf Go.Maps
theorem eE:Keyed Tryz.prog 3:=int_keyed Tryz.underlying3
def keyI (x:Int):Lit:= .int .i64 x
theorem tI {x y:Int} (h:y≠x):keyI y≠keyI x:=fun e=>h (by injection e)
theorem uQ (y x:Int):(keyI y).sameKey (keyI x)=(y==x):=by
 simp only [keyI,Lit.sameKey,true_and]
 exact Bool.eq_iff_iff.2 sM
theorem Ext.grown {w w':World} (h:Ext w w'):w.grownBy w' none:=⟨h.os,h.tape,h.output,h.size,fun k hk _=>h.block hk⟩
end Go.Proofs.YtphpppjfogpohaaGreat
