/- Merged by program (merge.py) out of: MapK. -/
import Derived.Maps.Own
import Derived.Maps.OwnOps
import Derived.Maps.OwnSet
import Derived.Maps.Views
import Derived.Test.YtemmjmplhknemaaMp7
set_option linter.unusedSimpArgs false
set_option linter.unusedVariables false
set_option maxRecDepth 100000
set_option maxHeartbeats 16000000
namespace Go.Proofs.Ytemmjmplhknemaa
open Go.RowKit Go.Shelf Go.Maps
theorem intKeyed:Keyed Try.prog 3:=int_keyed Try.underlying3
def keyI (x:Int):Lit:= .int .i64 x
theorem keyI_ne {x y:Int} (h:y≠x):keyI y≠keyI x:=fun e=>h (by injection e)
theorem keyI_same (y x:Int):(keyI y).sameKey (keyI x)=(y==x):=by
 simp only [keyI,Lit.sameKey,true_and]
 exact Bool.eq_iff_iff.2 (by simp)
theorem Ext.grown {w w':World} (h:Ext w w'):w.grownBy w' none:=⟨h.os,h.tape,h.output,h.size,fun k hk _=>h.block hk⟩
end Go.Proofs.Ytemmjmplhknemaa
