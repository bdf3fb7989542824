/- Merged by program (merge.py) out of: CanP, Ris. -/
import Derived.Test.YtphpppjfogpohaaGreatMu31
import Derived.Test.YtphpppjfogpohaaGreatMu11
set_option linter.unusedSimpArgs false
set_option linter.unusedVariables false
set_option maxRecDepth 100000
set_option maxHeartbeats 16000000
namespace Go.Proofs.YtphpppjfogpohaaGreat
abbrev NodV:=Int×List (Int×Int)×List Int
section
variable {R : Nat → Nat → Prop} {o p : List Nat} {ns ms : List NodV} {rs qs : List (Int × Int)}
theorem map_getD {α β:Type} {l:List α} {f:α→β} {i:Nat} {d:α} {e:β} (h:i < l.length):(l.map f).getD i e=f (l.getD i d):=by simp [h]
end
structure MtD where
 to:List Int
 at_:List Int
 bad:Bool
end Go.Proofs.YtphpppjfogpohaaGreat
