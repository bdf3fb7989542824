/- Merged by program (merge.py) out of: RchP. -/
import Derived.Test.YtphpppjfogpohaaGreatRows
set_option linter.unusedSimpArgs false
set_option linter.unusedVariables false
set_option maxRecDepth 100000
set_option maxHeartbeats 16000000
namespace Go.Proofs.YtphpppjfogpohaaGreat
structure PlE where
 n:Nat
 sz:Nat→Nat
 fs:Nat→List (Int×Int)
 lim:Nat
 blk:Nat
structure PlD where
 small:List Nat
 begins:List Nat
 lk:List Bool
 large:List Nat
 pile:List Nat
 top:Nat
section
variable {E : PlE} {p q : PlD} {mk : Bool} {v : Int × Int} {l : List (Int × Int)}
theorem getD_get {α:Type} {l:List α} {i:Nat} {d:α} (h:i < l.length):l.getD i d=l[i]:=by simp [h]
theorem getD_appL {α:Type} {l l':List α} {i:Nat} {d:α} (h:i < l.length):(l++l').getD i d=l.getD i d:=by
 simp [List.getD_eq_getElem?_getD,List.getElem?_append_left h]
theorem getD_appR {α:Type} {l l':List α} {i:Nat} {d:α} (h:l.length≤i):(l++l').getD i d=l'.getD (i - l.length) d:=by
 simp [List.getD_eq_getElem?_getD,List.getElem?_append_right h]
end
end Go.Proofs.YtphpppjfogpohaaGreat
