/- Merged by program (merge.py) out of: Srt, Flt. -/
import Derived.Shelf.Sort.Plain
import Derived.Shelf.Slices.In.SortNone
import Derived.Sort.OwnSortedInts
import Derived.Test.YtphpppjfogpohaaGreatMv50
import Derived.Test.YtphpppjfogpohaaGreatMv32
import Derived.Test.YtphpppjfogpohaaGreatMv35
set_option linter.unusedSimpArgs false
set_option linter.unusedVariables false
set_option maxRecDepth 100000
set_option maxHeartbeats 16000000
namespace Go.Proofs
open Go.Shelf
end Go.Proofs
namespace Go.Proofs.YtphpppjfogpohaaGreat
open Go.RowKit Go.Shelf
end Go.Proofs.YtphpppjfogpohaaGreat
namespace Go.Proofs.YtphpppjfogpohaaGreat
open Go.RowKit Go.Shelf
theorem own_ints {w:World} {B:Nat} {A:Option Addr} {cap:Nat} {xs:List Int} (h:Own 3 1 intC w B (.slice A xs.length cap) xs):IntsAt w A xs:=by
 obtain ⟨A',c',e,h2,_⟩:=h.form intCells (by decide)
 injection e with e1 _ _
 subst e1
 exact h2
end Go.Proofs.YtphpppjfogpohaaGreat
