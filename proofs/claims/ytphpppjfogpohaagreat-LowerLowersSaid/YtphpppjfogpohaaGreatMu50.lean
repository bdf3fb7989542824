/- Merged by program (merge.py) out of: RchO, RchQ, RchR, RchS. -/
import Derived.Handy
import Derived.Test.YtphpppjfogpohaaGreatMu38
set_option linter.unusedSimpArgs false
set_option linter.unusedVariables false
set_option maxRecDepth 100000
set_option maxHeartbeats 16000000
namespace Go.Proofs.YtphpppjfogpohaaGreat
open Go.RowKit Go.Shelf
section
variable {V0 : World} {G : GraphD} {lim blk b K : Nat} {V : World}
end
theorem gright_is (G:GraphD) (b:Bool) (hb:rightG G=b) (V:World) (hG:GraphAt V G) (oG:GOk G):Calls Tryz.prog 33 #[.agg #[.slice G.nA G.ns.length G.ncap,.slice G.rA G.rs.length G.rcap]] V fun e w'=>e= .returned (.bool b)∧Ext V w':=by
 subst hb
 exact gright_any G V hG oG.bd.1 oG.bd.2.1 oG.bd.2.2
end Go.Proofs.YtphpppjfogpohaaGreat
