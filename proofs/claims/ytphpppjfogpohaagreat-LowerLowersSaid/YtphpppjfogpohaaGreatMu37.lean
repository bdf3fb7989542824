/- Merged by program (merge.py) out of: RchD, RchE, RchF, RchG, RchU, CnP. -/
import Derived.Handy
import Derived.Test.YtphpppjfogpohaaGreatMu36
import Derived.Test.YtphpppjfogpohaaGreatMu32
set_option linter.unusedSimpArgs false
set_option linter.unusedVariables false
set_option maxRecDepth 100000
set_option maxHeartbeats 16000000
namespace Go.Proofs.YtphpppjfogpohaaGreat
open Go.RowKit Go.Shelf
def MidG (G:GraphD):Prop:=G.ns.length≤1000∧G.rs.length≤1000
theorem MidG.of {G:GraphD} (h:largeG G=false):MidG G:=by
 have hl2:¬(60 < G.ns.length∨100 < G.rs.length∨9000 < bulk G.ns):=by simpa [largeG]using h
 exact ⟨by omega,by omega⟩
def GOk (G:GraphD):Prop:=GraphOk G∧MidG G
theorem GOk.bd {G:GraphD} (h:GOk G):G.ns.length≤9223372036854775807∧G.rs.length≤9223372036854775807∧∀x∈G.ns,x.fields.length≤9223372036854775807:=by
 refine ⟨by have:=h.1.nl;omega,by have:=h.1.rl;omega,fun x hx=>by have:=(h.1.each x hx).fl;omega⟩
theorem grefright_is (G:GraphD) (b:Bool) (hb:rightG G=b) (V:World) (hG:GraphAt V G) (oG:GOk G):Calls Tryz.prog 47 #[.agg #[.slice G.nA G.ns.length G.ncap,.slice G.rA G.rs.length G.rcap]] V fun e w'=>e= .returned (.bool b)∧Ext V w':=by
 subst hb
 exact grefright_any G V hG oG.bd.1 oG.bd.2.1 oG.bd.2.2
end Go.Proofs.YtphpppjfogpohaaGreat
