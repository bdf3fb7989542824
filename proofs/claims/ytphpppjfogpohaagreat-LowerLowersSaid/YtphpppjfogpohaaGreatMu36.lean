/- Merged by program (merge.py) out of: RchB, RchC, GraW, GraX, GraZ, GraPl, GraMo, OwnO. -/
import Derived.OwnWalk
import Derived.Test.YtphpppjfogpohaaGreatMu35
import Derived.Test.YtphpppjfogpohaaGreatMu7
set_option linter.unusedSimpArgs false
set_option linter.unusedVariables false
set_option maxRecDepth 100000
set_option maxHeartbeats 16000000
namespace Go.Proofs.YtphpppjfogpohaaGreat
open Go.RowKit Go.Shelf
theorem large_is (G:GraphD) (b:Bool) (h:largeG G=b) (V:World) (hG:GraphAt V G) (oG:GraphOk G):
  Calls Tryz.prog 9 #[.agg #[.slice G.nA G.ns.length G.ncap,.slice G.rA G.rs.length G.rcap]] V fun e w'=>e= .returned (.bool b)∧Ext V w':=by
 rw [←h];exact glarge_any G V hG (by have:=oG.nl;omega) (by have:=oG.rl;omega) (fun x hx=>⟨by have:=(oG.each x hx).fl;omega,by have:=(oG.each x hx).rl;omega⟩)
theorem refsize_is (x:NodeD) (n:Int) (W:World) (h:sizeN x=n):Calls Tryz.prog 50 #[.agg #[.int .i64 x.kind,.slice x.fA x.fields.length x.fcap,.slice x.rA x.raws.length x.rcap]] W fun e w'=>e= .returned (.int .i64 n)∧Ext W w':=by
 rw [←h];exact refsize_any x W
theorem ints_is (A A2:Option Addr) (cap cap2:Nat) (xs ys:List Int) (b:Bool) (hb:decide (xs=ys)=b) (W:World) (hlen:xs.length≤9223372036854775807) (hlen2:ys.length≤9223372036854775807) (hl:IntsAt W A xs) (hl2:IntsAt W A2 ys):
  Calls Tryz.prog 16 #[.slice A xs.length cap,.slice A2 ys.length cap2] W fun e w'=>e= .returned (.bool b)∧Ext W w':=by
 subst hb;exact ints_any A A2 cap cap2 xs ys W hlen hlen2 hl hl2
structure Perm (o:List Int) (n:Nat):Prop where
 len:o.length=n
 in_:∀i,i < n→0≤o.getD i 0∧o.getD i 0 < n
 pl:∀i,i < n→placeZ o (o.getD i 0)=i
section
variable {o : List Int} {n : Nat}
theorem okV_ref2 {v:Int×Int} (hv:okV n v=true):v.1=2→0≤v.2∧v.2 < n:=by
 intro h2
 simp [okV,vmayB,h2]at hv;omega
end
section
variable {G H : GraphD} {o : List Int}
theorem right_parts (hR:rightG G=true):(∀x∈G.ns,okN x=true∧∀v∈x.fields,okV G.ns.length v=true)∧∀v∈G.rs,okV G.ns.length v=true:=by
 simp only [rightG,Bool.and_eq_true,List.all_eq_true]at hR
 exact hR
end
end Go.Proofs.YtphpppjfogpohaaGreat
namespace Go.Proofs.YtphpppjfogpohaaGreat
open Go.RowKit Go.Shelf Go.Maps
end Go.Proofs.YtphpppjfogpohaaGreat
