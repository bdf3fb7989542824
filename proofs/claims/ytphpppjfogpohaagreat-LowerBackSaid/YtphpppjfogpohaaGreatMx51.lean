/- Merged by program (merge.py) out of: Srt, Flt. -/
import Derived.Shelf.Sort.Plain
import Derived.Shelf.Slices.In.SortNone
import Derived.Sort.OwnSortedInts
import Derived.Test.YtphpppjfogpohaaGreatMx50
import Derived.Test.YtphpppjfogpohaaGreatMx32
import Derived.Test.YtphpppjfogpohaaGreatMx35
set_option linter.unusedSimpArgs false
set_option linter.unusedVariables false
set_option maxRecDepth 100000
set_option maxHeartbeats 16000000
namespace Go.Proofs
open Go.Shelf
end Go.Proofs
namespace Go.Proofs.YtphpppjfogpohaaGreat
open Go.RowKit Go.Shelf
theorem map_flatC (l:List Int):l.map (Value.int .i64)=l.flatMap intC:=by
 induction l with
 | nil=>rfl
 | cons x l ih=>rw [List.map_cons,List.flatMap_cons,ih];rfl
end Go.Proofs.YtphpppjfogpohaaGreat
namespace Go.Proofs.YtphpppjfogpohaaGreat
open Go.RowKit Go.Shelf
theorem own_ints {w:World} {B:Nat} {A:Option Addr} {cap:Nat} {xs:List Int} (h:Own 3 1 intC w B (.slice A xs.length cap) xs):IntsAt w A xs:=by
 obtain ⟨A',c',e,h2,_⟩:=h.form intCells (by decide)
 injection e with e1 _ _
 subst e1
 exact h2
def RetFl (V:World) (S:List Int) (c:Int) (e:Ending) (w':World):Prop:=
 ∃A cap,e= .returned (.tuple #[.slice A S.length cap,.int .i64 c])∧Own 3 1 intC w' V.heap.size (.slice A S.length cap) S∧Ext V w'
theorem plan_is (G:GraphD) (lim ord blk:Int) (S L:List Int) (c:Int) (hS:planS G lim ord blk=S) (hL:planL G lim ord blk=L) (hc:planE G lim ord blk=c) (V:World) (hG:GraphAt V G) (oG:GOk G) (hl: -9223372036854775808≤lim∧lim≤9223372036854775807) (hb: -9223372036854775808≤blk∧blk≤9223372036854775807):
  Calls Tryz.prog 123 #[.agg #[.slice G.nA G.ns.length G.ncap,.slice G.rA G.rs.length G.rcap],.int .i64 lim,.int .i64 ord,.int .i64 blk] V (RetPl V S L c):=by
 subst hS hL hc;exact plan_any G lim ord blk V hG oG hl hb
theorem flat_is (G:GraphD) (ord:Int) (S:List Int) (c:Int) (hS:planS G 1048576 ord 1=S) (hc:planE G 1048576 ord 1=c) (V:World) (hG:GraphAt V G) (oG:GOk G):Calls Tryz.prog 112 #[.agg #[.slice G.nA G.ns.length G.ncap,.slice G.rA G.rs.length G.rcap],.int .i64 ord] V (RetFl V S c):=by
 have hx0:=(Ext.refl V).alloc (.cells #[.slice G.nA G.ns.length G.ncap,.slice G.rA G.rs.length G.rcap] 27)
 have hBx:=pers_new V #[.slice G.nA G.ns.length G.ncap,.slice G.rA G.rs.length G.rcap] 27 _ rfl
 have HPL:=zH (plan_is G 1048576 ord 1 S _ c hS rfl hc _ (hG.ext hx0) oG ⟨by decide,by decide⟩ ⟨by decide,by decide⟩)
 have HX:=zH hx0
 have kB:=(cells_of hBx.here).1
 clear hx0 hG oG hS hc
 generalize planL G 1048576 ord 1=L at*
 go_enter Tryz.func112,Tryz.ntmps112
 go_wp2_with fail
 refine HPL.out.mono ?_
 rintro e w1 ⟨A1,c1,A2,c2,rfl,h1,h2, -,hx⟩
 have H1:=zH (h1.mono HX.out.size)
 have HX1:=zH (HX.out.trans hx)
 clear h1 h2 hx kB HPL
 go_wp2_with fail
 ((try simp only [Exit.inBlock,Exit.then]);refine bodyPost_ret (v:= .tuple #[.slice A1 S.length c1,.int .i64 c]) (by simp only [results,Tryz.results112];go_simp) rfl ?_)
 exact ⟨A1,c1,rfl,H1.out,HX1.out⟩
theorem breadth_is (G:GraphD) (S:List Int) (c:Int) (hS:planS G 1048576 0 1=S) (hc:planE G 1048576 0 1=c) (V:World) (hG:GraphAt V G) (oG:GOk G):Calls Tryz.prog 66 #[.agg #[.slice G.nA G.ns.length G.ncap,.slice G.rA G.rs.length G.rcap]] V (RetFl V S c):=by
 have hx0:=(Ext.refl V).alloc (.cells #[.slice G.nA G.ns.length G.ncap,.slice G.rA G.rs.length G.rcap] 27)
 have hBx:=pers_new V #[.slice G.nA G.ns.length G.ncap,.slice G.rA G.rs.length G.rcap] 27 _ rfl
 have HPL:=zH (flat_is G 0 S c hS hc _ (hG.ext hx0) oG)
 have HX:=zH hx0
 have kB:=(cells_of hBx.here).1
 clear hx0 hG oG hS hc
 go_enter Tryz.func66,Tryz.ntmps66
 go_wp2_with fail
 refine HPL.out.mono ?_
 rintro e w1 ⟨A1,c1,rfl,h1,hx⟩
 have H1:=zH (h1.mono HX.out.size)
 have HX1:=zH (HX.out.trans hx)
 clear h1 hx kB HPL
 go_wp2_with fail
 ((try simp only [Exit.inBlock,Exit.then]);refine bodyPost_ret (v:= .tuple #[.slice A1 S.length c1,.int .i64 c]) (by simp only [results,Tryz.results66];go_simp) rfl ?_)
 exact ⟨A1,c1,rfl,H1.out,HX1.out⟩
end Go.Proofs.YtphpppjfogpohaaGreat
