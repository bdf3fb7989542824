/- Merged by program (merge.py) out of: Flu, CnA, CnB, Flv. -/
import Derived.Laws.OwnMore
import Derived.Test.YtphpppjfogpohaaGreatMx51
import Derived.Test.YtphpppjfogpohaaGreatMx32
import Derived.Test.YtphpppjfogpohaaGreatMx36
import Derived.Test.YtphpppjfogpohaaGreatMx35
import Derived.Test.YtphpppjfogpohaaGreatMx38
import Derived.Test.YtphpppjfogpohaaGreatMx4
set_option linter.unusedSimpArgs false
set_option linter.unusedVariables false
set_option maxRecDepth 100000
set_option maxHeartbeats 16000000
namespace Go.Proofs.YtphpppjfogpohaaGreat
open Go.RowKit Go.Shelf
theorem canon_any (G:GraphD) (V:World) (hG:GraphAt V G) (oG:GOk G):Calls Tryz.prog 63 #[.agg #[.slice G.nA G.ns.length G.ncap,.slice G.rA G.rs.length G.rcap]] V (RetN V (canE G) (canV G) (canQ G)):=by
 have hx0:Ext V ((V.alloc (.cells #[.slice G.nA G.ns.length G.ncap,.slice G.rA G.rs.length G.rcap] 27)).alloc (.cells #[.slice none 0 0,.slice none 0 0] 27)):=((Ext.refl V).alloc _).alloc _
 have HBX:=zH ((pers_new V #[.slice G.nA G.ns.length G.ncap,.slice G.rA G.rs.length G.rcap] 27 _ rfl).re ((Ext.refl _).alloc (.cells #[.slice none 0 0,.slice none 0 0] 27)))
 have HRX:=zH (pers_new (V.alloc (.cells #[.slice G.nA G.ns.length G.ncap,.slice G.rA G.rs.length G.rcap] 27)) #[.slice none 0 0,.slice none 0 0] 27 (V.heap.size+1) (by simp))
 have HX:=zH hx0
 have HG:=zH (hG.ext hx0)
 have HOG:=zH oG
 have kB:=(cells_of (pers_new V #[.slice G.nA G.ns.length G.ncap,.slice G.rA G.rs.length G.rcap] 27 _ rfl).here).1
 have kA:=(cells_of HBX.out.here).1
 obtain ⟨p1,p2⟩:=flat_eq G
 obtain ⟨e1,s1, -⟩:=plan_great oG 0
 have HVV:Hid (V.heap.size≤V.heap.size+1):=zH (by omega)
 cases hR:rightG G with
 | false=>
  have HB:Hid (∀W,GraphAt W G→Calls Tryz.prog 66 #[.agg #[.slice G.nA G.ns.length G.ncap,.slice G.rA G.rs.length G.rcap]] W (RetFl W [] 4)):=zH (fun W h=>breadth_is G [] 4 (by rw [s1,p2,flatG,hR];rfl) (by rw [e1,p1,canE,hR];rfl) W h oG)
  have HC:Hid (canE G=4):=zH (by rw [canE,hR];rfl)
  have HV:Hid (canV G= []):=zH (by rw [canV,hR];rfl)
  have HQ:Hid (canQ G= []):=zH (by rw [canQ,hR];rfl)
  rw [HC.out]
  clear hx0 hG oG p1 p2 e1 s1 hR
  go_enter Tryz.func63,Tryz.ntmps63
  go_wp2_with fail
  refine (HB.out _ HG.out).mono ?_
  rintro e w1 ⟨A1,c1,rfl,h1,hx⟩
  replace HX:=zH (HX.out.trans hx)
  have kR:=(cells_of (HRX.out.at hx)).1
  have fR:=(cells_of (HRX.out.at hx)).2
  clear h1 hx kB kA HRX HBX
  go_wp2_with fail
  ((try simp only [Exit.inBlock,Exit.then]);refine bodyPost_ret (v:= .tuple #[.agg #[.slice none 0 0,.slice none 0 0],.int .i64 4]) (by simp only [results,Tryz.results63];go_simp) rfl ?_)
  exact retN_none HV.out HQ.out ((HX.out.setCell HVV.out _).setCell HVV.out _)
 | true=>
  have HO:=zH (ordOk_of oG hR)
  have HOL:=zH (ordG_len oG hR)
  have HN:Hid (G.ns.length≤1000):=zH (by have:=oG.2.1;omega)
  have HB:Hid (∀W,GraphAt W G→Calls Tryz.prog 66 #[.agg #[.slice G.nA G.ns.length G.ncap,.slice G.rA G.rs.length G.rcap]] W (RetFl W (ordZ (ordG G)) 0)):=zH (fun W h=>breadth_is G (ordZ (ordG G)) 0 (by rw [s1,p2,flatG,hR];rfl) (by rw [e1,p1,canE,hR];rfl) W h oG)
  have HC:Hid (canE G=0):=zH (by rw [canE,hR];rfl)
  have HV:Hid (canV G=renN G (ordZ (ordG G))):=zH (by rw [canV,hR,if_pos rfl,(renN_ord hR (ordOk_of oG hR)).1])
  have HQ:Hid (canQ G=renR G (ordZ (ordG G))):=zH (by rw [canQ,hR,if_pos rfl,(renN_ord hR (ordOk_of oG hR)).2])
  have HE:Hid (renE G (ordZ (ordG G))=0):=zH (renE_ord hR (ordOk_of oG hR))
  have HBD:Hid (∀x∈ordZ (ordG G), -9223372036854775808≤x∧x≤9223372036854775807):=zH (fun x hx=>by
   obtain ⟨i,hi,rfl⟩:=ordZ_mem.1 hx
   have:=HO.out.lt i hi
   rw [valN_len]at this
   have:=HN.out
   omega)
  have HSZ:Hid ((ordZ (ordG G)).length≤1000):=zH (by rw [ordZ_len];have:=HOL.out;have:=HN.out;omega)
  rw [HC.out]
  clear hx0 hG oG p1 p2 e1 s1 hR
  generalize ordZ (ordG G)=l at*
  go_enter Tryz.func63,Tryz.ntmps63
  go_wp2_with fail
  refine (HB.out _ HG.out).mono ?_
  rintro e w1 ⟨A1,c1,rfl,h1,hx⟩
  replace HX:=zH (HX.out.trans hx)
  replace HG:=zH (HG.out.ext hx)
  replace HBX:=zH (HBX.out.re hx)
  replace HRX:=zH (HRX.out.re hx)
  have HI:=zH (own_ints h1)
  have kA2:=(cells_of HBX.out.here).1
  clear h1 hx kB kA
  go_wp2_with fail
  clear kA2
  have Z:=ren_any G A1 c1 l w1 HG.out HOG.out.1 HI.out HSZ.out HBD.out
  rw [HE.out]at Z
  refine Z.mono ?_
  clear Z
  rintro e w2 ⟨H,rfl,g1,g2,g3,g4,g5,g6,g7,g8,hx⟩
  replace HX:=zH (HX.out.trans hx)
  have hr2:=HRX.out.at hx
  have kR:=(cells_of hr2).1
  have fR:=(cells_of hr2).2
  have hr3:=blk_set (i:=0) hr2 (.slice H.nA H.ns.length H.ncap)
  have HG1:=zH (g1.box hr2 (by simp) (by simp) 0 (.slice H.nA H.ns.length H.ncap))
  have HG2:=zH (HG1.out.box (s1:= .slice H.nA H.ns.length H.ncap) (s2:= .slice none 0 0) hr3 (by simp) (by simp) 1 (.slice H.rA H.rs.length H.rcap))
  have HF:=zH (show H.ns.map nodeV=canV G∧H.rs=canQ G from ⟨g2.trans HV.out.symm,g3.trans HQ.out.symm⟩)
  have HSH:=zH (show Shp H from ⟨g4,g5,g6,g7,g8⟩)
  clear g1 g2 g3 g4 g5 g6 g7 g8 hx hr2 hr3 HRX HBX HG1
  go_wp2_with fail
  ((try simp only [Exit.inBlock,Exit.then]);refine bodyPost_ret (v:= .tuple #[.agg #[.slice H.nA H.ns.length H.ncap,.slice H.rA H.rs.length H.rcap],.int .i64 0]) (by simp only [results,Tryz.results63];go_simp) rfl ?_)
  exact ⟨H,rfl,HG2.out,HF.out.1,HF.out.2,HSH.out.each,HSH.out.a,HSH.out.b,HSH.out.c,HSH.out.d,(HX.out.setCell HVV.out _).setCell HVV.out _⟩
theorem can_ok {G H:GraphD} (oG:GOk G) (hR:rightG G=true) (h1:H.ns.map nodeV=canV G) (h2:H.rs=canQ G) (hs:Shp H):GOk H∧rightG H=true:=
 turned_ok oG hR (ordOk_of oG hR) (h1.trans (by rw [canV,if_pos hR])) (h2.trans (by rw [canQ,if_pos hR])) hs
theorem same_can {A B H K:GraphD} (ra:rightG A=true) (rb:rightG B=true) (h1:H.ns.map nodeV=canV A) (h2:H.rs=canQ A) (h3:K.ns.map nodeV=canV B) (h4:K.rs=canQ B):sameG H K=alikeG A B:=by
 unfold sameG sameL alikeG
 rw [h1,h2,h3,h4,ra,rb]
 rfl
theorem alike_any (A B:GraphD) (V:World) (hA:GraphAt V A) (hB:GraphAt V B) (oA:GOk A) (oB:GOk B):
  Calls Tryz.prog 20 #[.agg #[.slice A.nA A.ns.length A.ncap,.slice A.rA A.rs.length A.rcap],.agg #[.slice B.nA B.ns.length B.ncap,.slice B.rA B.rs.length B.rcap]] V fun e w'=>e= .returned (.bool (alikeG A B))∧Ext V w':=by
 have hx0:=((Ext.refl V).alloc (.cells #[.slice A.nA A.ns.length A.ncap,.slice A.rA A.rs.length A.rcap] 27)).alloc (.cells #[.slice B.nA B.ns.length B.ncap,.slice B.rA B.rs.length B.rcap] 27)
 have hba:=(pers_new V #[.slice A.nA A.ns.length A.ncap,.slice A.rA A.rs.length A.rcap] 27 _ rfl).re ((Ext.refl _).alloc (.cells #[.slice B.nA B.ns.length B.ncap,.slice B.rA B.rs.length B.rcap] 27))
 have hbb:=pers_new (V.alloc (.cells #[.slice A.nA A.ns.length A.ncap,.slice A.rA A.rs.length A.rcap] 27)) #[.slice B.nA B.ns.length B.ncap,.slice B.rA B.rs.length B.rcap] 27 (V.heap.size+1) (by simp)
 have HX:=zH hx0
 have HA:=zH (hA.ext hx0)
 have HB:=zH (hB.ext hx0)
 have HBB:=zH hbb
 have HOA:=zH oA
 have HOB:=zH oB
 have ka:=(cells_of hba.here).1
 obtain ⟨ca,hca⟩:∃c,canE A=c:=⟨_,rfl⟩
 obtain ⟨cb,hcb⟩:∃c,canE B=c:=⟨_,rfl⟩
 obtain ⟨r,hr⟩:∃r,alikeG A B=r:=⟨_,rfl⟩
 have HCA:=zH hca
 have HCB:=zH hcb
 have HR:=zH hr
 rw [hr]
 clear hx0 hA hB oA oB hba hbb hca hcb hr
 go_enter Tryz.func20,Tryz.ntmps20
 go_wp2_with fail
 have Z:=canon_any A _ HA.out HOA.out
 rw [HCA.out]at Z
 refine Z.mono ?_
 clear Z
 rintro e w1 ⟨H,rfl,g1,g2,g3,g4,g5,g6,g7,g8,hx⟩
 replace HX:=zH (HX.out.trans hx)
 replace HB:=zH (HB.out.ext hx)
 replace HBB:=zH (HBB.out.re hx)
 have HG1:=zH g1
 have HF1:=zH (show H.ns.map nodeV=canV A∧H.rs=canQ A from ⟨g2,g3⟩)
 have HS1:=zH (show Shp H from ⟨g4,g5,g6,g7,g8⟩)
 have kb:=(cells_of HBB.out.here).1
 have hlb:=lt_of_heap HBB.out.here
 clear g1 g2 g3 g4 g5 g6 g7 g8 hx ka
 go_wp2_with fail
 have hx2:=(Ext.refl w1).alloc (.cells #[.slice H.nA H.ns.length H.ncap,.slice H.rA H.rs.length H.rcap] 27)
 have HBH:=zH (pers_new w1 #[.slice H.nA H.ns.length H.ncap,.slice H.rA H.rs.length H.rcap] 27 _ rfl)
 replace HX:=zH (HX.out.trans hx2)
 replace HB:=zH (HB.out.ext hx2)
 replace HG1:=zH (HG1.out.ext hx2)
 clear kb hlb hx2 HBB
 generalize w1.alloc (.cells #[.slice H.nA H.ns.length H.ncap,.slice H.rA H.rs.length H.rcap] 27)=w2 at*
 generalize w1.heap.size=X at*
 have Z:=canon_any B _ HB.out HOB.out
 rw [HCB.out]at Z
 refine Z.mono ?_
 clear Z
 rintro e w3 ⟨K,rfl,g1,g2,g3,g4,g5,g6,g7,g8,hx⟩
 replace HX:=zH (HX.out.trans hx)
 replace HG1:=zH (HG1.out.ext hx)
 replace HBH:=zH (HBH.out.re hx)
 have HG2:=zH g1
 have HF2:=zH (show K.ns.map nodeV=canV B∧K.rs=canQ B from ⟨g2,g3⟩)
 have HS2:=zH (show Shp K from ⟨g4,g5,g6,g7,g8⟩)
 have kx:=(cells_of HBH.out.here).1
 have hlx:=lt_of_heap HBH.out.here
 clear g1 g2 g3 g4 g5 g6 g7 g8 hx
 cases hra:rightG A with
 | false=>
  have hr0:r=false:=by rw [←HR.out,alikeG,hra];rfl
  have hc4:ca=4:=by rw [←HCA.out,canE,hra];rfl
  subst hr0 hc4
  go_wp2_with fail
  go_returns
  exact ⟨rfl,HX.out.alloc _⟩
 | true=>
 have hc0:ca=0:=by rw [←HCA.out,canE,hra];rfl
 subst hc0
 cases hrb:rightG B with
 | false=>
  have hr0:r=false:=by rw [←HR.out,alikeG,hrb,Bool.and_false];rfl
  have hc4:cb=4:=by rw [←HCB.out,canE,hrb];rfl
  subst hr0 hc4
  go_wp2_with fail
  go_returns
  exact ⟨rfl,HX.out.alloc _⟩
 | true=>
 have hc0:cb=0:=by rw [←HCB.out,canE,hrb];rfl
 subst hc0
 have HOH:=zH (can_ok HOA.out hra HF1.out.1 HF1.out.2 HS1.out).1
 have HOK:=zH (can_ok HOB.out hrb HF2.out.1 HF2.out.2 HS2.out).1
 have HSM:=zH ((same_can hra hrb HF1.out.1 HF1.out.2 HF2.out.1 HF2.out.2).trans HR.out)
 have hx2:=(Ext.refl w3).alloc (.cells #[.slice K.nA K.ns.length K.ncap,.slice K.rA K.rs.length K.rcap] 27)
 replace HX:=zH (HX.out.trans hx2)
 replace HG1:=zH (HG1.out.ext hx2)
 replace HG2:=zH (HG2.out.ext hx2)
 clear hra hrb HR HCA HCB hx2
 go_wp2_with fail
 refine (same_is H K r _ HSM.out HG1.out HG2.out HOH.out.1 HOK.out.1).mono ?_
 rintro e w4 ⟨rfl,hx⟩
 replace HX:=zH (HX.out.trans hx)
 clear hx kx hlx
 go_wp2_with fail
 go_returns
 exact ⟨rfl,HX.out⟩
theorem alike_is (A B:GraphD) (r:Bool) (h:alikeG A B=r) (V:World) (hA:GraphAt V A) (hB:GraphAt V B) (oA:GOk A) (oB:GOk B):
  Calls Tryz.prog 20 #[.agg #[.slice A.nA A.ns.length A.ncap,.slice A.rA A.rs.length A.rcap],.agg #[.slice B.nA B.ns.length B.ncap,.slice B.rA B.rs.length B.rcap]] V fun e w'=>e= .returned (.bool r)∧Ext V w':=by
 subst h;exact alike_any A B V hA hB oA oB
end Go.Proofs.YtphpppjfogpohaaGreat
