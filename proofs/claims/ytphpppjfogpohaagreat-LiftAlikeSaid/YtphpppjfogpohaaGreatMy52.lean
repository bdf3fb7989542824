/- Merged by program (merge.py) out of: LfF, LfH, LfJ, LwLa. -/
import Derived.Test.YtphpppjfogpohaaGreatMy0
import Derived.Test.YtphpppjfogpohaaGreatMy46
import Derived.Test.YtphpppjfogpohaaGreatMy51
import Derived.Test.YtphpppjfogpohaaGreatMy30
import Derived.Test.YtphpppjfogpohaaGreatMy21
import Derived.Test.YtphpppjfogpohaaGreatMy36
import Derived.Test.YtphpppjfogpohaaGreatMy44
set_option linter.unusedSimpArgs false
set_option linter.unusedVariables false
set_option maxRecDepth 100000
set_option maxHeartbeats 16000000
namespace Go.Proofs.YtphpppjfogpohaaGreat
open Go.RowKit Go.Shelf
noncomputable def eb (s:StD):GraphD:=grV (dQ s) (dR s)
noncomputable def iV (s:StD):Int×Int×Int×Int:=if chkS s=0 then (lvN (eb s),lvX (eb s) s.c3,lvY (eb s) s.c3,lvF (eb s) s.c3)else (0,0,0,0)
noncomputable def dZ (a b:StD):Bool:=decide (chkS a=0) && decide (chkS b=0) && bX (eb a) (eb b)
theorem eJ {s:StD} {H:GraphD} (h1:H.ns.map aX=dQ s) (h2:H.rs=dR s):valN H=valN (eb s)∧H.rs=(eb s).rs:=⟨h1.trans (tX _ _).symm,h2⟩
theorem xR {s:StD} (h:chkS s=0):1≤s.c3∧s.c3≤32768:=by
 have hc:=(LfOk.of h).ok.cfg
 simp only [cfgB,decide_eq_true_eq]at hc
 omega
theorem rG {G:GraphD} (h:aR G=true) {lim:Int} (h1:1≤lim):bi G lim 0 1=0:=by
 unfold bi
 rw [h,if_pos rfl]
 have:argB lim 0 1=false:=by
  simp [argB]
  omega
 rw [this]
 rfl
theorem vB (s:StD) (V:World) (h:StAt V s) (hb:LfB s):
  Calls Tryz.prog 27 #[.agg #[.int .i64 s.c0,.int .i64 s.c1,.int .i64 s.c2,.int .i64 s.c3,.bool s.snd,.slice s.wA s.ws.length s.wc,.int .i64 s.top,.slice s.tA s.tb.length s.tc,.slice s.fA s.fr.length s.fc,.slice s.sA s.sl.length s.sc]] V fun e w'=>e= .returned (.tuple #[.int .i64 (iV s).1,.int .i64 (iV s).2.1,.int .i64 (iV s).2.2.1,.int .i64 (iV s).2.2.2,.int .i64 (bT s)])∧Ext V w':=by
 have hx0:=(zo V).alloc (.cells #[.int .i64 s.c0,.int .i64 s.c1,.int .i64 s.c2,.int .i64 s.c3,.bool s.snd,.slice s.wA s.ws.length s.wc,.int .i64 s.top,.slice s.tA s.tb.length s.tc,.slice s.fA s.fr.length s.fc,.slice s.sA s.sl.length s.sc] 34)
 have HBS:=zH (aF V #[.int .i64 s.c0,.int .i64 s.c1,.int .i64 s.c2,.int .i64 s.c3,.bool s.snd,.slice s.wA s.ws.length s.wc,.int .i64 s.top,.slice s.tA s.tb.length s.tc,.slice s.fA s.fr.length s.fc,.slice s.sA s.sl.length s.sc] 34 _ rfl)
 have HX:=zH hx0
 have HS:=zH (h.ext hx0)
 have HB:=zH hb
 have kS:=(aB HBS.out.here).1
 have Z0:=gF s _ (h.ext hx0) hb
 clear hx0 h hb
 by_cases hc:chkS s=0
 rotate_left
 ·rw [show iV s=(0,0,0,0)by rw [iV,if_neg hc]]
  have he:bT s=4:=by rw [bT,if_neg hc]
  rw [he]at Z0⊢
  clear he hc
  go_enter Tryz.func27,Tryz.ntmps27
  go_wp2_with fail
  refine Z0.mono ?_
  clear Z0
  rintro e w1 ⟨H,A,cap,rfl, -, -, -, -, -,hx⟩
  replace HX:=zH (HX.out.trans hx)
  clear hx kS
  go_wp2_with fail
  go_returns
  exact ⟨rfl,HX.out.alloc _⟩
 have HC:=zH hc
 have HLM:=zH (xR hc)
 obtain ⟨n,x,y,f,hT⟩:∃n x y f,iV s=(n,x,y,f):=⟨_,_,_,_,rfl⟩
 have HT:=zH (show (n,x,y,f)=(lvN (eb s),lvX (eb s) s.c3,lvY (eb s) s.c3,lvF (eb s) s.c3)by rw [←hT,iV,if_pos hc])
 rw [hT]
 have he:bT s=0:=by rw [bT,if_pos hc]
 rw [he]at Z0⊢
 clear he hc hT
 go_enter Tryz.func27,Tryz.ntmps27
 go_wp2_with fail
 refine Z0.mono ?_
 clear Z0
 rintro e w1 ⟨H,A,cap,rfl,g1,g2,g3,g4, -,hx⟩
 replace HX:=zH (HX.out.trans hx)
 replace HBS:=zH (HBS.out.re hx)
 have HG:=zH g1
 have HOK:=zH (iO HC.out HB.out.ws HB.out.sl HB.out.b.wb HB.out.b.sb g2 g3 g4)
 obtain ⟨v1,v2⟩:=eJ g2 g3
 obtain ⟨q1,q2,q3,q4⟩:=zN v1 v2 s.c3
 have HQ:Hid (n=lvN H∧x=lvX H s.c3∧y=lvY H s.c3∧f=lvF H s.c3):=zH (by
  have:=HT.out
  simp only [Prod.mk.injEq]at this
  obtain ⟨a,b,c,d⟩:=this
  exact ⟨a.trans q1.symm,b.trans q2.symm,c.trans q3.symm,d.trans q4.symm⟩)
 clear g1 g2 g3 g4 v1 v2 q1 q2 q3 q4 hx HT kS
 go_wp2_with fail
 have hy:=(zo w1).alloc (.cells #[.slice H.nA H.ns.length H.ncap,.slice H.rA H.rs.length H.rcap] 27)
 have HBG:=zH (aF w1 #[.slice H.nA H.ns.length H.ncap,.slice H.rA H.rs.length H.rcap] 27 _ rfl)
 replace HX:=zH (HX.out.trans hy)
 replace HG:=zH (HG.out.ext hy)
 replace HBS:=zH (HBS.out.re hy)
 clear hy
 generalize w1.alloc (.cells #[.slice H.nA H.ns.length H.ncap,.slice H.rA H.rs.length H.rcap] 27)=W1 at*
 generalize w1.heap.size=X at*
 have HPE:Hid (bi H s.c3 0 1=0):=zH (rG HOK.out.2 HLM.out.1)
 obtain ⟨S,hS⟩:∃S,l8 (planS H 1048576 1 1)=S:=⟨_,rfl⟩
 have HN:Hid (n=(S.length:Int)):=zH (by rw [HQ.out.1,←hS,lvN,l8,List.length_mergeSort])
 have Z:=xN H S _ hS rfl _ HG.out HOK.out.1
 clear hS
 rw [show bi H 1048576 1 1=0 from by
  have:=HPE.out
  unfold bi at this⊢
  rw [HOK.out.2,if_pos rfl]
  rfl]at Z
 refine Z.mono ?_
 clear Z
 rintro e w2 ⟨A2,cap2,rfl, -,hx⟩
 replace HX:=zH (HX.out.trans hx)
 replace HG:=zH (HG.out.ext hx)
 replace HBS:=zH (HBS.out.re hx)
 replace HBG:=zH (HBG.out.re hx)
 have kG:=(aB HBG.out.here).1
 have kS:=(aB HBS.out.here).1
 clear hx
 go_wp2_with fail
 clear kG kS
 have Z:=yX H s.c3 x y f 0 HQ.out.2.1.symm HQ.out.2.2.1.symm HQ.out.2.2.2.symm HPE.out _ HG.out HOK.out.1 (by have:=HLM.out;omega)
 refine Z.mono ?_
 clear Z
 rintro e w3 ⟨rfl,hx⟩
 replace HX:=zH (HX.out.trans hx)
 clear hx
 go_wp2_with fail
 go_returns
 exact ⟨by rw [HN.out],HX.out⟩
theorem mQ (s t:StD) (V:World) (hs:StAt V s) (ht:StAt V t) (bs:LfB s) (bt:LfB t):
  Calls Tryz.prog 31 #[.agg #[.int .i64 s.c0,.int .i64 s.c1,.int .i64 s.c2,.int .i64 s.c3,.bool s.snd,.slice s.wA s.ws.length s.wc,.int .i64 s.top,.slice s.tA s.tb.length s.tc,.slice s.fA s.fr.length s.fc,.slice s.sA s.sl.length s.sc],.agg #[.int .i64 t.c0,.int .i64 t.c1,.int .i64 t.c2,.int .i64 t.c3,.bool t.snd,.slice t.wA t.ws.length t.wc,.int .i64 t.top,.slice t.tA t.tb.length t.tc,.slice t.fA t.fr.length t.fc,.slice t.sA t.sl.length t.sc]] V fun e w'=>e= .returned (.bool (dZ s t))∧Ext V w':=by
 have hx0:=((zo V).alloc (.cells #[.int .i64 s.c0,.int .i64 s.c1,.int .i64 s.c2,.int .i64 s.c3,.bool s.snd,.slice s.wA s.ws.length s.wc,.int .i64 s.top,.slice s.tA s.tb.length s.tc,.slice s.fA s.fr.length s.fc,.slice s.sA s.sl.length s.sc] 34)).alloc (.cells #[.int .i64 t.c0,.int .i64 t.c1,.int .i64 t.c2,.int .i64 t.c3,.bool t.snd,.slice t.wA t.ws.length t.wc,.int .i64 t.top,.slice t.tA t.tb.length t.tc,.slice t.fA t.fr.length t.fc,.slice t.sA t.sl.length t.sc] 34)
 have HBS:=zH ((aF V #[.int .i64 s.c0,.int .i64 s.c1,.int .i64 s.c2,.int .i64 s.c3,.bool s.snd,.slice s.wA s.ws.length s.wc,.int .i64 s.top,.slice s.tA s.tb.length s.tc,.slice s.fA s.fr.length s.fc,.slice s.sA s.sl.length s.sc] 34 _ rfl).re ((zo _).alloc (.cells #[.int .i64 t.c0,.int .i64 t.c1,.int .i64 t.c2,.int .i64 t.c3,.bool t.snd,.slice t.wA t.ws.length t.wc,.int .i64 t.top,.slice t.tA t.tb.length t.tc,.slice t.fA t.fr.length t.fc,.slice t.sA t.sl.length t.sc] 34)))
 have HBT:=zH (aF (V.alloc (.cells #[.int .i64 s.c0,.int .i64 s.c1,.int .i64 s.c2,.int .i64 s.c3,.bool s.snd,.slice s.wA s.ws.length s.wc,.int .i64 s.top,.slice s.tA s.tb.length s.tc,.slice s.fA s.fr.length s.fc,.slice s.sA s.sl.length s.sc] 34)) #[.int .i64 t.c0,.int .i64 t.c1,.int .i64 t.c2,.int .i64 t.c3,.bool t.snd,.slice t.wA t.ws.length t.wc,.int .i64 t.top,.slice t.tA t.tb.length t.tc,.slice t.fA t.fr.length t.fc,.slice t.sA t.sl.length t.sc] 34 (V.heap.size+1) sM)
 have HX:=zH hx0
 have HS:=zH (hs.ext hx0)
 have HT:=zH (ht.ext hx0)
 have HB1:=zH bs
 have HB2:=zH bt
 have kS:=(aB HBS.out.here).1
 clear hx0 hs ht bs bt
 obtain ⟨r,hr⟩:∃r,dZ s t=r:=⟨_,rfl⟩
 have HR:=zH hr
 rw [hr]
 obtain ⟨c1,hc1⟩:∃c,bT s=c:=⟨_,rfl⟩
 obtain ⟨c2,hc2⟩:∃c,bT t=c:=⟨_,rfl⟩
 have HC1:=zH hc1
 have HC2:=zH hc2
 clear hr hc1 hc2
 go_enter Tryz.func31,Tryz.ntmps31
 go_wp2_with fail
 have Z:=gF s _ HS.out HB1.out
 rw [HC1.out]at Z
 refine Z.mono ?_
 clear Z
 rintro e w1 ⟨H,A,cap,rfl,g1,g2,g3,g4, -,hx⟩
 replace HX:=zH (HX.out.trans hx)
 replace HT:=zH (HT.out.ext hx)
 replace HBT:=zH (HBT.out.re hx)
 have HG:=zH g1
 have HV:=zH (show H.ns.map aX=dQ s∧H.rs=dR s∧Shp H from ⟨g2,g3,g4⟩)
 have kT:=(aB HBT.out.here).1
 have lT:=aA HBT.out.here
 clear g1 g2 g3 g4 hx kS
 go_wp2_with fail
 clear kT lT
 have hy:=(zo w1).alloc (.cells #[.slice H.nA H.ns.length H.ncap,.slice H.rA H.rs.length H.rcap] 27)
 have HBG:=zH (aF w1 #[.slice H.nA H.ns.length H.ncap,.slice H.rA H.rs.length H.rcap] 27 _ rfl)
 replace HX:=zH (HX.out.trans hy)
 replace HG:=zH (HG.out.ext hy)
 replace HT:=zH (HT.out.ext hy)
 clear hy
 generalize w1.alloc (.cells #[.slice H.nA H.ns.length H.ncap,.slice H.rA H.rs.length H.rcap] 27)=W1 at*
 generalize w1.heap.size=X at*
 have Z:=gF t _ HT.out HB2.out
 rw [HC2.out]at Z
 refine Z.mono ?_
 clear Z
 rintro e w2 ⟨K,A2,cap2,rfl,g1,g2,g3,g4, -,hx⟩
 replace HX:=zH (HX.out.trans hx)
 replace HG:=zH (HG.out.ext hx)
 replace HBG:=zH (HBG.out.re hx)
 have HK:=zH g1
 have HV2:=zH (show K.ns.map aX=dQ t∧K.rs=dR t∧Shp K from ⟨g2,g3,g4⟩)
 have kG:=(aB HBG.out.here).1
 have lG:=aA HBG.out.here
 clear g1 g2 g3 g4 hx
 by_cases h1:chkS s=0
 rotate_left
 ·have e1:c1=4:=by rw [←HC1.out,bT,if_neg h1]
  have e2:r=false:=by rw [←HR.out,dZ,decide_eq_false h1];rfl
  subst e1 e2
  by_cases h2:chkS t=0
  ·have e3:c2=0:=by rw [←HC2.out,bT,if_pos h2]
   subst e3
   go_wp2_with fail
   go_returns
   exact ⟨rfl,HX.out.alloc _⟩
  ·have e3:c2=4:=by rw [←HC2.out,bT,if_neg h2]
   subst e3
   go_wp2_with fail
   go_returns
   exact ⟨rfl,HX.out.alloc _⟩
 have e1:c1=0:=by rw [←HC1.out,bT,if_pos h1]
 subst e1
 by_cases h2:chkS t=0
 rotate_left
 ·have e3:c2=4:=by rw [←HC2.out,bT,if_neg h2]
  have e2:r=false:=by rw [←HR.out,dZ,decide_eq_false h2,Bool.and_false];rfl
  subst e3 e2
  go_wp2_with fail
  go_returns
  exact ⟨rfl,HX.out.alloc _⟩
 have e3:c2=0:=by rw [←HC2.out,bT,if_pos h2]
 subst e3
 have HO1:=zH (iO h1 HB1.out.ws HB1.out.sl HB1.out.b.wb HB1.out.b.sb HV.out.1 HV.out.2.1 HV.out.2.2)
 have HO2:=zH (iO h2 HB2.out.ws HB2.out.sl HB2.out.b.wb HB2.out.b.sb HV2.out.1 HV2.out.2.1 HV2.out.2.2)
 have HAL:Hid (bX H K=r):=zH (by
  rw [←HR.out,dZ,decide_eq_true h1,decide_eq_true h2]
  exact mP (eJ HV.out.1 HV.out.2.1).1 (eJ HV.out.1 HV.out.2.1).2 (eJ HV2.out.1 HV2.out.2.1).1 (eJ HV2.out.1 HV2.out.2.1).2)
 clear h1 h2 HR
 go_wp2_with fail
 have hy:=(zo w2).alloc (.cells #[.slice K.nA K.ns.length K.ncap,.slice K.rA K.rs.length K.rcap] 27)
 replace HX:=zH (HX.out.trans hy)
 replace HG:=zH (HG.out.ext hy)
 replace HK:=zH (HK.out.ext hy)
 clear hy kG lG
 generalize w2.alloc (.cells #[.slice K.nA K.ns.length K.ncap,.slice K.rA K.rs.length K.rcap] 27)=W2 at*
 refine (xQ H K r HAL.out _ HG.out HK.out HO1.out.1 HO2.out.1).mono ?_
 rintro e w3 ⟨rfl,hx⟩
 replace HX:=zH (HX.out.trans hx)
 clear hx
 go_wp2_with fail
 go_returns
 exact ⟨rfl,HX.out⟩
theorem m7 (s t:StD) (V:World) (hs:StAt V s) (ht:StAt V t) (bs:LfB s) (bt:LfB t):
  Calls Tryz.prog 32 #[.agg #[.int .i64 s.c0,.int .i64 s.c1,.int .i64 s.c2,.int .i64 s.c3,.bool s.snd,.slice s.wA s.ws.length s.wc,.int .i64 s.top,.slice s.tA s.tb.length s.tc,.slice s.fA s.fr.length s.fc,.slice s.sA s.sl.length s.sc],.agg #[.int .i64 t.c0,.int .i64 t.c1,.int .i64 t.c2,.int .i64 t.c3,.bool t.snd,.slice t.wA t.ws.length t.wc,.int .i64 t.top,.slice t.tA t.tb.length t.tc,.slice t.fA t.fr.length t.fc,.slice t.sA t.sl.length t.sc]] V fun e w'=>e= .returned (.bool (dZ s t))∧Ext V w':=by
 have hx0:=((zo V).alloc (.cells #[.int .i64 s.c0,.int .i64 s.c1,.int .i64 s.c2,.int .i64 s.c3,.bool s.snd,.slice s.wA s.ws.length s.wc,.int .i64 s.top,.slice s.tA s.tb.length s.tc,.slice s.fA s.fr.length s.fc,.slice s.sA s.sl.length s.sc] 34)).alloc (.cells #[.int .i64 t.c0,.int .i64 t.c1,.int .i64 t.c2,.int .i64 t.c3,.bool t.snd,.slice t.wA t.ws.length t.wc,.int .i64 t.top,.slice t.tA t.tb.length t.tc,.slice t.fA t.fr.length t.fc,.slice t.sA t.sl.length t.sc] 34)
 have HBS:=zH ((aF V #[.int .i64 s.c0,.int .i64 s.c1,.int .i64 s.c2,.int .i64 s.c3,.bool s.snd,.slice s.wA s.ws.length s.wc,.int .i64 s.top,.slice s.tA s.tb.length s.tc,.slice s.fA s.fr.length s.fc,.slice s.sA s.sl.length s.sc] 34 _ rfl).re ((zo _).alloc (.cells #[.int .i64 t.c0,.int .i64 t.c1,.int .i64 t.c2,.int .i64 t.c3,.bool t.snd,.slice t.wA t.ws.length t.wc,.int .i64 t.top,.slice t.tA t.tb.length t.tc,.slice t.fA t.fr.length t.fc,.slice t.sA t.sl.length t.sc] 34)))
 have HBT:=zH (aF (V.alloc (.cells #[.int .i64 s.c0,.int .i64 s.c1,.int .i64 s.c2,.int .i64 s.c3,.bool s.snd,.slice s.wA s.ws.length s.wc,.int .i64 s.top,.slice s.tA s.tb.length s.tc,.slice s.fA s.fr.length s.fc,.slice s.sA s.sl.length s.sc] 34)) #[.int .i64 t.c0,.int .i64 t.c1,.int .i64 t.c2,.int .i64 t.c3,.bool t.snd,.slice t.wA t.ws.length t.wc,.int .i64 t.top,.slice t.tA t.tb.length t.tc,.slice t.fA t.fr.length t.fc,.slice t.sA t.sl.length t.sc] 34 (V.heap.size+1) sM)
 have HX:=zH hx0
 have HS:=zH (hs.ext hx0)
 have HT:=zH (ht.ext hx0)
 have HB1:=zH bs
 have HB2:=zH bt
 have kS:=(aB HBS.out.here).1
 clear hx0 hs ht bs bt
 obtain ⟨r,hr⟩:∃r,dZ s t=r:=⟨_,rfl⟩
 have HR:=zH hr
 rw [hr]
 obtain ⟨c1,hc1⟩:∃c,bT s=c:=⟨_,rfl⟩
 obtain ⟨c2,hc2⟩:∃c,bT t=c:=⟨_,rfl⟩
 have HC1:=zH hc1
 have HC2:=zH hc2
 clear hr hc1 hc2
 go_enter Tryz.func32,Tryz.ntmps32
 go_wp2_with fail
 have Z:=nU s _ HS.out HB1.out
 rw [HC1.out]at Z
 refine Z.mono ?_
 clear Z
 rintro e w1 ⟨H,A,cap,rfl,g1,g2,g3,g4, -,hx⟩
 replace HX:=zH (HX.out.trans hx)
 replace HT:=zH (HT.out.ext hx)
 replace HBT:=zH (HBT.out.re hx)
 have HG:=zH g1
 have HV:=zH (show H.ns.map aX=dQ s∧H.rs=dR s∧Shp H from ⟨g2,g3,g4⟩)
 have kT:=(aB HBT.out.here).1
 have lT:=aA HBT.out.here
 clear g1 g2 g3 g4 hx kS
 go_wp2_with fail
 clear kT lT
 have hy:=(zo w1).alloc (.cells #[.slice H.nA H.ns.length H.ncap,.slice H.rA H.rs.length H.rcap] 27)
 have HBG:=zH (aF w1 #[.slice H.nA H.ns.length H.ncap,.slice H.rA H.rs.length H.rcap] 27 _ rfl)
 replace HX:=zH (HX.out.trans hy)
 replace HG:=zH (HG.out.ext hy)
 replace HT:=zH (HT.out.ext hy)
 clear hy
 generalize w1.alloc (.cells #[.slice H.nA H.ns.length H.ncap,.slice H.rA H.rs.length H.rcap] 27)=W1 at*
 generalize w1.heap.size=X at*
 have Z:=nU t _ HT.out HB2.out
 rw [HC2.out]at Z
 refine Z.mono ?_
 clear Z
 rintro e w2 ⟨K,A2,cap2,rfl,g1,g2,g3,g4, -,hx⟩
 replace HX:=zH (HX.out.trans hx)
 replace HG:=zH (HG.out.ext hx)
 replace HBG:=zH (HBG.out.re hx)
 have HK:=zH g1
 have HV2:=zH (show K.ns.map aX=dQ t∧K.rs=dR t∧Shp K from ⟨g2,g3,g4⟩)
 have kG:=(aB HBG.out.here).1
 have lG:=aA HBG.out.here
 clear g1 g2 g3 g4 hx
 by_cases h1:chkS s=0
 rotate_left
 ·have e1:c1=4:=by rw [←HC1.out,bT,if_neg h1]
  have e2:r=false:=by rw [←HR.out,dZ,decide_eq_false h1];rfl
  subst e1 e2
  by_cases h2:chkS t=0
  ·have e3:c2=0:=by rw [←HC2.out,bT,if_pos h2]
   subst e3
   go_wp2_with fail
   go_returns
   exact ⟨rfl,HX.out.alloc _⟩
  ·have e3:c2=4:=by rw [←HC2.out,bT,if_neg h2]
   subst e3
   go_wp2_with fail
   go_returns
   exact ⟨rfl,HX.out.alloc _⟩
 have e1:c1=0:=by rw [←HC1.out,bT,if_pos h1]
 subst e1
 by_cases h2:chkS t=0
 rotate_left
 ·have e3:c2=4:=by rw [←HC2.out,bT,if_neg h2]
  have e2:r=false:=by rw [←HR.out,dZ,decide_eq_false h2,Bool.and_false];rfl
  subst e3 e2
  go_wp2_with fail
  go_returns
  exact ⟨rfl,HX.out.alloc _⟩
 have e3:c2=0:=by rw [←HC2.out,bT,if_pos h2]
 subst e3
 have HO1:=zH (iO h1 HB1.out.ws HB1.out.sl HB1.out.b.wb HB1.out.b.sb HV.out.1 HV.out.2.1 HV.out.2.2)
 have HO2:=zH (iO h2 HB2.out.ws HB2.out.sl HB2.out.b.wb HB2.out.b.sb HV2.out.1 HV2.out.2.1 HV2.out.2.2)
 have HAL:Hid (bX H K=r):=zH (by
  rw [←HR.out,dZ,decide_eq_true h1,decide_eq_true h2]
  exact mP (eJ HV.out.1 HV.out.2.1).1 (eJ HV.out.1 HV.out.2.1).2 (eJ HV2.out.1 HV2.out.2.1).1 (eJ HV2.out.1 HV2.out.2.1).2)
 clear h1 h2 HR
 go_wp2_with fail
 have hy:=(zo w2).alloc (.cells #[.slice K.nA K.ns.length K.ncap,.slice K.rA K.rs.length K.rcap] 27)
 replace HX:=zH (HX.out.trans hy)
 replace HG:=zH (HG.out.ext hy)
 replace HK:=zH (HK.out.ext hy)
 clear hy kG lG
 generalize w2.alloc (.cells #[.slice K.nA K.ns.length K.ncap,.slice K.rA K.rs.length K.rcap] 27)=W2 at*
 have Z:=sO H K _ HG.out HK.out HO1.out.1 HO2.out.1
 unfold tQ at Z
 rw [HAL.out]at Z
 refine Z.mono ?_
 clear Z
 rintro e w3 ⟨A3,cap3,rfl, -,hx⟩
 replace HX:=zH (HX.out.trans hx)
 clear hx
 generalize (mtS H K).length=nm at*
 go_wp2_with fail
 go_returns
 exact ⟨rfl,HX.out⟩
def lf0w:List Int:= [0,0,0,0,0,0,0,0]
def lf1w:List Int:= [259,2,0,0,0,0,0,0]
def lf0s:List (Bool×Int×Int):= [(false,0,0),(false,0,0)]
def lf1s:List (Bool×Int×Int):= [(false,0,0),(true,0,2)]
theorem xS:ledR (bE 4 0 2 3) (az 4 0 2 3) [] []=true:=xz (c0:=4) (c1:=0) (c2:=2) (c3:=3) dM
theorem lf_a:checkZ 4 0 2 3 false lf1w 2 [] [] lf1s=0:=by rw [nB xS];decide+kernel
theorem lf_b:checkZ 4 0 2 3 false lf1w 1 [] [] lf1s=4:=by rw [nB xS];decide+kernel
theorem xT:smallsL 4 0 2 3 false lf1w 2= [0]:=by decide+kernel
theorem zO:newS 4 0 2 3=⟨4,0,2,3,false,none,lf0w,0,0,none,[],0,none,[],0,none,lf0s,0⟩:=by rfl
section
variable {wA : Option Addr} {ws : List Int} {wc : Nat} {top : Int} {tA : Option Addr} {tc : Nat} {fA : Option Addr} {fc : Nat} {sA : Option Addr} {sl : List (Bool × Int × Int)} {sc : Nat}
def lfD (wA:Option Addr) (ws:List Int) (wc:Nat) (top:Int) (tA:Option Addr) (tc:Nat) (fA:Option Addr) (fc:Nat) (sA:Option Addr) (sl:List (Bool×Int×Int)) (sc:Nat):StD:=⟨4,0,2,3,false,wA,ws,wc,top,tA,[],tc,fA,[],fc,sA,sl,sc⟩
theorem yh {B:Nat} {w:World} (h:StOwn B w (lfD wA lf1w wc top tA tc fA fc sA lf1s sc)):LfB (lfD wA lf1w wc top tA tc fA fc sA lf1s sc):=
 ⟨by simp [lfD,lf1w],by simp [lfD],by simp [lfD],by simp [lfD,lf1s],⟨by simp [lfD,lf1w],by simp [lfD],by simp [lfD,lf1s]⟩,(ag h.t aE dM).2.1,(ag h.w dA dM).2.2⟩
theorem iC:chkS (lfD wA lf1w wc 2 tA tc fA fc sA lf1s sc)=0:=lf_a
theorem tY:chkS (lfD wA lf1w wc 1 tA tc fA fc sA lf1s sc)≠0:=by
 show checkZ 4 0 2 3 false lf1w 1 [] [] lf1s≠0
 rw [lf_b]
 decide
theorem pF:bR (lfD wA lf1w wc 2 tA tc fA fc sA lf1s sc)= [0]:=by
 show smallsL 4 0 2 3 false lf1w 2++ []= [0]
 rw [xT]
 rfl
theorem lf_o:gi (lfD wA lf1w wc 2 tA tc fA fc sA lf1s sc)= [0]:=by rw [gi,if_pos iC,pF]
theorem lf_e:bT (lfD wA lf1w wc 2 tA tc fA fc sA lf1s sc)=0:=by rw [bT,if_pos iC]
theorem zj:bT (lfD wA lf1w wc 1 tA tc fA fc sA lf1s sc)=4:=by rw [bT,if_neg tY]
theorem yY:eL lf1w [0] 0=(0,[(2,0)],[]):=by decide+kernel
theorem lf_v:dQ (lfD wA lf1w wc 2 tA tc fA fc sA lf1s sc)= [(0,[(2,0)],[])]:=by
 rw [dQ,if_pos iC,pF]
 show [eL lf1w [0] 0]=_
 rw [yY]
theorem lf_q:dR (lfD wA lf1w wc 2 tA tc fA fc sA lf1s sc)= [(2,0)]:=by
 rw [dR,if_pos iC,pF]
 show (bS lf1s).map (turnZ [0])=_
 decide+kernel
theorem yZ:mK (lfD wA lf1w wc 2 tA tc fA fc sA lf1s sc)= [(2,0)]:=by
 rw [mK,if_pos iC]
 show (bS lf1s).map dvZ=_
 decide+kernel
def lfG:GraphD:=grV [(0,[(2,0)],[])] [(2,0)]
theorem lf_g:eb (lfD wA lf1w wc 2 tA tc fA fc sA lf1s sc)=lfG:=by
 rw [eb,lf_v,lf_q]
 rfl
theorem zl:planS lfG 1048576 1 1= [0]:=by kernel_rfl
theorem zP:planS lfG 3 0 1= [0]:=by kernel_rfl
theorem zQ:planL lfG 3 0 1= []:=by kernel_rfl
theorem lf_t:iV (lfD wA lf1w wc 2 tA tc fA fc sA lf1s sc)=(1,2,0,1):=by
 rw [iV,if_pos iC,lf_g]
 show (lvN lfG,lvX lfG 3,lvY lfG 3,lvF lfG 3)=_
 rw [lvN,lvX,lvY,lvF,zl,zP,zQ]
 simp [addS,lfG,grV,gg,kJ,wrap64]
theorem xU:bX lfG lfG=true:=by
 rw [ij]
 exact ⟨by kernel_rfl,by kernel_rfl,rfl,rfl⟩
end
section
variable {wA : Option Addr} {wc : Nat} {tA : Option Addr} {tc : Nat} {fA : Option Addr} {fc : Nat} {sA : Option Addr} {sc : Nat} {wA2 : Option Addr} {wc2 : Nat} {tA2 : Option Addr} {tc2 : Nat} {fA2 : Option Addr} {fc2 : Nat} {sA2 : Option Addr} {sc2 : Nat}
theorem y4:dZ (lfD wA lf1w wc 2 tA tc fA fc sA lf1s sc) (lfD wA2 lf1w wc2 2 tA2 tc2 fA2 fc2 sA2 lf1s sc2)=true:=by
 rw [dZ,iC,iC,lf_g,lf_g,xU]
 rfl
theorem xV:dZ (lfD wA lf1w wc 2 tA tc fA fc sA lf1s sc) (lfD wA2 lf1w wc2 1 tA2 tc2 fA2 fc2 sA2 lf1s sc2)=false:=by
 rw [dZ,decide_eq_false tY]
 simp
end
def yi (V:World) (ws:List Int) (top:Int) (sl:List (Bool×Int×Int)) (g:Value→Value) (e:Ending) (w':World):Prop:=∃wA wc tA tc fA fc sA sc,e= .returned (g (.agg #[.int .i64 4,.int .i64 0,.int .i64 2,.int .i64 3,.bool false,.slice wA 8 wc,.int .i64 top,.slice tA 0 tc,.slice fA 0 fc,.slice sA 2 sc]))∧StOwn V.heap.size w' (lfD wA ws wc top tA tc fA fc sA sl sc)∧Ext V w'
theorem zn (V:World):Calls Tryz.prog 39 #[.agg #[.int .i64 4,.int .i64 0,.int .i64 2,.int .i64 3]] V (yi V lf0w 0 lf0s (fun v=> .tuple #[v,.int .i64 0])):=by
 refine (uN 4 0 2 3 V).mono ?_
 rintro e w' ⟨t,he,ho,hv,hx⟩
 rw [zO]at hv
 obtain ⟨⟨a1,a2,a3,a4⟩,a5,a6,a7,a8,a9,a10⟩:=qC.1 hv
 obtain ⟨c0,c1,c2,c3,sn,wA,ws',wc,top',tA,tb,tc,fA,fr,fc,sA,sl',sc⟩:=t
 simp only at a1 a2 a3 a4 a5 a6 a7 a8 a9 a10
 subst a1 a2 a3 a4 a5 a6 a7 a8 a9 a10
 exact ⟨wA,wc,tA,tc,fA,fc,sA,sc,he,ho,hx⟩
section
variable {wA : Option Addr} {wc : Nat} {top : Int} {tA : Option Addr} {tc : Nat} {fA : Option Addr} {fc : Nat} {sA : Option Addr} {sc : Nat} {wA2 : Option Addr} {wc2 : Nat} {top2 : Int} {tA2 : Option Addr} {tc2 : Nat} {fA2 : Option Addr} {fc2 : Nat} {sA2 : Option Addr} {sc2 : Nat}
theorem zR (V:World) (h:StAt V (lfD wA lf1w wc top tA tc fA fc sA lf1s sc)):Calls Tryz.prog 37 #[.agg #[.int .i64 4,.int .i64 0,.int .i64 2,.int .i64 3,.bool false,.slice wA 8 wc,.int .i64 top,.slice tA 0 tc,.slice fA 0 fc,.slice sA 2 sc]] V (yi V lf1w top lf1s (fun v=>v)):=by
 have Z:=uB _ V h ⟨by simp [lfD,lf1w],by simp [lfD],by simp [lfD],by simp [lfD,lf1s]⟩
 refine Calls.mono Z ?_
 rintro e w' ⟨t,he,ho,hv,hx⟩
 obtain ⟨⟨a1,a2,a3,a4⟩,a5,a6,a7,a8,a9,a10⟩:=qC.1 hv
 obtain ⟨c0,c1,c2,c3,sn,wA,ws',wc,top',tA,tb,tc,fA,fr,fc,sA,sl',sc⟩:=t
 simp only [lfD]at a1 a2 a3 a4 a5 a6 a7 a8 a9 a10
 subst a1 a2 a3 a4 a5 a6 a7 a8 a9 a10
 exact ⟨wA,wc,tA,tc,fA,fc,sA,sc,by rw [he];rfl,ho,hx⟩
theorem zS (V:World) (h:StAt V (lfD wA lf1w wc 2 tA tc fA fc sA lf1s sc)) (hb:LfB (lfD wA lf1w wc 2 tA tc fA fc sA lf1s sc)):Calls Tryz.prog 18 #[.agg #[.int .i64 4,.int .i64 0,.int .i64 2,.int .i64 3,.bool false,.slice wA 8 wc,.int .i64 2,.slice tA 0 tc,.slice fA 0 fc,.slice sA 2 sc]] V fun e w'=>
  ∃nb no nc rb ro rc fb fo fc2 A cap,e= .returned (.tuple #[.agg #[.slice (some ⟨nb,no,none⟩) 1 nc,.slice (some ⟨rb,ro,none⟩) 1 rc],.slice A 1 cap,.int .i64 0])∧w'.cell? ⟨nb,no+1,none⟩=some (.slice (some ⟨fb,fo,none⟩) 1 fc2)∧w'.cell? ⟨fb,fo,none⟩=some (.int .i64 2)∧w'.cell? ⟨fb,fo+1,none⟩=some (.int .i64 0)∧w'.cell? ⟨rb,ro+1,none⟩=some (.int .i64 0)∧Ext V w':=by
 have Z:=gF _ V h hb
 rw [lf_v,lf_q,lf_o,lf_e]at Z
 refine Calls.mono Z ?_
 rintro e w' ⟨H,A,cap,he,hg,h1,h2,hs, -,hx⟩
 obtain ⟨nA,nc,ns,rA,rc,rs⟩:=H
 simp only at h1 h2
 subst h2
 obtain ⟨x,rfl⟩:∃x,ns= [x]:=by
  have:=congrArg List.length h1
  simp at this
  exact List.length_eq_one_iff.1 this
 simp only [List.map_cons,List.map_nil,List.cons.injEq,and_true]at h1
 obtain ⟨xk,xA,xc,fs,yA,yc,ys⟩:=x
 simp only [aX,Prod.mk.injEq]at h1
 obtain ⟨rfl,rfl,rfl⟩:=h1
 obtain ⟨nb,no,rfl,hcn⟩:=hg.nodes.row.get sM
 obtain ⟨rb,ro,rfl,hcr⟩:=hg.roots.get sM
 have hx1:=hg.nodes.each _ (List.mem_singleton.2 rfl)
 obtain ⟨fb,fo,hf,hcf⟩:=hx1.fields.get sM
 simp only at hf
 subst hf
 obtain ⟨d0,d1,d2⟩:=bB hcn (k:=0) sM
 obtain ⟨f0,f1⟩:=aQ hcf (k:=0) sM
 obtain ⟨r0,r1⟩:=aQ hcr (k:=0) sM
 exact ⟨nb,no,nc,rb,ro,rc,fb,fo,xc,A,cap,by rw [he];rfl,by simpa using d1,by simpa using f0,by simpa using f1,by simpa using r1,hx⟩
theorem y5 (V:World) (h:StAt V (lfD wA lf1w wc 1 tA tc fA fc sA lf1s sc)) (hb:LfB (lfD wA lf1w wc 1 tA tc fA fc sA lf1s sc)):Calls Tryz.prog 18 #[.agg #[.int .i64 4,.int .i64 0,.int .i64 2,.int .i64 3,.bool false,.slice wA 8 wc,.int .i64 1,.slice tA 0 tc,.slice fA 0 fc,.slice sA 2 sc]] V fun e w'=>
  ∃(H:GraphD) (A:Option Addr) (n cap:Nat),e= .returned (.tuple #[.agg #[.slice H.nA H.ns.length H.ncap,.slice H.rA H.rs.length H.rcap],.slice A n cap,.int .i64 4])∧Ext V w':=by
 have Z:=gF _ V h hb
 rw [zj]at Z
 refine Calls.mono Z ?_
 rintro e w' ⟨H,A,cap,he, -, -, -, -, -,hx⟩
 exact ⟨H,A,_,cap,he,hx⟩
theorem zT (V:World) (h:StAt V (lfD wA lf1w wc 2 tA tc fA fc sA lf1s sc)) (hb:LfB (lfD wA lf1w wc 2 tA tc fA fc sA lf1s sc)):Calls Tryz.prog 27 #[.agg #[.int .i64 4,.int .i64 0,.int .i64 2,.int .i64 3,.bool false,.slice wA 8 wc,.int .i64 2,.slice tA 0 tc,.slice fA 0 fc,.slice sA 2 sc]] V fun e w'=>
  e= .returned (.tuple #[.int .i64 1,.int .i64 2,.int .i64 0,.int .i64 1,.int .i64 0])∧Ext V w':=by
 have Z:=vB _ V h hb
 rw [lf_t,lf_e]at Z
 exact Z
theorem xW (V:World) (h:StAt V (lfD wA lf1w wc 2 tA tc fA fc sA lf1s sc)) (hb:LfB (lfD wA lf1w wc 2 tA tc fA fc sA lf1s sc)):Calls Tryz.prog 25 #[.agg #[.int .i64 4,.int .i64 0,.int .i64 2,.int .i64 3,.bool false,.slice wA 8 wc,.int .i64 2,.slice tA 0 tc,.slice fA 0 fc,.slice sA 2 sc]] V fun e w'=>
  ∃A cap,e= .returned (.tuple #[.slice A 1 cap,.int .i64 0])∧Ext V w':=by
 have Z:=qx _ V h hb
 rw [yZ,lf_e]at Z
 refine Calls.mono Z ?_
 rintro e w' ⟨A,cap,he, -,hx⟩
 exact ⟨A,cap,he,hx⟩
theorem tZ (V:World) (h:StAt V (lfD wA lf1w wc 2 tA tc fA fc sA lf1s sc)) (hb:LfB (lfD wA lf1w wc 2 tA tc fA fc sA lf1s sc)) (h2:StAt V (lfD wA2 lf1w wc2 top2 tA2 tc2 fA2 fc2 sA2 lf1s sc2)) (hb2:LfB (lfD wA2 lf1w wc2 top2 tA2 tc2 fA2 fc2 sA2 lf1s sc2)) (b:Bool) (hl:dZ (lfD wA lf1w wc 2 tA tc fA fc sA lf1s sc) (lfD wA2 lf1w wc2 top2 tA2 tc2 fA2 fc2 sA2 lf1s sc2)=b):
  Calls Tryz.prog 31 #[.agg #[.int .i64 4,.int .i64 0,.int .i64 2,.int .i64 3,.bool false,.slice wA 8 wc,.int .i64 2,.slice tA 0 tc,.slice fA 0 fc,.slice sA 2 sc],.agg #[.int .i64 4,.int .i64 0,.int .i64 2,.int .i64 3,.bool false,.slice wA2 8 wc2,.int .i64 top2,.slice tA2 0 tc2,.slice fA2 0 fc2,.slice sA2 2 sc2]] V fun e w'=>e= .returned (.bool b)∧Ext V w':=by
 have Z:=mQ _ _ V h h2 hb hb2
 rw [hl]at Z
 exact Z
end
theorem iD (V:World):Calls Tryz.prog 23 #[] V fun e w'=>e= .returned (.bool true)∧Ext V w':=by
 go_enter Tryz.func23,Tryz.ntmps23
 go_wp2_with fail
 refine (zn V).mono ?_
 rintro e w1 ⟨wA,wc,tA,tc,fA,fc,sA,sc,rfl,ho,hx⟩
 obtain ⟨g,rfl,hg1,hg2⟩:=cT ho.w (show lf0w≠ []by decide)
 obtain ⟨g2,rfl,hh1,hh2⟩:=cT ho.s (show lf0s≠ []by decide)
 have c0:=fI dA dM ho.w rfl 0 0 (show 0 < lf0w.length by decide) _ rfl
 have c1:=fI dA dM ho.w rfl 1 0 (show 1 < lf0w.length by decide) _ rfl
 have cf:=lU ho.w
 have d0:=fI eq dM ho.s rfl 1 0 (show 1 < lf0s.length by decide) _ rfl
 have d1:=fI eq dM ho.s rfl 1 1 (show 1 < lf0s.length by decide) _ rfl
 have d2:=fI eq dM ho.s rfl 1 2 (show 1 < lf0s.length by decide) _ rfl
 have df:=lU ho.s
 simp only [Nat.zero_mul,Nat.one_mul,Nat.zero_add,Nat.add_zero]at c0 c1 d0 d1 d2
 go_wp2_with fail
 have ho2:=((((ho.setW rfl 0 259).setW rfl 1 2).setS rfl 1 0 (show 1 < lf0s.length by decide) dM (true,0,0) (.bool true) rfl).setS rfl 1 1 (show 1 < (lf0s.set 1 (true,0,0)).length by decide) dM (true,0,0) (.int .i64 0) rfl).setS rfl 1 2 (show 1 < ((lf0s.set 1 (true,0,0)).set 1 (true,0,0)).length by decide) dM (true,0,2) (.int .u64 2) rfl
 have HO1:StOwn V.heap.size (((((w1.setCell ⟨g,0,none⟩ (.int .u64 259)).setCell ⟨g,1,none⟩ (.int .u64 2)).setCell ⟨g2,3,none⟩ (.bool true)).setCell ⟨g2,4,none⟩ (.int .i64 0)).setCell ⟨g2,5,none⟩ (.int .u64 2)) (lfD (some ⟨g,0,none⟩) lf1w wc 2 tA tc fA fc (some ⟨g2,0,none⟩) lf1s sc):=⟨ho2.w,ho2.t,ho2.f,ho2.s⟩
 have hy:=(((((hx.setCell (p:=⟨g,0,none⟩) hg1 (.int .u64 259)).setCell (p:=⟨g,1,none⟩) hg1 (.int .u64 2)).setCell (p:=⟨g2,3,none⟩) hh1 (.bool true)).setCell (p:=⟨g2,4,none⟩) hh1 (.int .i64 0)).setCell (p:=⟨g2,5,none⟩) hh1 (.int .u64 2)).alloc (.cells #[.int .i64 4,.int .i64 0,.int .i64 2,.int .i64 3,.bool false,.slice (some ⟨g,0,none⟩) 8 wc,.int .i64 2,.slice tA 0 tc,.slice fA 0 fc,.slice (some ⟨g2,0,none⟩) 2 sc] 34)
 have HX:=zH hy
 have HB:=zH (yh HO1)
 have hB1:=aF (((((w1.setCell ⟨g,0,none⟩ (.int .u64 259)).setCell ⟨g,1,none⟩ (.int .u64 2)).setCell ⟨g2,3,none⟩ (.bool true)).setCell ⟨g2,4,none⟩ (.int .i64 0)).setCell ⟨g2,5,none⟩ (.int .u64 2)) #[.int .i64 4,.int .i64 0,.int .i64 2,.int .i64 3,.bool false,.slice (some ⟨g,0,none⟩) 8 wc,.int .i64 2,.slice tA 0 tc,.slice fA 0 fc,.slice (some ⟨g2,0,none⟩) 2 sc] 34 w1.heap.size sM
 have H1:Pers ((((((w1.setCell ⟨g,0,none⟩ (.int .u64 259)).setCell ⟨g,1,none⟩ (.int .u64 2)).setCell ⟨g2,3,none⟩ (.bool true)).setCell ⟨g2,4,none⟩ (.int .i64 0)).setCell ⟨g2,5,none⟩ (.int .u64 2)).alloc (.cells #[.int .i64 4,.int .i64 0,.int .i64 2,.int .i64 3,.bool false,.slice (some ⟨g,0,none⟩) 8 wc,.int .i64 2,.slice tA 0 tc,.slice fA 0 fc,.slice (some ⟨g2,0,none⟩) 2 sc] 34)) (fun w=>StAt w (lfD (some ⟨g,0,none⟩) lf1w wc 2 tA tc fA fc (some ⟨g2,0,none⟩) lf1s sc)):=fun w k=>HO1.at.ext (((zo _).alloc _).trans k)
 clear hx hy ho ho2 HO1 c0 c1 cf d0 d1 d2 df hg1 hg2 hh1 hh2
 generalize (((((w1.setCell ⟨g,0,none⟩ (.int .u64 259)).setCell ⟨g,1,none⟩ (.int .u64 2)).setCell ⟨g2,3,none⟩ (.bool true)).setCell ⟨g2,4,none⟩ (.int .i64 0)).setCell ⟨g2,5,none⟩ (.int .u64 2)).alloc (.cells #[.int .i64 4,.int .i64 0,.int .i64 2,.int .i64 3,.bool false,.slice (some ⟨g,0,none⟩) 8 wc,.int .i64 2,.slice tA 0 tc,.slice fA 0 fc,.slice (some ⟨g2,0,none⟩) 2 sc] 34)=W1 at*
 generalize w1.heap.size=B1 at*
 refine (zS W1 H1.here HB.out).mono ?_
 rintro e w2 ⟨nb,no,nc,rb,ro,rc,fb,fo,fc2,lA,lc,rfl,n1,n2,n3,n4,hx⟩
 (replace hB1:=hB1.re hx;replace H1:=H1.re hx;replace HX:=zH (HX.out.trans hx))
 have N1:Pers w2 (fun w=>w.cell? ⟨nb,no+1,none⟩=some (.slice (some ⟨fb,fo,none⟩) 1 fc2)):=fun w k=>k.cell n1
 have N2:Pers w2 (fun w=>w.cell? ⟨fb,fo,none⟩=some (.int .i64 2)):=fun w k=>k.cell n2
 have N3:Pers w2 (fun w=>w.cell? ⟨fb,fo+1,none⟩=some (.int .i64 0)):=fun w k=>k.cell n3
 have N4:Pers w2 (fun w=>w.cell? ⟨rb,ro+1,none⟩=some (.int .i64 0)):=fun w k=>k.cell n4
 have hy:=(zo w2).alloc (.cells #[.slice (some ⟨nb,no,none⟩) 1 nc,.slice (some ⟨rb,ro,none⟩) 1 rc] 27)
 have hB2:=aF w2 #[.slice (some ⟨nb,no,none⟩) 1 nc,.slice (some ⟨rb,ro,none⟩) 1 rc] 27 _ rfl
 have k1:=(aB hB1.here).1
 have q1:=aA hB1.here
 clear hx n1 n2 n3 n4
 go_wp2_with fail
 clear k1 q1
 (replace hB1:=hB1.re hy;replace H1:=H1.re hy;replace HX:=zH (HX.out.trans hy);replace N1:=N1.re hy;replace N2:=N2.re hy;replace N3:=N3.re hy;replace N4:=N4.re hy)
 clear hy
 generalize w2.alloc (.cells #[.slice (some ⟨nb,no,none⟩) 1 nc,.slice (some ⟨rb,ro,none⟩) 1 rc] 27)=W2 at*
 generalize w2.heap.size=B2 at*
 refine (zT W2 H1.here HB.out).mono ?_
 rintro e w3 ⟨rfl,hx⟩
 (replace hB1:=hB1.re hx;replace hB2:=hB2.re hx;replace H1:=H1.re hx;replace HX:=zH (HX.out.trans hx);replace N1:=N1.re hx;replace N2:=N2.re hx;replace N3:=N3.re hx;replace N4:=N4.re hx)
 have k1:=(aB hB1.here).1
 clear hx
 go_wp2_with fail
 clear k1
 refine (xW w3 H1.here HB.out).mono ?_
 rintro e w4 ⟨vA,vc,rfl,hx⟩
 (replace hB1:=hB1.re hx;replace hB2:=hB2.re hx;replace H1:=H1.re hx;replace HX:=zH (HX.out.trans hx);replace N1:=N1.re hx;replace N2:=N2.re hx;replace N3:=N3.re hx;replace N4:=N4.re hx)
 have k1:=(aB hB1.here).1
 clear hx
 go_wp2_with fail
 clear k1
 refine (zR w4 H1.here).mono ?_
 rintro e w5 ⟨wA2,wc2,tA2,tc2,fA2,fcc,sA2,sc2,rfl,ho,hx⟩
 (replace hB1:=hB1.re hx;replace hB2:=hB2.re hx;replace H1:=H1.re hx;replace HX:=zH (HX.out.trans hx);replace N1:=N1.re hx;replace N2:=N2.re hx;replace N3:=N3.re hx;replace N4:=N4.re hx)
 clear hx
 go_wp2_with fail
 have HO2:StOwn w4.heap.size w5 (lfD wA2 lf1w wc2 1 tA2 tc2 fA2 fcc sA2 lf1s sc2):=⟨ho.w,ho.t,ho.f,ho.s⟩
 have HBT:=zH (yh HO2)
 have hB3:=aF w5 #[.int .i64 4,.int .i64 0,.int .i64 2,.int .i64 3,.bool false,.slice wA2 8 wc2,.int .i64 1,.slice tA2 0 tc2,.slice fA2 0 fcc,.slice sA2 2 sc2] 34 _ rfl
 have hy:=(zo w5).alloc (.cells #[.int .i64 4,.int .i64 0,.int .i64 2,.int .i64 3,.bool false,.slice wA2 8 wc2,.int .i64 1,.slice tA2 0 tc2,.slice fA2 0 fcc,.slice sA2 2 sc2] 34)
 have H2:Pers (w5.alloc (.cells #[.int .i64 4,.int .i64 0,.int .i64 2,.int .i64 3,.bool false,.slice wA2 8 wc2,.int .i64 1,.slice tA2 0 tc2,.slice fA2 0 fcc,.slice sA2 2 sc2] 34)) (fun w=>StAt w (lfD wA2 lf1w wc2 1 tA2 tc2 fA2 fcc sA2 lf1s sc2)):=fun w k=>HO2.at.ext (((zo _).alloc _).trans k)
 (replace hB1:=hB1.re hy;replace hB2:=hB2.re hy;replace H1:=H1.re hy;replace HX:=zH (HX.out.trans hy);replace N1:=N1.re hy;replace N2:=N2.re hy;replace N3:=N3.re hy;replace N4:=N4.re hy)
 clear hy ho HO2
 generalize w5.alloc (.cells #[.int .i64 4,.int .i64 0,.int .i64 2,.int .i64 3,.bool false,.slice wA2 8 wc2,.int .i64 1,.slice tA2 0 tc2,.slice fA2 0 fcc,.slice sA2 2 sc2] 34)=W5 at*
 generalize w5.heap.size=B3 at*
 refine (y5 W5 H2.here HBT.out).mono ?_
 rintro e w6 ⟨H,mA,mn,mc,rfl,hx⟩
 (replace hB1:=hB1.re hx;replace hB2:=hB2.re hx;replace hB3:=hB3.re hx;replace H1:=H1.re hx;replace H2:=H2.re hx;replace HX:=zH (HX.out.trans hx);replace N1:=N1.re hx;replace N2:=N2.re hx;replace N3:=N3.re hx;replace N4:=N4.re hx)
 clear hx
 have k1:=(aB hB1.here).1
 have k2:=(aB hB2.here).1
 have k3:=(aB hB3.here).1
 have q1:=aA hB1.here
 have q2:=aA hB2.here
 have q3:=aA hB3.here
 have n1:=N1.here
 have n2:=N2.here
 have n3:=N3.here
 have n4:=N4.here
 have q4:=fJ n1
 have q5:=fJ n2
 have q6:=fJ n4
 go_wp2_with fail
 have hy:=(zo w6).alloc (.cells #[.slice H.nA H.ns.length H.ncap,.slice H.rA H.rs.length H.rcap] 27)
 (replace hB1:=hB1.re hy;replace hB2:=hB2.re hy;replace hB3:=hB3.re hy;replace H1:=H1.re hy;replace H2:=H2.re hy;replace HX:=zH (HX.out.trans hy))
 clear hy k1 k2 k3 q1 q2 q3 q4 q5 q6 n1 n2 n3 n4 N1 N2 N3 N4
 generalize w6.alloc (.cells #[.slice H.nA H.ns.length H.ncap,.slice H.rA H.rs.length H.rcap] 27)=W6 at*
 refine (tZ W6 H1.here HB.out H1.here HB.out true y4).mono ?_
 rintro e w7 ⟨rfl,hx⟩
 (replace hB1:=hB1.re hx;replace hB2:=hB2.re hx;replace hB3:=hB3.re hx;replace H1:=H1.re hx;replace H2:=H2.re hx;replace HX:=zH (HX.out.trans hx))
 clear hx
 have k1:=(aB hB1.here).1
 have k3:=(aB hB3.here).1
 go_wp2_with fail
 clear k1 k3
 refine (tZ w7 H1.here HB.out H2.here HBT.out false xV).mono ?_
 rintro e w8 ⟨rfl,hx⟩
 (replace HX:=zH (HX.out.trans hx))
 clear hx
 go_wp2_with fail
 go_returns
 exact ⟨rfl,HX.out⟩
theorem LfB.of {s:StD} (h:StOk s) (hb:bigB s.ws.length s.tb.length s.fr.length s.sl.length=false):LfB s:=by
 simp only [bigB,decide_eq_false_iff_not]at hb
 exact ⟨by omega,by omega,by omega,by omega,h.bK,h.tn,h.wl⟩
theorem vC {s:StD} (hb:LfB s):dZ s s=decide (chkS s=0):=by
 unfold dZ
 by_cases hc:chkS s=0
 ·have e : bX (eb s) (eb s) = true := by
   rw [ij]
   have hr:aR (eb s)=true:=by
    have h1:=(iO (H:=⟨some ⟨0,0,none⟩,(dQ s).length,(dQ s).map fun x=>⟨x.1,some ⟨0,0,none⟩,x.2.1.length,x.2.1,some ⟨0,0,none⟩,x.2.2.length,x.2.2⟩,some ⟨0,0,none⟩,(dR s).length,dR s⟩) hc hb.ws hb.sl hb.b.wb hb.b.sb (by
     simp only [List.map_map]
     refine (List.map_congr_left fun x _=> ?_).trans (List.map_id _)
     rfl) rfl ⟨fun x hx=>(by obtain ⟨y, -,rfl⟩:=List.mem_map.1 hx;simp),by simp,by simp,by simp,by simp⟩).2
    rw [←h1]
    refine fL ?_ rfl
    refine (tX _ _).trans ?_
    unfold valN
    simp only [List.map_map]
    refine ((List.map_congr_left fun x _=> ?_).trans (List.map_id _)).symm
    rfl
   exact ⟨hr,hr,rfl,rfl⟩
  rw [e,hc]
  rfl
 ·rw [decide_eq_false hc]
  rfl
theorem nk (s t:StD) (b:Bool) (hl:dZ s t=b) (V:World) (hs:StAt V s) (ht:StAt V t) (bs:LfB s) (bt:LfB t):
  Calls Tryz.prog 31 #[.agg #[.int .i64 s.c0,.int .i64 s.c1,.int .i64 s.c2,.int .i64 s.c3,.bool s.snd,.slice s.wA s.ws.length s.wc,.int .i64 s.top,.slice s.tA s.tb.length s.tc,.slice s.fA s.fr.length s.fc,.slice s.sA s.sl.length s.sc],.agg #[.int .i64 t.c0,.int .i64 t.c1,.int .i64 t.c2,.int .i64 t.c3,.bool t.snd,.slice t.wA t.ws.length t.wc,.int .i64 t.top,.slice t.tA t.tb.length t.tc,.slice t.fA t.fr.length t.fc,.slice t.sA t.sl.length t.sc]] V fun e w'=>e= .returned (.bool b)∧Ext V w':=by
 rw [←hl];exact mQ s t V hs ht bs bt
theorem pG (s t:StD) (b:Bool) (hl:dZ s t=b) (V:World) (hs:StAt V s) (ht:StAt V t) (bs:LfB s) (bt:LfB t):
  Calls Tryz.prog 32 #[.agg #[.int .i64 s.c0,.int .i64 s.c1,.int .i64 s.c2,.int .i64 s.c3,.bool s.snd,.slice s.wA s.ws.length s.wc,.int .i64 s.top,.slice s.tA s.tb.length s.tc,.slice s.fA s.fr.length s.fc,.slice s.sA s.sl.length s.sc],.agg #[.int .i64 t.c0,.int .i64 t.c1,.int .i64 t.c2,.int .i64 t.c3,.bool t.snd,.slice t.wA t.ws.length t.wc,.int .i64 t.top,.slice t.tA t.tb.length t.tc,.slice t.fA t.fr.length t.fc,.slice t.sA t.sl.length t.sc]] V fun e w'=>e= .returned (.bool b)∧Ext V w':=by
 rw [←hl];exact m7 s t V hs ht bs bt
theorem m8 (s t:StD) (V:World) (hs:StAt V s) (ht:StAt V t) (oks:StOk s) (okt:StOk t):
  Calls Tryz.prog 7 #[.agg #[.int .i64 s.c0,.int .i64 s.c1,.int .i64 s.c2,.int .i64 s.c3,.bool s.snd,.slice s.wA s.ws.length s.wc,.int .i64 s.top,.slice s.tA s.tb.length s.tc,.slice s.fA s.fr.length s.fc,.slice s.sA s.sl.length s.sc],.agg #[.int .i64 t.c0,.int .i64 t.c1,.int .i64 t.c2,.int .i64 t.c3,.bool t.snd,.slice t.wA t.ws.length t.wc,.int .i64 t.top,.slice t.tA t.tb.length t.tc,.slice t.fA t.fr.length t.fc,.slice t.sA t.sl.length t.sc]] V fun e w'=>e= .returned (.bool true)∧Ext V w':=by
 have hx0:=((zo V).alloc (.cells #[.int .i64 s.c0,.int .i64 s.c1,.int .i64 s.c2,.int .i64 s.c3,.bool s.snd,.slice s.wA s.ws.length s.wc,.int .i64 s.top,.slice s.tA s.tb.length s.tc,.slice s.fA s.fr.length s.fc,.slice s.sA s.sl.length s.sc] 34)).alloc (.cells #[.int .i64 t.c0,.int .i64 t.c1,.int .i64 t.c2,.int .i64 t.c3,.bool t.snd,.slice t.wA t.ws.length t.wc,.int .i64 t.top,.slice t.tA t.tb.length t.tc,.slice t.fA t.fr.length t.fc,.slice t.sA t.sl.length t.sc] 34)
 have hB:=(aF V #[.int .i64 s.c0,.int .i64 s.c1,.int .i64 s.c2,.int .i64 s.c3,.bool s.snd,.slice s.wA s.ws.length s.wc,.int .i64 s.top,.slice s.tA s.tb.length s.tc,.slice s.fA s.fr.length s.fc,.slice s.sA s.sl.length s.sc] 34 _ rfl).re ((zo _).alloc (.cells #[.int .i64 t.c0,.int .i64 t.c1,.int .i64 t.c2,.int .i64 t.c3,.bool t.snd,.slice t.wA t.ws.length t.wc,.int .i64 t.top,.slice t.tA t.tb.length t.tc,.slice t.fA t.fr.length t.fc,.slice t.sA t.sl.length t.sc] 34))
 have hB2:=aF (V.alloc (.cells #[.int .i64 s.c0,.int .i64 s.c1,.int .i64 s.c2,.int .i64 s.c3,.bool s.snd,.slice s.wA s.ws.length s.wc,.int .i64 s.top,.slice s.tA s.tb.length s.tc,.slice s.fA s.fr.length s.fc,.slice s.sA s.sl.length s.sc] 34)) #[.int .i64 t.c0,.int .i64 t.c1,.int .i64 t.c2,.int .i64 t.c3,.bool t.snd,.slice t.wA t.ws.length t.wc,.int .i64 t.top,.slice t.tA t.tb.length t.tc,.slice t.fA t.fr.length t.fc,.slice t.sA t.sl.length t.sc] 34 (V.heap.size+1) sM
 have H0:=hs.pers.re hx0
 have H1:=ht.pers.re hx0
 have HX:=zH hx0
 have HOS:=zH oks
 have HOT:=zH okt
 obtain ⟨b,hb⟩:∃b,bigB s.ws.length s.tb.length s.fr.length s.sl.length=b:=⟨_,rfl⟩
 obtain ⟨c,hc⟩:∃b,bigB t.ws.length t.tb.length t.fr.length t.sl.length=b:=⟨_,rfl⟩
 have HBG:=zH hb
 have HCG:=zH hc
 clear hb hc hx0 hs ht oks okt
 have k1:=(aB hB.here).1
 go_enter Tryz.func7,Tryz.ntmps7
 go_wp2_with fail
 clear k1
 generalize (V.alloc (.cells #[.int .i64 s.c0,.int .i64 s.c1,.int .i64 s.c2,.int .i64 s.c3,.bool s.snd,.slice s.wA s.ws.length s.wc,.int .i64 s.top,.slice s.tA s.tb.length s.tc,.slice s.fA s.fr.length s.fc,.slice s.sA s.sl.length s.sc] 34)).alloc (.cells #[.int .i64 t.c0,.int .i64 t.c1,.int .i64 t.c2,.int .i64 t.c3,.bool t.snd,.slice t.wA t.ws.length t.wc,.int .i64 t.top,.slice t.tA t.tb.length t.tc,.slice t.fA t.fr.length t.fc,.slice t.sA t.sl.length t.sc] 34)=W at*
 generalize V.heap.size+1=S2 at*
 generalize V.heap.size=S at*
 refine (qt s b HBG.out _ HOS.out).mono ?_
 rintro e w1 ⟨rfl,hx⟩
 (replace hB:=hB.re hx;replace hB2:=hB2.re hx;replace H0:=H0.re hx;replace H1:=H1.re hx;replace HX:=zH (HX.out.trans hx))
 clear hx
 have k2:=(aB hB2.here).1
 cases b
 rotate_left
 ·go_wp2_with fail
  refine (iD _).mono ?_
  rintro e w2 ⟨rfl,hx⟩
  replace HX:=zH (HX.out.trans hx)
  clear hx
  go_wp2_with fail
  go_returns
  exact ⟨rfl,HX.out⟩
 go_wp2_with fail
 clear k2
 refine (qt t c HCG.out _ HOT.out).mono ?_
 rintro e w2 ⟨rfl,hx⟩
 (replace hB:=hB.re hx;replace hB2:=hB2.re hx;replace H0:=H0.re hx;replace H1:=H1.re hx;replace HX:=zH (HX.out.trans hx))
 clear hx
 cases c
 rotate_left
 ·go_wp2_with fail
  refine (iD _).mono ?_
  rintro e w3 ⟨rfl,hx⟩
  replace HX:=zH (HX.out.trans hx)
  clear hx
  go_wp2_with fail
  go_returns
  exact ⟨rfl,HX.out⟩
 have HLS:=zH (LfB.of HOS.out HBG.out)
 have HLT:=zH (LfB.of HOT.out HCG.out)
 obtain ⟨k,hk⟩:∃k,chkS s=k:=⟨_,rfl⟩
 have HK:=zH (show checkZ s.c0 s.c1 s.c2 s.c3 s.snd s.ws s.top s.tb s.fr s.sl=k from hk)
 obtain ⟨r,hr⟩:∃r,dZ s t=r:=⟨_,rfl⟩
 have HR:=zH hr
 obtain ⟨q,hq⟩:∃q,dZ s s=q:=⟨_,rfl⟩
 have HQ:=zH hq
 have hqk:(q==(k==0))=true:=by
  rw [←hq,vC HLS.out,hk]
  by_cases h0:k=0 <;>simp [h0]
 have HLE:Hid (StLe s):=zH HLS.out.le
 have g1:=hB.cells
 have g2:=hB2.cells
 have hs0:Ext w2 w2:=zo _
 clear hk hr hq
 go_wp2_with fail
 cases r
 all_goals
  (refine aC (W:=w2) kR kR aS ?_;(repeat (go_big_quiet_step (first | (go_at_call 31;with_reducible exact zq (nk s t _ HR.out _ (H0.at zE) (H1.at zE) HLS.out HLT.out)) | (go_at_call 32;with_reducible exact zq (pG s t _ HR.out _ (H0.at zE) (H1.at zE) HLS.out HLT.out)) | (go_at_call 31;with_reducible exact zq (nk s s q HQ.out _ (H0.at zE) (H0.at zE) HLS.out HLS.out)) | (go_at_call 19;with_reducible exact zq (jS s k HK.out _ (H0.at zE) HLE.out HLS.out.b)) | (go_at_call 23;with_reducible exact zq (iD _)))));refine wpQuiet_nil ?_;intro w1 hx)
  replace HX:=zH (HX.out.trans hx)
  clear hx
  go_wp2_with fail
  go_returns
  exact ⟨rfl,HX.out⟩
theorem m9 {v0 v1:Value} {w:World} (h0:IsState w v0) (h1:IsState w v1):Calls Tryz.prog 7 #[v0,v1] w fun e w'=>e= .returned (.bool true)∧Ext w w':=by
 obtain ⟨s,rfl,hs,oks⟩:=h0
 obtain ⟨t,rfl,ht,okt⟩:=h1
 exact m8 s t w hs ht oks okt
end Go.Proofs.YtphpppjfogpohaaGreat
