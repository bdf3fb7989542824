/- Merged by program (merge.py) out of: LfF, LfH, LfJ, LwLa. -/
import Derived.Test.YtphpppjfogpohaaGreatMq0
import Derived.Test.YtphpppjfogpohaaGreatMq46
import Derived.Test.YtphpppjfogpohaaGreatMq51
import Derived.Test.YtphpppjfogpohaaGreatMq30
import Derived.Test.YtphpppjfogpohaaGreatMq21
import Derived.Test.YtphpppjfogpohaaGreatMq36
import Derived.Test.YtphpppjfogpohaaGreatMq44
set_option linter.unusedSimpArgs false
set_option linter.unusedVariables false
set_option maxRecDepth 100000
set_option maxHeartbeats 16000000
namespace Go.Proofs.YtphpppjfogpohaaGreat
open Go.RowKit Go.Shelf
noncomputable def eM (s:StD):GraphD:=grV (dZ s) (d6 s)
noncomputable def eI (s:StD):Int×Int×Int×Int:=if chkS s=0 then (lvN (eM s),lvX (eM s) s.c3,lvY (eM s) s.c3,lvF (eM s) s.c3)else (0,0,0,0)
noncomputable def ic (a b:StD):Bool:=decide (chkS a=0) && decide (chkS b=0) && de (eM a) (eM b)
theorem gL {s:StD} {H:GraphD} (h1:H.ns.map aY=dZ s) (h2:H.rs=d6 s):valN H=valN (eM s)∧H.rs=(eM s).rs:=⟨h1.trans (yi _ _).symm,h2⟩
theorem rG {s:StD} (h:chkS s=0):1≤s.c3∧s.c3≤32768:=by
 have hc:=(LfOk.of h).ok.cfg
 simp only [cfgB,decide_eq_true_eq]at hc
 omega
theorem iL {G:GraphD} (h:aV G=true) {lim:Int} (h1:1≤lim):ap G lim 0 1=0:=by
 unfold ap
 rw [h,if_pos rfl]
 have:argB lim 0 1=false:=by
  simp [argB]
  omega
 rw [this]
 rfl
theorem nv (s:StD) (V:World) (h:StAt V s) (hb:LfB s):
  Calls Tryz.prog 27 #[.agg #[.int .i64 s.c0,.int .i64 s.c1,.int .i64 s.c2,.int .i64 s.c3,.bool s.snd,.slice s.wA s.ws.length s.wc,.int .i64 s.top,.slice s.tA s.tb.length s.tc,.slice s.fA s.fr.length s.fc,.slice s.sA s.sl.length s.sc]] V fun e w'=>e= .returned (.tuple #[.int .i64 (eI s).1,.int .i64 (eI s).2.1,.int .i64 (eI s).2.2.1,.int .i64 (eI s).2.2.2,.int .i64 (bS s)])∧Ext V w':=by
 have hx0:=(AD V).alloc (.cells #[.int .i64 s.c0,.int .i64 s.c1,.int .i64 s.c2,.int .i64 s.c3,.bool s.snd,.slice s.wA s.ws.length s.wc,.int .i64 s.top,.slice s.tA s.tb.length s.tc,.slice s.fA s.fr.length s.fc,.slice s.sA s.sl.length s.sc] 34)
 have HBS:=zH (aG V #[.int .i64 s.c0,.int .i64 s.c1,.int .i64 s.c2,.int .i64 s.c3,.bool s.snd,.slice s.wA s.ws.length s.wc,.int .i64 s.top,.slice s.tA s.tb.length s.tc,.slice s.fA s.fr.length s.fc,.slice s.sA s.sl.length s.sc] 34 _ rfl)
 have HX:=zH hx0
 have HS:=zH (h.ext hx0)
 have HB:=zH hb
 have kS:=(aB HBS.out.here).1
 have Z0:=eq s _ (h.ext hx0) hb
 clear hx0 h hb
 by_cases hc:chkS s=0
 rotate_left
 ·rw [show eI s=(0,0,0,0)by rw [eI,if_neg hc]]
  have he:bS s=4:=by rw [bS,if_neg hc]
  rw [he]at Z0⊢
  clear he hc
  go_enter Tryz.func27,Tryz.ntmps27
  go_wp2_with fail
  refine Z0.mono ?_
  clear Z0
  rintro e w1 ⟨H,A,cap,rfl, -, -, -, -, -,hx⟩
  replace HX:=zH (HX.out.trans hx)
  clear hx kS
  go_wp2_with fail
  go_returns
  exact ⟨rfl,HX.out.alloc _⟩
 have HC:=zH hc
 have HLM:=zH (rG hc)
 obtain ⟨n,x,y,f,hT⟩:∃n x y f,eI s=(n,x,y,f):=⟨_,_,_,_,rfl⟩
 have HT:=zH (show (n,x,y,f)=(lvN (eM s),lvX (eM s) s.c3,lvY (eM s) s.c3,lvF (eM s) s.c3)by rw [←hT,eI,if_pos hc])
 rw [hT]
 have he:bS s=0:=by rw [bS,if_pos hc]
 rw [he]at Z0⊢
 clear he hc hT
 go_enter Tryz.func27,Tryz.ntmps27
 go_wp2_with fail
 refine Z0.mono ?_
 clear Z0
 rintro e w1 ⟨H,A,cap,rfl,g1,g2,g3,g4, -,hx⟩
 replace HX:=zH (HX.out.trans hx)
 replace HBS:=zH (HBS.out.re hx)
 have HG:=zH g1
 have HOK:=zH (jF HC.out HB.out.ws HB.out.sl HB.out.b.wb HB.out.b.sb g2 g3 g4)
 obtain ⟨v1,v2⟩:=gL g2 g3
 obtain ⟨q1,q2,q3,q4⟩:=x6 v1 v2 s.c3
 have HQ:Hid (n=lvN H∧x=lvX H s.c3∧y=lvY H s.c3∧f=lvF H s.c3):=zH (by
  have:=HT.out
  simp only [Prod.mk.injEq]at this
  obtain ⟨a,b,c,d⟩:=this
  exact ⟨a.trans q1.symm,b.trans q2.symm,c.trans q3.symm,d.trans q4.symm⟩)
 clear g1 g2 g3 g4 v1 v2 q1 q2 q3 q4 hx HT kS
 go_wp2_with fail
 have hy:=(AD w1).alloc (.cells #[.slice H.nA H.ns.length H.ncap,.slice H.rA H.rs.length H.rcap] 27)
 have HBG:=zH (aG w1 #[.slice H.nA H.ns.length H.ncap,.slice H.rA H.rs.length H.rcap] 27 _ rfl)
 replace HX:=zH (HX.out.trans hy)
 replace HG:=zH (HG.out.ext hy)
 replace HBS:=zH (HBS.out.re hy)
 clear hy
 generalize w1.alloc (.cells #[.slice H.nA H.ns.length H.ncap,.slice H.rA H.rs.length H.rcap] 27)=W1 at*
 generalize w1.heap.size=X at*
 have HPE:Hid (ap H s.c3 0 1=0):=zH (iL HOK.out.2 HLM.out.1)
 obtain ⟨S,hS⟩:∃S,fG (planS H 1048576 1 1)=S:=⟨_,rfl⟩
 have HN:Hid (n=(S.length:Int)):=zH (by rw [HQ.out.1,←hS,lvN,fG,List.length_mergeSort])
 have Z:=xY H S _ hS rfl _ HG.out HOK.out.1
 clear hS
 rw [show ap H 1048576 1 1=0 from by
  have:=HPE.out
  unfold ap at this⊢
  rw [HOK.out.2,if_pos rfl]
  rfl]at Z
 refine Z.mono ?_
 clear Z
 rintro e w2 ⟨A2,cap2,rfl, -,hx⟩
 replace HX:=zH (HX.out.trans hx)
 replace HG:=zH (HG.out.ext hx)
 replace HBS:=zH (HBS.out.re hx)
 replace HBG:=zH (HBG.out.re hx)
 have kG:=(aB HBG.out.here).1
 have kS:=(aB HBS.out.here).1
 clear hx
 go_wp2_with fail
 clear kG kS
 have Z:=yh H s.c3 x y f 0 HQ.out.2.1.symm HQ.out.2.2.1.symm HQ.out.2.2.2.symm HPE.out _ HG.out HOK.out.1 (by have:=HLM.out;omega)
 refine Z.mono ?_
 clear Z
 rintro e w3 ⟨rfl,hx⟩
 replace HX:=zH (HX.out.trans hx)
 clear hx
 go_wp2_with fail
 go_returns
 exact ⟨by rw [HN.out],HX.out⟩
theorem pG (s:StD) (V:World) (h:StAt V s) (hb:LfB s):
  Calls Tryz.prog 28 #[.agg #[.int .i64 s.c0,.int .i64 s.c1,.int .i64 s.c2,.int .i64 s.c3,.bool s.snd,.slice s.wA s.ws.length s.wc,.int .i64 s.top,.slice s.tA s.tb.length s.tc,.slice s.fA s.fr.length s.fc,.slice s.sA s.sl.length s.sc]] V fun e w'=>e= .returned (.tuple #[.int .i64 (eI s).1,.int .i64 (eI s).2.1,.int .i64 (eI s).2.2.1,.int .i64 (eI s).2.2.2,.int .i64 (bS s)])∧Ext V w':=by
 have hx0:=(AD V).alloc (.cells #[.int .i64 s.c0,.int .i64 s.c1,.int .i64 s.c2,.int .i64 s.c3,.bool s.snd,.slice s.wA s.ws.length s.wc,.int .i64 s.top,.slice s.tA s.tb.length s.tc,.slice s.fA s.fr.length s.fc,.slice s.sA s.sl.length s.sc] 34)
 have HBS:=zH (aG V #[.int .i64 s.c0,.int .i64 s.c1,.int .i64 s.c2,.int .i64 s.c3,.bool s.snd,.slice s.wA s.ws.length s.wc,.int .i64 s.top,.slice s.tA s.tb.length s.tc,.slice s.fA s.fr.length s.fc,.slice s.sA s.sl.length s.sc] 34 _ rfl)
 have HX:=zH hx0
 have HS:=zH (h.ext hx0)
 have HB:=zH hb
 have kS:=(aB HBS.out.here).1
 have Z0:=n5 s _ (h.ext hx0) hb
 clear hx0 h hb
 by_cases hc:chkS s=0
 rotate_left
 ·rw [show eI s=(0,0,0,0)by rw [eI,if_neg hc]]
  have he:bS s=4:=by rw [bS,if_neg hc]
  rw [he]at Z0⊢
  clear he hc
  go_enter Tryz.func28,Tryz.ntmps28
  go_wp2_with fail
  refine Z0.mono ?_
  clear Z0
  rintro e w1 ⟨H,A,cap,rfl, -, -, -, -, -,hx⟩
  replace HX:=zH (HX.out.trans hx)
  clear hx kS
  go_wp2_with fail
  go_returns
  exact ⟨rfl,HX.out.alloc _⟩
 have HC:=zH hc
 have HLM:=zH (rG hc)
 obtain ⟨n,x,y,f,hT⟩:∃n x y f,eI s=(n,x,y,f):=⟨_,_,_,_,rfl⟩
 have HT:=zH (show (n,x,y,f)=(lvN (eM s),lvX (eM s) s.c3,lvY (eM s) s.c3,lvF (eM s) s.c3)by rw [←hT,eI,if_pos hc])
 rw [hT]
 have he:bS s=0:=by rw [bS,if_pos hc]
 rw [he]at Z0⊢
 clear he hc hT
 go_enter Tryz.func28,Tryz.ntmps28
 go_wp2_with fail
 refine Z0.mono ?_
 clear Z0
 rintro e w1 ⟨H,A,cap,rfl,g1,g2,g3,g4, -,hx⟩
 replace HX:=zH (HX.out.trans hx)
 replace HBS:=zH (HBS.out.re hx)
 have HG:=zH g1
 have HOK:=zH (jF HC.out HB.out.ws HB.out.sl HB.out.b.wb HB.out.b.sb g2 g3 g4)
 obtain ⟨v1,v2⟩:=gL g2 g3
 obtain ⟨q1,q2,q3,q4⟩:=x6 v1 v2 s.c3
 have HQ:Hid (n=lvN H∧x=lvX H s.c3∧y=lvY H s.c3∧f=lvF H s.c3):=zH (by
  have:=HT.out
  simp only [Prod.mk.injEq]at this
  obtain ⟨a,b,c,d⟩:=this
  exact ⟨a.trans q1.symm,b.trans q2.symm,c.trans q3.symm,d.trans q4.symm⟩)
 clear g1 g2 g3 g4 v1 v2 q1 q2 q3 q4 hx HT kS
 go_wp2_with fail
 have hy:=(AD w1).alloc (.cells #[.slice H.nA H.ns.length H.ncap,.slice H.rA H.rs.length H.rcap] 27)
 have HBG:=zH (aG w1 #[.slice H.nA H.ns.length H.ncap,.slice H.rA H.rs.length H.rcap] 27 _ rfl)
 replace HX:=zH (HX.out.trans hy)
 replace HG:=zH (HG.out.ext hy)
 replace HBS:=zH (HBS.out.re hy)
 clear hy
 generalize w1.alloc (.cells #[.slice H.nA H.ns.length H.ncap,.slice H.rA H.rs.length H.rcap] 27)=W1 at*
 generalize w1.heap.size=X at*
 have HPE:Hid (ap H s.c3 0 1=0):=zH (iL HOK.out.2 HLM.out.1)
 obtain ⟨R,hR⟩:∃R,ordZ (cx H.ns.length (planS H 1000000 0 1))=R:=⟨_,rfl⟩
 have HN:Hid (n=(R.length:Int)):=zH (by rw [HQ.out.1,←hR,←sS HOK.out.1,lvN,fG,List.length_mergeSort])
 have Z:=rE H _ R _ rfl hR rfl _ HG.out HOK.out.1
 clear hR
 rw [show ap H 1000000 0 1=0 from iL HOK.out.2 dM]at Z
 refine Z.mono ?_
 clear Z
 rintro e w2 ⟨A2,cap2,rfl, -,hx⟩
 replace HX:=zH (HX.out.trans hx)
 replace HG:=zH (HG.out.ext hx)
 replace HBS:=zH (HBS.out.re hx)
 replace HBG:=zH (HBG.out.re hx)
 have kG:=(aB HBG.out.here).1
 have kS:=(aB HBS.out.here).1
 clear hx
 go_wp2_with fail
 clear kG kS
 have HF:Hid (wrap64 (addS fW H.ns (planS H s.c3 0 1)+addS fW H.ns (planL H s.c3 0 1))=f):=zH (by rw [HQ.out.2.2.2,lvF,x5])
 have Z:=s8 H s.c3 x y _ _ 0 HQ.out.2.1.symm HQ.out.2.2.1.symm rfl rfl HPE.out _ HG.out HOK.out.1 (by have:=HLM.out;omega)
 rw [HF.out]at Z
 refine Z.mono ?_
 clear Z
 rintro e w3 ⟨rfl,hx⟩
 replace HX:=zH (HX.out.trans hx)
 clear hx
 go_wp2_with fail
 go_returns
 exact ⟨by rw [HN.out],HX.out⟩
theorem sd (s t:StD) (V:World) (hs:StAt V s) (ht:StAt V t) (bs:LfB s) (bt:LfB t):
  Calls Tryz.prog 31 #[.agg #[.int .i64 s.c0,.int .i64 s.c1,.int .i64 s.c2,.int .i64 s.c3,.bool s.snd,.slice s.wA s.ws.length s.wc,.int .i64 s.top,.slice s.tA s.tb.length s.tc,.slice s.fA s.fr.length s.fc,.slice s.sA s.sl.length s.sc],.agg #[.int .i64 t.c0,.int .i64 t.c1,.int .i64 t.c2,.int .i64 t.c3,.bool t.snd,.slice t.wA t.ws.length t.wc,.int .i64 t.top,.slice t.tA t.tb.length t.tc,.slice t.fA t.fr.length t.fc,.slice t.sA t.sl.length t.sc]] V fun e w'=>e= .returned (.bool (ic s t))∧Ext V w':=by
 have hx0:=((AD V).alloc (.cells #[.int .i64 s.c0,.int .i64 s.c1,.int .i64 s.c2,.int .i64 s.c3,.bool s.snd,.slice s.wA s.ws.length s.wc,.int .i64 s.top,.slice s.tA s.tb.length s.tc,.slice s.fA s.fr.length s.fc,.slice s.sA s.sl.length s.sc] 34)).alloc (.cells #[.int .i64 t.c0,.int .i64 t.c1,.int .i64 t.c2,.int .i64 t.c3,.bool t.snd,.slice t.wA t.ws.length t.wc,.int .i64 t.top,.slice t.tA t.tb.length t.tc,.slice t.fA t.fr.length t.fc,.slice t.sA t.sl.length t.sc] 34)
 have HBS:=zH ((aG V #[.int .i64 s.c0,.int .i64 s.c1,.int .i64 s.c2,.int .i64 s.c3,.bool s.snd,.slice s.wA s.ws.length s.wc,.int .i64 s.top,.slice s.tA s.tb.length s.tc,.slice s.fA s.fr.length s.fc,.slice s.sA s.sl.length s.sc] 34 _ rfl).re ((AD _).alloc (.cells #[.int .i64 t.c0,.int .i64 t.c1,.int .i64 t.c2,.int .i64 t.c3,.bool t.snd,.slice t.wA t.ws.length t.wc,.int .i64 t.top,.slice t.tA t.tb.length t.tc,.slice t.fA t.fr.length t.fc,.slice t.sA t.sl.length t.sc] 34)))
 have HBT:=zH (aG (V.alloc (.cells #[.int .i64 s.c0,.int .i64 s.c1,.int .i64 s.c2,.int .i64 s.c3,.bool s.snd,.slice s.wA s.ws.length s.wc,.int .i64 s.top,.slice s.tA s.tb.length s.tc,.slice s.fA s.fr.length s.fc,.slice s.sA s.sl.length s.sc] 34)) #[.int .i64 t.c0,.int .i64 t.c1,.int .i64 t.c2,.int .i64 t.c3,.bool t.snd,.slice t.wA t.ws.length t.wc,.int .i64 t.top,.slice t.tA t.tb.length t.tc,.slice t.fA t.fr.length t.fc,.slice t.sA t.sl.length t.sc] 34 (V.heap.size+1) sM)
 have HX:=zH hx0
 have HS:=zH (hs.ext hx0)
 have HT:=zH (ht.ext hx0)
 have HB1:=zH bs
 have HB2:=zH bt
 have kS:=(aB HBS.out.here).1
 clear hx0 hs ht bs bt
 obtain ⟨r,hr⟩:∃r,ic s t=r:=⟨_,rfl⟩
 have HR:=zH hr
 rw [hr]
 obtain ⟨c1,hc1⟩:∃c,bS s=c:=⟨_,rfl⟩
 obtain ⟨c2,hc2⟩:∃c,bS t=c:=⟨_,rfl⟩
 have HC1:=zH hc1
 have HC2:=zH hc2
 clear hr hc1 hc2
 go_enter Tryz.func31,Tryz.ntmps31
 go_wp2_with fail
 have Z:=eq s _ HS.out HB1.out
 rw [HC1.out]at Z
 refine Z.mono ?_
 clear Z
 rintro e w1 ⟨H,A,cap,rfl,g1,g2,g3,g4, -,hx⟩
 replace HX:=zH (HX.out.trans hx)
 replace HT:=zH (HT.out.ext hx)
 replace HBT:=zH (HBT.out.re hx)
 have HG:=zH g1
 have HV:=zH (show H.ns.map aY=dZ s∧H.rs=d6 s∧Shp H from ⟨g2,g3,g4⟩)
 have kT:=(aB HBT.out.here).1
 have lT:=aA HBT.out.here
 clear g1 g2 g3 g4 hx kS
 go_wp2_with fail
 clear kT lT
 have hy:=(AD w1).alloc (.cells #[.slice H.nA H.ns.length H.ncap,.slice H.rA H.rs.length H.rcap] 27)
 have HBG:=zH (aG w1 #[.slice H.nA H.ns.length H.ncap,.slice H.rA H.rs.length H.rcap] 27 _ rfl)
 replace HX:=zH (HX.out.trans hy)
 replace HG:=zH (HG.out.ext hy)
 replace HT:=zH (HT.out.ext hy)
 clear hy
 generalize w1.alloc (.cells #[.slice H.nA H.ns.length H.ncap,.slice H.rA H.rs.length H.rcap] 27)=W1 at*
 generalize w1.heap.size=X at*
 have Z:=eq t _ HT.out HB2.out
 rw [HC2.out]at Z
 refine Z.mono ?_
 clear Z
 rintro e w2 ⟨K,A2,cap2,rfl,g1,g2,g3,g4, -,hx⟩
 replace HX:=zH (HX.out.trans hx)
 replace HG:=zH (HG.out.ext hx)
 replace HBG:=zH (HBG.out.re hx)
 have HK:=zH g1
 have HV2:=zH (show K.ns.map aY=dZ t∧K.rs=d6 t∧Shp K from ⟨g2,g3,g4⟩)
 have kG:=(aB HBG.out.here).1
 have lG:=aA HBG.out.here
 clear g1 g2 g3 g4 hx
 by_cases h1:chkS s=0
 rotate_left
 ·have e1:c1=4:=by rw [←HC1.out,bS,if_neg h1]
  have e2:r=false:=by rw [←HR.out,ic,decide_eq_false h1];rfl
  subst e1 e2
  by_cases h2:chkS t=0
  ·have e3:c2=0:=by rw [←HC2.out,bS,if_pos h2]
   subst e3
   go_wp2_with fail
   go_returns
   exact ⟨rfl,HX.out.alloc _⟩
  ·have e3:c2=4:=by rw [←HC2.out,bS,if_neg h2]
   subst e3
   go_wp2_with fail
   go_returns
   exact ⟨rfl,HX.out.alloc _⟩
 have e1:c1=0:=by rw [←HC1.out,bS,if_pos h1]
 subst e1
 by_cases h2:chkS t=0
 rotate_left
 ·have e3:c2=4:=by rw [←HC2.out,bS,if_neg h2]
  have e2:r=false:=by rw [←HR.out,ic,decide_eq_false h2,Bool.and_false];rfl
  subst e3 e2
  go_wp2_with fail
  go_returns
  exact ⟨rfl,HX.out.alloc _⟩
 have e3:c2=0:=by rw [←HC2.out,bS,if_pos h2]
 subst e3
 have HO1:=zH (jF h1 HB1.out.ws HB1.out.sl HB1.out.b.wb HB1.out.b.sb HV.out.1 HV.out.2.1 HV.out.2.2)
 have HO2:=zH (jF h2 HB2.out.ws HB2.out.sl HB2.out.b.wb HB2.out.b.sb HV2.out.1 HV2.out.2.1 HV2.out.2.2)
 have HAL:Hid (de H K=r):=zH (by
  rw [←HR.out,ic,decide_eq_true h1,decide_eq_true h2]
  exact sa (gL HV.out.1 HV.out.2.1).1 (gL HV.out.1 HV.out.2.1).2 (gL HV2.out.1 HV2.out.2.1).1 (gL HV2.out.1 HV2.out.2.1).2)
 clear h1 h2 HR
 go_wp2_with fail
 have hy:=(AD w2).alloc (.cells #[.slice K.nA K.ns.length K.ncap,.slice K.rA K.rs.length K.rcap] 27)
 replace HX:=zH (HX.out.trans hy)
 replace HG:=zH (HG.out.ext hy)
 replace HK:=zH (HK.out.ext hy)
 clear hy kG lG
 generalize w2.alloc (.cells #[.slice K.nA K.ns.length K.ncap,.slice K.rA K.rs.length K.rcap] 27)=W2 at*
 refine (x4 H K r HAL.out _ HG.out HK.out HO1.out.1 HO2.out.1).mono ?_
 rintro e w3 ⟨rfl,hx⟩
 replace HX:=zH (HX.out.trans hx)
 clear hx
 go_wp2_with fail
 go_returns
 exact ⟨rfl,HX.out⟩
def lf0w:List Int:= [0,0,0,0,0,0,0,0]
def lf1w:List Int:= [259,2,0,0,0,0,0,0]
def lf0s:List (Bool×Int×Int):= [(false,0,0),(false,0,0)]
def lf1s:List (Bool×Int×Int):= [(false,0,0),(true,0,2)]
theorem x7:ledR (bE 4 0 2 3) (bC 4 0 2 3) [] []=true:=yO (c0:=4) (c1:=0) (c2:=2) (c3:=3) dM
theorem lf_a:checkZ 4 0 2 3 false lf1w 2 [] [] lf1s=0:=by rw [nD x7];decide+kernel
theorem lf_b:checkZ 4 0 2 3 false lf1w 1 [] [] lf1s=4:=by rw [nD x7];decide+kernel
theorem x8:smallsL 4 0 2 3 false lf1w 2= [0]:=by decide+kernel
theorem z7:newS 4 0 2 3=⟨4,0,2,3,false,none,lf0w,0,0,none,[],0,none,[],0,none,lf0s,0⟩:=by rfl
section
variable {wA : Option Addr} {ws : List Int} {wc : Nat} {top : Int} {tA : Option Addr} {tc : Nat} {fA : Option Addr} {fc : Nat} {sA : Option Addr} {sl : List (Bool × Int × Int)} {sc : Nat}
def lfD (wA:Option Addr) (ws:List Int) (wc:Nat) (top:Int) (tA:Option Addr) (tc:Nat) (fA:Option Addr) (fc:Nat) (sA:Option Addr) (sl:List (Bool×Int×Int)) (sc:Nat):StD:=⟨4,0,2,3,false,wA,ws,wc,top,tA,[],tc,fA,[],fc,sA,sl,sc⟩
theorem yw {B:Nat} {w:World} (h:StOwn B w (lfD wA lf1w wc top tA tc fA fc sA lf1s sc)):LfB (lfD wA lf1w wc top tA tc fA fc sA lf1s sc):=
 ⟨by simp [lfD,lf1w],by simp [lfD],by simp [lfD],by simp [lfD,lf1s],⟨by simp [lfD,lf1w],by simp [lfD],by simp [lfD,lf1s]⟩,(ag h.t aE dM).2.1,(ag h.w dB dM).2.2⟩
theorem iM:chkS (lfD wA lf1w wc 2 tA tc fA fc sA lf1s sc)=0:=lf_a
theorem t7:chkS (lfD wA lf1w wc 1 tA tc fA fc sA lf1s sc)≠0:=by
 show checkZ 4 0 2 3 false lf1w 1 [] [] lf1s≠0
 rw [lf_b]
 decide
theorem pH:bV (lfD wA lf1w wc 2 tA tc fA fc sA lf1s sc)= [0]:=by
 show smallsL 4 0 2 3 false lf1w 2++ []= [0]
 rw [x8]
 rfl
theorem lf_o:fH (lfD wA lf1w wc 2 tA tc fA fc sA lf1s sc)= [0]:=by rw [fH,if_pos iM,pH]
theorem lf_e:bS (lfD wA lf1w wc 2 tA tc fA fc sA lf1s sc)=0:=by rw [bS,if_pos iM]
theorem AA:bS (lfD wA lf1w wc 1 tA tc fA fc sA lf1s sc)=4:=by rw [bS,if_neg t7]
theorem yj:eL lf1w [0] 0=(0,[(2,0)],[]):=by decide+kernel
theorem lf_v:dZ (lfD wA lf1w wc 2 tA tc fA fc sA lf1s sc)= [(0,[(2,0)],[])]:=by
 rw [dZ,if_pos iM,pH]
 show [eL lf1w [0] 0]=_
 rw [yj]
theorem lf_q:d6 (lfD wA lf1w wc 2 tA tc fA fc sA lf1s sc)= [(2,0)]:=by
 rw [d6,if_pos iM,pH]
 show (aq lf1s).map (turnZ [0])=_
 decide+kernel
theorem yk:gI (lfD wA lf1w wc 2 tA tc fA fc sA lf1s sc)= [(2,0)]:=by
 rw [gI,if_pos iM]
 show (aq lf1s).map dvZ=_
 decide+kernel
def lfG:GraphD:=grV [(0,[(2,0)],[])] [(2,0)]
theorem lf_g:eM (lfD wA lf1w wc 2 tA tc fA fc sA lf1s sc)=lfG:=by
 rw [eM,lf_v,lf_q]
 rfl
theorem AB:planS lfG 1048576 1 1= [0]:=by kernel_rfl
theorem z8:planS lfG 3 0 1= [0]:=by kernel_rfl
theorem za:planL lfG 3 0 1= []:=by kernel_rfl
theorem lf_t:eI (lfD wA lf1w wc 2 tA tc fA fc sA lf1s sc)=(1,2,0,1):=by
 rw [eI,if_pos iM,lf_g]
 show (lvN lfG,lvX lfG 3,lvY lfG 3,lvF lfG 3)=_
 rw [lvN,lvX,lvY,lvF,AB,z8,za]
 simp [addS,lfG,grV,dx,fW,wrap64]
theorem x9:de lfG lfG=true:=by
 rw [sT]
 exact ⟨by kernel_rfl,by kernel_rfl,rfl,rfl⟩
end
section
variable {wA : Option Addr} {wc : Nat} {tA : Option Addr} {tc : Nat} {fA : Option Addr} {fc : Nat} {sA : Option Addr} {sc : Nat} {wA2 : Option Addr} {wc2 : Nat} {tA2 : Option Addr} {tc2 : Nat} {fA2 : Option Addr} {fc2 : Nat} {sA2 : Option Addr} {sc2 : Nat}
theorem yl:ic (lfD wA lf1w wc 2 tA tc fA fc sA lf1s sc) (lfD wA2 lf1w wc2 2 tA2 tc2 fA2 fc2 sA2 lf1s sc2)=true:=by
 rw [ic,iM,iM,lf_g,lf_g,x9]
 rfl
theorem xb:ic (lfD wA lf1w wc 2 tA tc fA fc sA lf1s sc) (lfD wA2 lf1w wc2 1 tA2 tc2 fA2 fc2 sA2 lf1s sc2)=false:=by
 rw [ic,decide_eq_false t7]
 simp
end
def yx (V:World) (ws:List Int) (top:Int) (sl:List (Bool×Int×Int)) (g:Value→Value) (e:Ending) (w':World):Prop:=∃wA wc tA tc fA fc sA sc,e= .returned (g (.agg #[.int .i64 4,.int .i64 0,.int .i64 2,.int .i64 3,.bool false,.slice wA 8 wc,.int .i64 top,.slice tA 0 tc,.slice fA 0 fc,.slice sA 2 sc]))∧StOwn V.heap.size w' (lfD wA ws wc top tA tc fA fc sA sl sc)∧Ext V w'
theorem AC (V:World):Calls Tryz.prog 39 #[.agg #[.int .i64 4,.int .i64 0,.int .i64 2,.int .i64 3]] V (yx V lf0w 0 lf0s (fun v=> .tuple #[v,.int .i64 0])):=by
 refine (uP 4 0 2 3 V).mono ?_
 rintro e w' ⟨t,he,ho,hv,hx⟩
 rw [z7]at hv
 obtain ⟨⟨a1,a2,a3,a4⟩,a5,a6,a7,a8,a9,a10⟩:=qB.1 hv
 obtain ⟨c0,c1,c2,c3,sn,wA,ws',wc,top',tA,tb,tc,fA,fr,fc,sA,sl',sc⟩:=t
 simp only at a1 a2 a3 a4 a5 a6 a7 a8 a9 a10
 subst a1 a2 a3 a4 a5 a6 a7 a8 a9 a10
 exact ⟨wA,wc,tA,tc,fA,fc,sA,sc,he,ho,hx⟩
section
variable {wA : Option Addr} {wc : Nat} {top : Int} {tA : Option Addr} {tc : Nat} {fA : Option Addr} {fc : Nat} {sA : Option Addr} {sc : Nat} {wA2 : Option Addr} {wc2 : Nat} {top2 : Int} {tA2 : Option Addr} {tc2 : Nat} {fA2 : Option Addr} {fc2 : Nat} {sA2 : Option Addr} {sc2 : Nat}
theorem zb (V:World) (h:StAt V (lfD wA lf1w wc top tA tc fA fc sA lf1s sc)):Calls Tryz.prog 37 #[.agg #[.int .i64 4,.int .i64 0,.int .i64 2,.int .i64 3,.bool false,.slice wA 8 wc,.int .i64 top,.slice tA 0 tc,.slice fA 0 fc,.slice sA 2 sc]] V (yx V lf1w top lf1s (fun v=>v)):=by
 have Z:=uD _ V h ⟨by simp [lfD,lf1w],by simp [lfD],by simp [lfD],by simp [lfD,lf1s]⟩
 refine Calls.mono Z ?_
 rintro e w' ⟨t,he,ho,hv,hx⟩
 obtain ⟨⟨a1,a2,a3,a4⟩,a5,a6,a7,a8,a9,a10⟩:=qB.1 hv
 obtain ⟨c0,c1,c2,c3,sn,wA,ws',wc,top',tA,tb,tc,fA,fr,fc,sA,sl',sc⟩:=t
 simp only [lfD]at a1 a2 a3 a4 a5 a6 a7 a8 a9 a10
 subst a1 a2 a3 a4 a5 a6 a7 a8 a9 a10
 exact ⟨wA,wc,tA,tc,fA,fc,sA,sc,by rw [he];rfl,ho,hx⟩
theorem ze (V:World) (h:StAt V (lfD wA lf1w wc 2 tA tc fA fc sA lf1s sc)) (hb:LfB (lfD wA lf1w wc 2 tA tc fA fc sA lf1s sc)):Calls Tryz.prog 18 #[.agg #[.int .i64 4,.int .i64 0,.int .i64 2,.int .i64 3,.bool false,.slice wA 8 wc,.int .i64 2,.slice tA 0 tc,.slice fA 0 fc,.slice sA 2 sc]] V fun e w'=>
  ∃nb no nc rb ro rc fb fo fc2 A cap,e= .returned (.tuple #[.agg #[.slice (some ⟨nb,no,none⟩) 1 nc,.slice (some ⟨rb,ro,none⟩) 1 rc],.slice A 1 cap,.int .i64 0])∧w'.cell? ⟨nb,no+1,none⟩=some (.slice (some ⟨fb,fo,none⟩) 1 fc2)∧w'.cell? ⟨fb,fo,none⟩=some (.int .i64 2)∧w'.cell? ⟨fb,fo+1,none⟩=some (.int .i64 0)∧w'.cell? ⟨rb,ro+1,none⟩=some (.int .i64 0)∧Ext V w':=by
 have Z:=eq _ V h hb
 rw [lf_v,lf_q,lf_o,lf_e]at Z
 refine Calls.mono Z ?_
 rintro e w' ⟨H,A,cap,he,hg,h1,h2,hs, -,hx⟩
 obtain ⟨nA,nc,ns,rA,rc,rs⟩:=H
 simp only at h1 h2
 subst h2
 obtain ⟨x,rfl⟩:∃x,ns= [x]:=by
  have:=congrArg List.length h1
  simp at this
  exact List.length_eq_one_iff.1 this
 simp only [List.map_cons,List.map_nil,List.cons.injEq,and_true]at h1
 obtain ⟨xk,xA,xc,fs,yA,yc,ys⟩:=x
 simp only [aY,Prod.mk.injEq]at h1
 obtain ⟨rfl,rfl,rfl⟩:=h1
 obtain ⟨nb,no,rfl,hcn⟩:=hg.nodes.row.get sM
 obtain ⟨rb,ro,rfl,hcr⟩:=hg.roots.get sM
 have hx1:=hg.nodes.each _ (List.mem_singleton.2 rfl)
 obtain ⟨fb,fo,hf,hcf⟩:=hx1.fields.get sM
 simp only at hf
 subst hf
 obtain ⟨d0,d1,d2⟩:=ah hcn (k:=0) sM
 obtain ⟨f0,f1⟩:=aQ hcf (k:=0) sM
 obtain ⟨r0,r1⟩:=aQ hcr (k:=0) sM
 exact ⟨nb,no,nc,rb,ro,rc,fb,fo,xc,A,cap,by rw [he];rfl,by simpa using d1,by simpa using f0,by simpa using f1,by simpa using r1,hx⟩
theorem ym (V:World) (h:StAt V (lfD wA lf1w wc 1 tA tc fA fc sA lf1s sc)) (hb:LfB (lfD wA lf1w wc 1 tA tc fA fc sA lf1s sc)):Calls Tryz.prog 18 #[.agg #[.int .i64 4,.int .i64 0,.int .i64 2,.int .i64 3,.bool false,.slice wA 8 wc,.int .i64 1,.slice tA 0 tc,.slice fA 0 fc,.slice sA 2 sc]] V fun e w'=>
  ∃(H:GraphD) (A:Option Addr) (n cap:Nat),e= .returned (.tuple #[.agg #[.slice H.nA H.ns.length H.ncap,.slice H.rA H.rs.length H.rcap],.slice A n cap,.int .i64 4])∧Ext V w':=by
 have Z:=eq _ V h hb
 rw [AA]at Z
 refine Calls.mono Z ?_
 rintro e w' ⟨H,A,cap,he, -, -, -, -, -,hx⟩
 exact ⟨H,A,_,cap,he,hx⟩
theorem zg (V:World) (h:StAt V (lfD wA lf1w wc 2 tA tc fA fc sA lf1s sc)) (hb:LfB (lfD wA lf1w wc 2 tA tc fA fc sA lf1s sc)):Calls Tryz.prog 27 #[.agg #[.int .i64 4,.int .i64 0,.int .i64 2,.int .i64 3,.bool false,.slice wA 8 wc,.int .i64 2,.slice tA 0 tc,.slice fA 0 fc,.slice sA 2 sc]] V fun e w'=>
  e= .returned (.tuple #[.int .i64 1,.int .i64 2,.int .i64 0,.int .i64 1,.int .i64 0])∧Ext V w':=by
 have Z:=nv _ V h hb
 rw [lf_t,lf_e]at Z
 exact Z
theorem xd (V:World) (h:StAt V (lfD wA lf1w wc 2 tA tc fA fc sA lf1s sc)) (hb:LfB (lfD wA lf1w wc 2 tA tc fA fc sA lf1s sc)):Calls Tryz.prog 25 #[.agg #[.int .i64 4,.int .i64 0,.int .i64 2,.int .i64 3,.bool false,.slice wA 8 wc,.int .i64 2,.slice tA 0 tc,.slice fA 0 fc,.slice sA 2 sc]] V fun e w'=>
  ∃A cap,e= .returned (.tuple #[.slice A 1 cap,.int .i64 0])∧Ext V w':=by
 have Z:=jt _ V h hb
 rw [yk,lf_e]at Z
 refine Calls.mono Z ?_
 rintro e w' ⟨A,cap,he, -,hx⟩
 exact ⟨A,cap,he,hx⟩
theorem t8 (V:World) (h:StAt V (lfD wA lf1w wc 2 tA tc fA fc sA lf1s sc)) (hb:LfB (lfD wA lf1w wc 2 tA tc fA fc sA lf1s sc)) (h2:StAt V (lfD wA2 lf1w wc2 top2 tA2 tc2 fA2 fc2 sA2 lf1s sc2)) (hb2:LfB (lfD wA2 lf1w wc2 top2 tA2 tc2 fA2 fc2 sA2 lf1s sc2)) (b:Bool) (hl:ic (lfD wA lf1w wc 2 tA tc fA fc sA lf1s sc) (lfD wA2 lf1w wc2 top2 tA2 tc2 fA2 fc2 sA2 lf1s sc2)=b):
  Calls Tryz.prog 31 #[.agg #[.int .i64 4,.int .i64 0,.int .i64 2,.int .i64 3,.bool false,.slice wA 8 wc,.int .i64 2,.slice tA 0 tc,.slice fA 0 fc,.slice sA 2 sc],.agg #[.int .i64 4,.int .i64 0,.int .i64 2,.int .i64 3,.bool false,.slice wA2 8 wc2,.int .i64 top2,.slice tA2 0 tc2,.slice fA2 0 fc2,.slice sA2 2 sc2]] V fun e w'=>e= .returned (.bool b)∧Ext V w':=by
 have Z:=sd _ _ V h h2 hb hb2
 rw [hl]at Z
 exact Z
end
theorem jx (V:World):Calls Tryz.prog 23 #[] V fun e w'=>e= .returned (.bool true)∧Ext V w':=by
 go_enter Tryz.func23,Tryz.ntmps23
 go_wp2_with fail
 refine (AC V).mono ?_
 rintro e w1 ⟨wA,wc,tA,tc,fA,fc,sA,sc,rfl,ho,hx⟩
 obtain ⟨g,rfl,hg1,hg2⟩:=bR ho.w (show lf0w≠ []by decide)
 obtain ⟨g2,rfl,hh1,hh2⟩:=bR ho.s (show lf0s≠ []by decide)
 have c0:=fE dB dM ho.w rfl 0 0 (show 0 < lf0w.length by decide) _ rfl
 have c1:=fE dB dM ho.w rfl 1 0 (show 1 < lf0w.length by decide) _ rfl
 have cf:=lY ho.w
 have d0:=fE en dM ho.s rfl 1 0 (show 1 < lf0s.length by decide) _ rfl
 have d1:=fE en dM ho.s rfl 1 1 (show 1 < lf0s.length by decide) _ rfl
 have d2:=fE en dM ho.s rfl 1 2 (show 1 < lf0s.length by decide) _ rfl
 have df:=lY ho.s
 simp only [Nat.zero_mul,Nat.one_mul,Nat.zero_add,Nat.add_zero]at c0 c1 d0 d1 d2
 go_wp2_with fail
 have ho2:=((((ho.setW rfl 0 259).setW rfl 1 2).setS rfl 1 0 (show 1 < lf0s.length by decide) dM (true,0,0) (.bool true) rfl).setS rfl 1 1 (show 1 < (lf0s.set 1 (true,0,0)).length by decide) dM (true,0,0) (.int .i64 0) rfl).setS rfl 1 2 (show 1 < ((lf0s.set 1 (true,0,0)).set 1 (true,0,0)).length by decide) dM (true,0,2) (.int .u64 2) rfl
 have HO1:StOwn V.heap.size (((((w1.setCell ⟨g,0,none⟩ (.int .u64 259)).setCell ⟨g,1,none⟩ (.int .u64 2)).setCell ⟨g2,3,none⟩ (.bool true)).setCell ⟨g2,4,none⟩ (.int .i64 0)).setCell ⟨g2,5,none⟩ (.int .u64 2)) (lfD (some ⟨g,0,none⟩) lf1w wc 2 tA tc fA fc (some ⟨g2,0,none⟩) lf1s sc):=⟨ho2.w,ho2.t,ho2.f,ho2.s⟩
 have hy:=(((((hx.setCell (p:=⟨g,0,none⟩) hg1 (.int .u64 259)).setCell (p:=⟨g,1,none⟩) hg1 (.int .u64 2)).setCell (p:=⟨g2,3,none⟩) hh1 (.bool true)).setCell (p:=⟨g2,4,none⟩) hh1 (.int .i64 0)).setCell (p:=⟨g2,5,none⟩) hh1 (.int .u64 2)).alloc (.cells #[.int .i64 4,.int .i64 0,.int .i64 2,.int .i64 3,.bool false,.slice (some ⟨g,0,none⟩) 8 wc,.int .i64 2,.slice tA 0 tc,.slice fA 0 fc,.slice (some ⟨g2,0,none⟩) 2 sc] 34)
 have HX:=zH hy
 have HB:=zH (yw HO1)
 have hB1:=aG (((((w1.setCell ⟨g,0,none⟩ (.int .u64 259)).setCell ⟨g,1,none⟩ (.int .u64 2)).setCell ⟨g2,3,none⟩ (.bool true)).setCell ⟨g2,4,none⟩ (.int .i64 0)).setCell ⟨g2,5,none⟩ (.int .u64 2)) #[.int .i64 4,.int .i64 0,.int .i64 2,.int .i64 3,.bool false,.slice (some ⟨g,0,none⟩) 8 wc,.int .i64 2,.slice tA 0 tc,.slice fA 0 fc,.slice (some ⟨g2,0,none⟩) 2 sc] 34 w1.heap.size sM
 have H1:Pers ((((((w1.setCell ⟨g,0,none⟩ (.int .u64 259)).setCell ⟨g,1,none⟩ (.int .u64 2)).setCell ⟨g2,3,none⟩ (.bool true)).setCell ⟨g2,4,none⟩ (.int .i64 0)).setCell ⟨g2,5,none⟩ (.int .u64 2)).alloc (.cells #[.int .i64 4,.int .i64 0,.int .i64 2,.int .i64 3,.bool false,.slice (some ⟨g,0,none⟩) 8 wc,.int .i64 2,.slice tA 0 tc,.slice fA 0 fc,.slice (some ⟨g2,0,none⟩) 2 sc] 34)) (fun w=>StAt w (lfD (some ⟨g,0,none⟩) lf1w wc 2 tA tc fA fc (some ⟨g2,0,none⟩) lf1s sc)):=fun w k=>HO1.at.ext (((AD _).alloc _).trans k)
 clear hx hy ho ho2 HO1 c0 c1 cf d0 d1 d2 df hg1 hg2 hh1 hh2
 generalize (((((w1.setCell ⟨g,0,none⟩ (.int .u64 259)).setCell ⟨g,1,none⟩ (.int .u64 2)).setCell ⟨g2,3,none⟩ (.bool true)).setCell ⟨g2,4,none⟩ (.int .i64 0)).setCell ⟨g2,5,none⟩ (.int .u64 2)).alloc (.cells #[.int .i64 4,.int .i64 0,.int .i64 2,.int .i64 3,.bool false,.slice (some ⟨g,0,none⟩) 8 wc,.int .i64 2,.slice tA 0 tc,.slice fA 0 fc,.slice (some ⟨g2,0,none⟩) 2 sc] 34)=W1 at*
 generalize w1.heap.size=B1 at*
 refine (ze W1 H1.here HB.out).mono ?_
 rintro e w2 ⟨nb,no,nc,rb,ro,rc,fb,fo,fc2,lA,lc,rfl,n1,n2,n3,n4,hx⟩
 (replace hB1:=hB1.re hx;replace H1:=H1.re hx;replace HX:=zH (HX.out.trans hx))
 have N1:Pers w2 (fun w=>w.cell? ⟨nb,no+1,none⟩=some (.slice (some ⟨fb,fo,none⟩) 1 fc2)):=fun w k=>k.cell n1
 have N2:Pers w2 (fun w=>w.cell? ⟨fb,fo,none⟩=some (.int .i64 2)):=fun w k=>k.cell n2
 have N3:Pers w2 (fun w=>w.cell? ⟨fb,fo+1,none⟩=some (.int .i64 0)):=fun w k=>k.cell n3
 have N4:Pers w2 (fun w=>w.cell? ⟨rb,ro+1,none⟩=some (.int .i64 0)):=fun w k=>k.cell n4
 have hy:=(AD w2).alloc (.cells #[.slice (some ⟨nb,no,none⟩) 1 nc,.slice (some ⟨rb,ro,none⟩) 1 rc] 27)
 have hB2:=aG w2 #[.slice (some ⟨nb,no,none⟩) 1 nc,.slice (some ⟨rb,ro,none⟩) 1 rc] 27 _ rfl
 have k1:=(aB hB1.here).1
 have q1:=aA hB1.here
 clear hx n1 n2 n3 n4
 go_wp2_with fail
 clear k1 q1
 (replace hB1:=hB1.re hy;replace H1:=H1.re hy;replace HX:=zH (HX.out.trans hy);replace N1:=N1.re hy;replace N2:=N2.re hy;replace N3:=N3.re hy;replace N4:=N4.re hy)
 clear hy
 generalize w2.alloc (.cells #[.slice (some ⟨nb,no,none⟩) 1 nc,.slice (some ⟨rb,ro,none⟩) 1 rc] 27)=W2 at*
 generalize w2.heap.size=B2 at*
 refine (zg W2 H1.here HB.out).mono ?_
 rintro e w3 ⟨rfl,hx⟩
 (replace hB1:=hB1.re hx;replace hB2:=hB2.re hx;replace H1:=H1.re hx;replace HX:=zH (HX.out.trans hx);replace N1:=N1.re hx;replace N2:=N2.re hx;replace N3:=N3.re hx;replace N4:=N4.re hx)
 have k1:=(aB hB1.here).1
 clear hx
 go_wp2_with fail
 clear k1
 refine (xd w3 H1.here HB.out).mono ?_
 rintro e w4 ⟨vA,vc,rfl,hx⟩
 (replace hB1:=hB1.re hx;replace hB2:=hB2.re hx;replace H1:=H1.re hx;replace HX:=zH (HX.out.trans hx);replace N1:=N1.re hx;replace N2:=N2.re hx;replace N3:=N3.re hx;replace N4:=N4.re hx)
 have k1:=(aB hB1.here).1
 clear hx
 go_wp2_with fail
 clear k1
 refine (zb w4 H1.here).mono ?_
 rintro e w5 ⟨wA2,wc2,tA2,tc2,fA2,fcc,sA2,sc2,rfl,ho,hx⟩
 (replace hB1:=hB1.re hx;replace hB2:=hB2.re hx;replace H1:=H1.re hx;replace HX:=zH (HX.out.trans hx);replace N1:=N1.re hx;replace N2:=N2.re hx;replace N3:=N3.re hx;replace N4:=N4.re hx)
 clear hx
 go_wp2_with fail
 have HO2:StOwn w4.heap.size w5 (lfD wA2 lf1w wc2 1 tA2 tc2 fA2 fcc sA2 lf1s sc2):=⟨ho.w,ho.t,ho.f,ho.s⟩
 have HBT:=zH (yw HO2)
 have hB3:=aG w5 #[.int .i64 4,.int .i64 0,.int .i64 2,.int .i64 3,.bool false,.slice wA2 8 wc2,.int .i64 1,.slice tA2 0 tc2,.slice fA2 0 fcc,.slice sA2 2 sc2] 34 _ rfl
 have hy:=(AD w5).alloc (.cells #[.int .i64 4,.int .i64 0,.int .i64 2,.int .i64 3,.bool false,.slice wA2 8 wc2,.int .i64 1,.slice tA2 0 tc2,.slice fA2 0 fcc,.slice sA2 2 sc2] 34)
 have H2:Pers (w5.alloc (.cells #[.int .i64 4,.int .i64 0,.int .i64 2,.int .i64 3,.bool false,.slice wA2 8 wc2,.int .i64 1,.slice tA2 0 tc2,.slice fA2 0 fcc,.slice sA2 2 sc2] 34)) (fun w=>StAt w (lfD wA2 lf1w wc2 1 tA2 tc2 fA2 fcc sA2 lf1s sc2)):=fun w k=>HO2.at.ext (((AD _).alloc _).trans k)
 (replace hB1:=hB1.re hy;replace hB2:=hB2.re hy;replace H1:=H1.re hy;replace HX:=zH (HX.out.trans hy);replace N1:=N1.re hy;replace N2:=N2.re hy;replace N3:=N3.re hy;replace N4:=N4.re hy)
 clear hy ho HO2
 generalize w5.alloc (.cells #[.int .i64 4,.int .i64 0,.int .i64 2,.int .i64 3,.bool false,.slice wA2 8 wc2,.int .i64 1,.slice tA2 0 tc2,.slice fA2 0 fcc,.slice sA2 2 sc2] 34)=W5 at*
 generalize w5.heap.size=B3 at*
 refine (ym W5 H2.here HBT.out).mono ?_
 rintro e w6 ⟨H,mA,mn,mc,rfl,hx⟩
 (replace hB1:=hB1.re hx;replace hB2:=hB2.re hx;replace hB3:=hB3.re hx;replace H1:=H1.re hx;replace H2:=H2.re hx;replace HX:=zH (HX.out.trans hx);replace N1:=N1.re hx;replace N2:=N2.re hx;replace N3:=N3.re hx;replace N4:=N4.re hx)
 clear hx
 have k1:=(aB hB1.here).1
 have k2:=(aB hB2.here).1
 have k3:=(aB hB3.here).1
 have q1:=aA hB1.here
 have q2:=aA hB2.here
 have q3:=aA hB3.here
 have n1:=N1.here
 have n2:=N2.here
 have n3:=N3.here
 have n4:=N4.here
 have q4:=fI n1
 have q5:=fI n2
 have q6:=fI n4
 go_wp2_with fail
 have hy:=(AD w6).alloc (.cells #[.slice H.nA H.ns.length H.ncap,.slice H.rA H.rs.length H.rcap] 27)
 (replace hB1:=hB1.re hy;replace hB2:=hB2.re hy;replace hB3:=hB3.re hy;replace H1:=H1.re hy;replace H2:=H2.re hy;replace HX:=zH (HX.out.trans hy))
 clear hy k1 k2 k3 q1 q2 q3 q4 q5 q6 n1 n2 n3 n4 N1 N2 N3 N4
 generalize w6.alloc (.cells #[.slice H.nA H.ns.length H.ncap,.slice H.rA H.rs.length H.rcap] 27)=W6 at*
 refine (t8 W6 H1.here HB.out H1.here HB.out true yl).mono ?_
 rintro e w7 ⟨rfl,hx⟩
 (replace hB1:=hB1.re hx;replace hB2:=hB2.re hx;replace hB3:=hB3.re hx;replace H1:=H1.re hx;replace H2:=H2.re hx;replace HX:=zH (HX.out.trans hx))
 clear hx
 have k1:=(aB hB1.here).1
 have k3:=(aB hB3.here).1
 go_wp2_with fail
 clear k1 k3
 refine (t8 w7 H1.here HB.out H2.here HBT.out false xb).mono ?_
 rintro e w8 ⟨rfl,hx⟩
 (replace HX:=zH (HX.out.trans hx))
 clear hx
 go_wp2_with fail
 go_returns
 exact ⟨rfl,HX.out⟩
theorem LfB.of {s:StD} (h:StOk s) (hb:bigB s.ws.length s.tb.length s.fr.length s.sl.length=false):LfB s:=by
 simp only [bigB,decide_eq_false_iff_not]at hb
 exact ⟨by omega,by omega,by omega,by omega,h.bK,h.tn,h.wl⟩
theorem xf {G H:GraphD} {vs:List NodV} {q:List (Int×Int)} (h1:G.ns.map aY=vs) (h2:G.rs=q) (h3:H.ns.map aY=vs) (h4:H.rs=q):ia G H=true:=by
 unfold ia gF
 rw [h1,h2,h3,h4]
 simp
theorem mQ {s:StD} {H:GraphD} (hb:LfB s) (h1:H.ns.map aY=dZ s) (h2:H.rs=d6 s) (hs:Shp H):GraphOk H:=by
 by_cases hc:chkS s=0
 ·exact (jF hc hb.ws hb.sl hb.b.wb hb.b.sb h1 h2 hs).1.1
 ·have e1:H.ns= []:=by rw [dZ,if_neg hc]at h1;simpa using h1
  have e2:H.rs= []:=by rw [d6,if_neg hc]at h2;simpa using h2
  exact ⟨by simp [e1],by simp [e2],hs.a,hs.b,hs.c,hs.d,by simp [e1],by simp [e2]⟩
theorem vH {s:StD} (hb:LfB s):(fH s).length≤1000:=by
 unfold fH
 split
 ·rename_i hc
  exact Nat.le_trans (iJ (LfOk.of hc)) hb.ws
 ·simp
theorem vI {s:StD} (hb:LfB s):(gI s).length≤1000:=by
 unfold gI
 split
 ·rw [List.length_map]
  exact Nat.le_trans (iK _) hb.sl
 ·simp
theorem ma (s:StD) (V:World) (h:StAt V s) (hok:StOk s):
  Calls Tryz.prog 6 #[.agg #[.int .i64 s.c0,.int .i64 s.c1,.int .i64 s.c2,.int .i64 s.c3,.bool s.snd,.slice s.wA s.ws.length s.wc,.int .i64 s.top,.slice s.tA s.tb.length s.tc,.slice s.fA s.fr.length s.fc,.slice s.sA s.sl.length s.sc]] V fun e w'=>e= .returned (.bool true)∧Ext V w':=by
 have hB:=aG V #[.int .i64 s.c0,.int .i64 s.c1,.int .i64 s.c2,.int .i64 s.c3,.bool s.snd,.slice s.wA s.ws.length s.wc,.int .i64 s.top,.slice s.tA s.tb.length s.tc,.slice s.fA s.fr.length s.fc,.slice s.sA s.sl.length s.sc] 34 _ rfl
 have hx0:=(AD V).alloc (.cells #[.int .i64 s.c0,.int .i64 s.c1,.int .i64 s.c2,.int .i64 s.c3,.bool s.snd,.slice s.wA s.ws.length s.wc,.int .i64 s.top,.slice s.tA s.tb.length s.tc,.slice s.fA s.fr.length s.fc,.slice s.sA s.sl.length s.sc] 34)
 have H0:=h.pers.re hx0
 have HX:=zH hx0
 have HOK:=zH hok
 obtain ⟨zs,hz⟩:∃x,fH s=x:=⟨_,rfl⟩
 obtain ⟨er,he⟩:∃x,bS s=x:=⟨_,rfl⟩
 obtain ⟨vs,hv⟩:∃x,gI s=x:=⟨_,rfl⟩
 obtain ⟨n,x,y,f,ht⟩:∃n x y f,eI s=(n,x,y,f):=⟨_,_,_,_,rfl⟩
 have HZ:=zH hz
 have HE:=zH he
 have HV:=zH hv
 have HT:=zH ht
 clear hx0 h hok hz he hv ht
 obtain ⟨b,hb⟩:∃b,bigB s.ws.length s.tb.length s.fr.length s.sl.length=b:=⟨_,rfl⟩
 have HBG:=zH hb
 clear hb
 have k1:=(aB hB.here).1
 go_enter Tryz.func6,Tryz.ntmps6
 go_wp2_with fail
 clear k1
 generalize V.alloc (.cells #[.int .i64 s.c0,.int .i64 s.c1,.int .i64 s.c2,.int .i64 s.c3,.bool s.snd,.slice s.wA s.ws.length s.wc,.int .i64 s.top,.slice s.tA s.tb.length s.tc,.slice s.fA s.fr.length s.fc,.slice s.sA s.sl.length s.sc] 34)=W at*
 generalize V.heap.size=S at*
 refine (xK s b HBG.out _ HOK.out).mono ?_
 rintro e w1 ⟨rfl,hx⟩
 (replace hB:=hB.re hx;replace H0:=H0.re hx;replace HX:=zH (HX.out.trans hx))
 clear hx
 have k1:=(aB hB.here).1
 cases b
 rotate_left
 ·go_wp2_with fail
  refine (jx _).mono ?_
  rintro e w2 ⟨rfl,hx⟩
  replace HX:=zH (HX.out.trans hx)
  clear hx
  go_wp2_with fail
  go_returns
  exact ⟨rfl,HX.out⟩
 have HLB:=zH (LfB.of HOK.out HBG.out)
 have HZL:=zH (vH HLB.out)
 have HVL:=zH (vI HLB.out)
 rw [HZ.out]at HZL
 rw [HV.out]at HVL
 go_wp2_with fail
 clear k1
 have Z:=eq s w1 H0.here HLB.out
 rw [HZ.out,HE.out]at Z
 refine Z.mono ?_
 clear Z
 rintro e w2 ⟨G,A1,cap1,rfl,g1,g2,g3,g4,hl,hx⟩
 (replace hB:=hB.re hx;replace H0:=H0.re hx;replace HX:=zH (HX.out.trans hx))
 have HG:Pers w2 (fun w=>GraphAt w G):=fun w k=>g1.ext k
 have HL1:=af hl
 have HGF:=zH (show G.ns.map aY=dZ s∧G.rs=d6 s from ⟨g2,g3⟩)
 have HGO:=zH (mQ HLB.out g2 g3 g4)
 have hy:=(AD w2).alloc (.cells #[.slice G.nA G.ns.length G.ncap,.slice G.rA G.rs.length G.rcap] 27)
 have hB2:=aG w2 #[.slice G.nA G.ns.length G.ncap,.slice G.rA G.rs.length G.rcap] 27 _ rfl
 have k1:=(aB hB.here).1
 have q1:=aA hB.here
 clear hx g1 g2 g3 g4 hl
 go_wp2_with fail
 clear k1 q1
 (replace hB:=hB.re hy;replace H0:=H0.re hy;replace HX:=zH (HX.out.trans hy);replace HG:=HG.re hy;replace HL1:=HL1.re hy)
 clear hy
 generalize w2.alloc (.cells #[.slice G.nA G.ns.length G.ncap,.slice G.rA G.rs.length G.rcap] 27)=W2 at*
 generalize w2.heap.size=B2 at*
 have Z:=n5 s W2 H0.here HLB.out
 rw [HZ.out,HE.out]at Z
 refine Z.mono ?_
 clear Z
 rintro e w3 ⟨K,A2,cap2,rfl,g1,g2,g3,g4,hl,hx⟩
 (replace hB:=hB.re hx;replace H0:=H0.re hx;replace HX:=zH (HX.out.trans hx);replace HG:=HG.re hx;replace HL1:=HL1.re hx;replace hB2:=hB2.re hx)
 have HK:Pers w3 (fun w=>GraphAt w K):=fun w k=>g1.ext k
 have HL2:=af hl
 have HKO:=zH (mQ HLB.out g2 g3 g4)
 have HSM:=zH (xf HGF.out.1 HGF.out.2 g2 g3)
 have hy:=(AD w3).alloc (.cells #[.slice K.nA K.ns.length K.ncap,.slice K.rA K.rs.length K.rcap] 27)
 have hB3:=aG w3 #[.slice K.nA K.ns.length K.ncap,.slice K.rA K.rs.length K.rcap] 27 _ rfl
 have k1:=(aB hB.here).1
 have q1:=aA hB.here
 clear hx g1 g2 g3 g4 hl
 go_wp2_with fail
 clear k1 q1
 (replace hB:=hB.re hy;replace H0:=H0.re hy;replace HX:=zH (HX.out.trans hy);replace HG:=HG.re hy;replace HL1:=HL1.re hy;replace HK:=HK.re hy;replace HL2:=HL2.re hy;replace hB2:=hB2.re hy)
 clear hy
 generalize w3.alloc (.cells #[.slice K.nA K.ns.length K.ncap,.slice K.rA K.rs.length K.rcap] 27)=W3 at*
 generalize w3.heap.size=B3 at*
 have Z:=jt s W3 H0.here HLB.out
 rw [HV.out,HE.out]at Z
 refine Z.mono ?_
 clear Z
 rintro e w4 ⟨A3,cap3,rfl,hl,hx⟩
 (replace hB:=hB.re hx;replace H0:=H0.re hx;replace HX:=zH (HX.out.trans hx);replace HG:=HG.re hx;replace HL1:=HL1.re hx;replace HK:=HK.re hx;replace HL2:=HL2.re hx;replace hB2:=hB2.re hx;replace hB3:=hB3.re hx)
 have HV1:=af hl
 have k1:=(aB hB.here).1
 clear hx hl
 go_wp2_with fail
 clear k1
 have Z:=m8 s w4 H0.here HLB.out
 rw [HV.out,HE.out]at Z
 refine Z.mono ?_
 clear Z
 rintro e w5 ⟨A4,cap4,rfl,hl,hx⟩
 (replace hB:=hB.re hx;replace H0:=H0.re hx;replace HX:=zH (HX.out.trans hx);replace HG:=HG.re hx;replace HL1:=HL1.re hx;replace HK:=HK.re hx;replace HL2:=HL2.re hx;replace hB2:=hB2.re hx;replace hB3:=hB3.re hx;replace HV1:=HV1.re hx)
 have HV2:=af hl
 have k1:=(aB hB.here).1
 clear hx hl
 go_wp2_with fail
 clear k1
 have Z:=nv s w5 H0.here HLB.out
 rw [HT.out,HE.out]at Z
 refine Z.mono ?_
 clear Z
 rintro e w6 ⟨rfl,hx⟩
 (replace hB:=hB.re hx;replace H0:=H0.re hx;replace HX:=zH (HX.out.trans hx);replace HG:=HG.re hx;replace HL1:=HL1.re hx;replace HK:=HK.re hx;replace HL2:=HL2.re hx;replace hB2:=hB2.re hx;replace hB3:=hB3.re hx;replace HV1:=HV1.re hx;replace HV2:=HV2.re hx)
 have k1:=(aB hB.here).1
 clear hx
 go_wp2_with fail
 clear k1
 have Z:=pG s w6 H0.here HLB.out
 rw [HT.out,HE.out]at Z
 refine Z.mono ?_
 clear Z
 rintro e w7 ⟨rfl,hx⟩
 (replace hB:=hB.re hx;replace H0:=H0.re hx;replace HX:=zH (HX.out.trans hx);replace HG:=HG.re hx;replace HL1:=HL1.re hx;replace HK:=HK.re hx;replace HL2:=HL2.re hx;replace hB2:=hB2.re hx;replace hB3:=hB3.re hx;replace HV1:=HV1.re hx;replace HV2:=HV2.re hx)
 have k1:=(aB hB2.here).1
 have k2:=(aB hB3.here).1
 clear hx
 go_wp2_with fail
 clear k1 k2
 refine (qd G K true w7 HSM.out HG.here HK.here HGO.out HKO.out).mono ?_
 rintro e w8 ⟨rfl,hx⟩
 (replace HX:=zH (HX.out.trans hx);replace HL1:=HL1.re hx;replace HL2:=HL2.re hx;replace HV1:=HV1.re hx;replace HV2:=HV2.re hx)
 clear hx
 go_wp2_with fail
 refine (yX A1 A2 cap1 cap2 zs zs true sM w8 (by have:=HZL.out;omega) (by have:=HZL.out;omega) HL1.here HL2.here).mono ?_
 rintro e w9 ⟨rfl,hx⟩
 (replace HX:=zH (HX.out.trans hx);replace HV1:=HV1.re hx;replace HV2:=HV2.re hx)
 clear hx
 go_wp2_with fail
 refine (jC A3 A4 cap3 cap4 vs vs true sM w9 (by have:=HVL.out;omega) (by have:=HVL.out;omega) HV1.here HV2.here).mono ?_
 rintro e w10 ⟨rfl,hx⟩
 (replace HX:=zH (HX.out.trans hx))
 clear hx
 go_wp2_with fail
 refine (jx _).mono ?_
 rintro e w11 ⟨rfl,hx⟩
 (replace HX:=zH (HX.out.trans hx))
 clear hx
 go_wp2_with fail
 go_returns
 exact ⟨rfl,HX.out⟩
theorem me {v0:Value} {w:World} (h0:IsState w v0):Calls Tryz.prog 6 #[v0] w fun e w'=>e= .returned (.bool true)∧Ext w w':=by
 obtain ⟨s,rfl,hs,hok⟩:=h0
 exact ma s w hs hok
end Go.Proofs.YtphpppjfogpohaaGreat
