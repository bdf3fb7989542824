/- Merged by program (merge.py) out of: StE, ExtF. -/
import Derived.Test.YtemmjmplhknemaaMp11
set_option linter.unusedSimpArgs false
set_option linter.unusedVariables false
set_option maxRecDepth 100000
set_option maxHeartbeats 16000000
namespace Go.Proofs.Ytemmjmplhknemaa
open Go.RowKit Go.Shelf
theorem equalWd_is (A A2:Option Addr) (cap cap2:Nat) (xs ys:List (Int)) (b:Bool) (h:decide (xs=ys)=b) (W:World) (hlen:xs.length≤9223372036854775807) (hlen2:ys.length≤9223372036854775807) (hl:WordsAt W A xs) (hl2:WordsAt W A2 ys):
  Calls Try.prog 29 #[.slice A xs.length cap,.slice A2 ys.length cap2] W fun e w'=>e= .returned (.bool b)∧Ext W w':=by
 rw [←h];exact equalUS_any A A2 cap cap2 xs ys W hlen hlen2 hl hl2
theorem equalSp_is (A A2:Option Addr) (cap cap2:Nat) (xs ys:List (Int×Int)) (b:Bool) (h:decide (xs=ys)=b) (W:World) (hlen:xs.length≤9223372036854775807) (hlen2:ys.length≤9223372036854775807) (hl:SpansAt W A xs) (hl2:SpansAt W A2 ys):
  Calls Try.prog 30 #[.slice A xs.length cap,.slice A2 ys.length cap2] W fun e w'=>e= .returned (.bool b)∧Ext W w':=by
 rw [←h];exact equal_any A A2 cap cap2 xs ys W hlen hlen2 hl hl2
theorem equalSl_is (A A2:Option Addr) (cap cap2:Nat) (xs ys:List (Bool×Int×Int)) (b:Bool) (h:decide (xs=ys)=b) (W:World) (hlen:xs.length≤9223372036854775807) (hlen2:ys.length≤9223372036854775807) (hl:SlotsAt W A xs) (hl2:SlotsAt W A2 ys):
  Calls Try.prog 31 #[.slice A xs.length cap,.slice A2 ys.length cap2] W fun e w'=>e= .returned (.bool b)∧Ext W w':=by
 rw [←h];exact equalSl_any A A2 cap cap2 xs ys W hlen hlen2 hl hl2
theorem refsameU_is (A A2:Option Addr) (cap cap2:Nat) (xs ys:List (Int)) (b:Bool) (h:decide (xs=ys)=b) (W:World) (hlen:xs.length≤9223372036854775807) (hlen2:ys.length≤9223372036854775807) (hl:WordsAt W A xs) (hl2:WordsAt W A2 ys):
  Calls Try.prog 15 #[.slice A xs.length cap,.slice A2 ys.length cap2] W fun e w'=>e= .returned (.bool b)∧Ext W w':=by
 rw [←h];exact refsameU_any A A2 cap cap2 xs ys W hlen hlen2 hl hl2
theorem refsameSl_is (A A2:Option Addr) (cap cap2:Nat) (xs ys:List (Bool×Int×Int)) (b:Bool) (h:decide (xs=ys)=b) (W:World) (hlen:xs.length≤9223372036854775807) (hlen2:ys.length≤9223372036854775807) (hl:SlotsAt W A xs) (hl2:SlotsAt W A2 ys):
  Calls Try.prog 17 #[.slice A xs.length cap,.slice A2 ys.length cap2] W fun e w'=>e= .returned (.bool b)∧Ext W w':=by
 rw [←h];exact refsameSl_any A A2 cap cap2 xs ys W hlen hlen2 hl hl2
theorem ssame_any (a b:StD) (V:World) (ha:StAt V a) (hb:StAt V b) (la:StLe a) (lb:StLe b):Calls Try.prog 12 #[.agg #[.int .i64 a.c0,.int .i64 a.c1,.int .i64 a.c2,.int .i64 a.c3,.bool a.snd,.slice a.wA a.ws.length a.wc,.int .i64 a.top,.slice a.tA a.tb.length a.tc,.slice a.fA a.fr.length a.fc,.slice a.sA a.sl.length a.sc],.agg #[.int .i64 b.c0,.int .i64 b.c1,.int .i64 b.c2,.int .i64 b.c3,.bool b.snd,.slice b.wA b.ws.length b.wc,.int .i64 b.top,.slice b.tA b.tb.length b.tc,.slice b.fA b.fr.length b.fc,.slice b.sA b.sl.length b.sc]] V fun e w'=>e= .returned (.bool (eqvS a b))∧Ext V w':=by
 obtain ⟨c0,c1,c2,c3,sn,wA,ws,wc,top,bA,bs,bc,fA,fs,fc,sA,ss,sc⟩:=a
 obtain ⟨d0,d1,d2,d3,sm,xA,xs,xc,tip,yA,ys,yc,gA,gs,gc,zA,zs,zc⟩:=b
 obtain ⟨hw,ht,hf,hs⟩:=ha
 obtain ⟨kw,kt,kf,ks⟩:=hb
 obtain ⟨l1,l2,l3,l4⟩:=la
 obtain ⟨m1,m2,m3,m4⟩:=lb
 simp only at hw ht hf hs l1 l2 l3 l4 kw kt kf ks m1 m2 m3 m4
 have HW:=pers_row hw
 have HT:=pers_row ht
 have HF:=pers_row hf
 have HS:=pers_row hs
 have KW:=pers_row kw
 have KT:=pers_row kt
 have KF:=pers_row kf
 have KS:=pers_row ks
 have hB:=pers_new2 V #[.int .i64 c0,.int .i64 c1,.int .i64 c2,.int .i64 c3,.bool sn,.slice wA ws.length wc,.int .i64 top,.slice bA bs.length bc,.slice fA fs.length fc,.slice sA ss.length sc] 28 _ rfl (.cells #[.int .i64 d0,.int .i64 d1,.int .i64 d2,.int .i64 d3,.bool sm,.slice xA xs.length xc,.int .i64 tip,.slice yA ys.length yc,.slice gA gs.length gc,.slice zA zs.length zc] 28)
 have hC:=pers_new (V.alloc (.cells #[.int .i64 c0,.int .i64 c1,.int .i64 c2,.int .i64 c3,.bool sn,.slice wA ws.length wc,.int .i64 top,.slice bA bs.length bc,.slice fA fs.length fc,.slice sA ss.length sc] 28)) #[.int .i64 d0,.int .i64 d1,.int .i64 d2,.int .i64 d3,.bool sm,.slice xA xs.length xc,.int .i64 tip,.slice yA ys.length yc,.slice gA gs.length gc,.slice zA zs.length zc] 28 (V.heap.size+1) (by simp)
 have hX:=((Ext.refl V).alloc (.cells #[.int .i64 c0,.int .i64 c1,.int .i64 c2,.int .i64 c3,.bool sn,.slice wA ws.length wc,.int .i64 top,.slice bA bs.length bc,.slice fA fs.length fc,.slice sA ss.length sc] 28)).alloc (.cells #[.int .i64 d0,.int .i64 d1,.int .i64 d2,.int .i64 d3,.bool sm,.slice xA xs.length xc,.int .i64 tip,.slice yA ys.length yc,.slice gA gs.length gc,.slice zA zs.length zc] 28)
 have HX:=zH hX
 (replace HW:=HW.re hX;replace HT:=HT.re hX;replace HF:=HF.re hX;replace HS:=HS.re hX;replace KW:=KW.re hX;replace KT:=KT.re hX;replace KF:=KF.re hX;replace KS:=KS.re hX)
 clear hw ht hf hs kw kt kf ks hX
 by_cases e0:c0=d0
 rotate_left
 ·have HR:Hid (eqvS ⟨c0,c1,c2,c3,sn,wA,ws,wc,top,bA,bs,bc,fA,fs,fc,sA,ss,sc⟩ ⟨d0,d1,d2,d3,sm,xA,xs,xc,tip,yA,ys,yc,gA,gs,gc,zA,zs,zc⟩=false):=zH (by rw [Bool.eq_false_iff];intro h;have:=eqvS_iff.1 h;simp only at this;exact e0 (by first | exact this.1.1 | exact this.1.2.1 | exact this.1.2.2.1 | exact this.1.2.2.2 | exact this.2.1 | exact this.2.2.1 | exact this.2.2.2.1 | exact this.2.2.2.2.1 | exact this.2.2.2.2.2.1 | exact this.2.2.2.2.2.2))
  have q1:(c0==d0)=false:=by rw [beq_eq_false_iff_ne];exact e0
  have q2:(c0 !=d0)=true:=by rw [bne_iff_ne];exact e0
  clear e0
  go_enter Try.func12,Try.ntmps12
  go_wp2_with fail
  generalize (V.alloc (.cells #[.int .i64 c0,.int .i64 c1,.int .i64 c2,.int .i64 c3,.bool sn,.slice wA ws.length wc,.int .i64 top,.slice bA bs.length bc,.slice fA fs.length fc,.slice sA ss.length sc] 28)).alloc (.cells #[.int .i64 d0,.int .i64 d1,.int .i64 d2,.int .i64 d3,.bool sm,.slice xA xs.length xc,.int .i64 tip,.slice yA ys.length yc,.slice gA gs.length gc,.slice zA zs.length zc] 28)=W at*
  generalize V.heap.size=S at*
  have g1:=hB.cells
  have g2:=hC.cells
  ((first | refine at_baseC (W:=W) ?_ | refine at_base (W:=W) ?_);intro uq;(try go_wp2_with fail))
  go_ret
  exact ⟨ret_bool HR.out.symm,HX.out.trans (ExtOf.ext _)⟩
 subst e0
 by_cases e1:c1=d1
 rotate_left
 ·have HR:Hid (eqvS ⟨c0,c1,c2,c3,sn,wA,ws,wc,top,bA,bs,bc,fA,fs,fc,sA,ss,sc⟩ ⟨c0,d1,d2,d3,sm,xA,xs,xc,tip,yA,ys,yc,gA,gs,gc,zA,zs,zc⟩=false):=zH (by rw [Bool.eq_false_iff];intro h;have:=eqvS_iff.1 h;simp only at this;exact e1 (by first | exact this.1.1 | exact this.1.2.1 | exact this.1.2.2.1 | exact this.1.2.2.2 | exact this.2.1 | exact this.2.2.1 | exact this.2.2.2.1 | exact this.2.2.2.2.1 | exact this.2.2.2.2.2.1 | exact this.2.2.2.2.2.2))
  have q1:(c1==d1)=false:=by rw [beq_eq_false_iff_ne];exact e1
  have q2:(c1 !=d1)=true:=by rw [bne_iff_ne];exact e1
  clear e1
  go_enter Try.func12,Try.ntmps12
  go_wp2_with fail
  generalize (V.alloc (.cells #[.int .i64 c0,.int .i64 c1,.int .i64 c2,.int .i64 c3,.bool sn,.slice wA ws.length wc,.int .i64 top,.slice bA bs.length bc,.slice fA fs.length fc,.slice sA ss.length sc] 28)).alloc (.cells #[.int .i64 c0,.int .i64 d1,.int .i64 d2,.int .i64 d3,.bool sm,.slice xA xs.length xc,.int .i64 tip,.slice yA ys.length yc,.slice gA gs.length gc,.slice zA zs.length zc] 28)=W at*
  generalize V.heap.size=S at*
  have g1:=hB.cells
  have g2:=hC.cells
  ((first | refine at_baseC (W:=W) ?_ | refine at_base (W:=W) ?_);intro uq;(try go_wp2_with fail))
  go_ret
  exact ⟨ret_bool HR.out.symm,HX.out.trans (ExtOf.ext _)⟩
 subst e1
 by_cases e2:c2=d2
 rotate_left
 ·have HR:Hid (eqvS ⟨c0,c1,c2,c3,sn,wA,ws,wc,top,bA,bs,bc,fA,fs,fc,sA,ss,sc⟩ ⟨c0,c1,d2,d3,sm,xA,xs,xc,tip,yA,ys,yc,gA,gs,gc,zA,zs,zc⟩=false):=zH (by rw [Bool.eq_false_iff];intro h;have:=eqvS_iff.1 h;simp only at this;exact e2 (by first | exact this.1.1 | exact this.1.2.1 | exact this.1.2.2.1 | exact this.1.2.2.2 | exact this.2.1 | exact this.2.2.1 | exact this.2.2.2.1 | exact this.2.2.2.2.1 | exact this.2.2.2.2.2.1 | exact this.2.2.2.2.2.2))
  have q1:(c2==d2)=false:=by rw [beq_eq_false_iff_ne];exact e2
  have q2:(c2 !=d2)=true:=by rw [bne_iff_ne];exact e2
  clear e2
  go_enter Try.func12,Try.ntmps12
  go_wp2_with fail
  generalize (V.alloc (.cells #[.int .i64 c0,.int .i64 c1,.int .i64 c2,.int .i64 c3,.bool sn,.slice wA ws.length wc,.int .i64 top,.slice bA bs.length bc,.slice fA fs.length fc,.slice sA ss.length sc] 28)).alloc (.cells #[.int .i64 c0,.int .i64 c1,.int .i64 d2,.int .i64 d3,.bool sm,.slice xA xs.length xc,.int .i64 tip,.slice yA ys.length yc,.slice gA gs.length gc,.slice zA zs.length zc] 28)=W at*
  generalize V.heap.size=S at*
  have g1:=hB.cells
  have g2:=hC.cells
  ((first | refine at_baseC (W:=W) ?_ | refine at_base (W:=W) ?_);intro uq;(try go_wp2_with fail))
  go_ret
  exact ⟨ret_bool HR.out.symm,HX.out.trans (ExtOf.ext _)⟩
 subst e2
 by_cases e3:c3=d3
 rotate_left
 ·have HR:Hid (eqvS ⟨c0,c1,c2,c3,sn,wA,ws,wc,top,bA,bs,bc,fA,fs,fc,sA,ss,sc⟩ ⟨c0,c1,c2,d3,sm,xA,xs,xc,tip,yA,ys,yc,gA,gs,gc,zA,zs,zc⟩=false):=zH (by rw [Bool.eq_false_iff];intro h;have:=eqvS_iff.1 h;simp only at this;exact e3 (by first | exact this.1.1 | exact this.1.2.1 | exact this.1.2.2.1 | exact this.1.2.2.2 | exact this.2.1 | exact this.2.2.1 | exact this.2.2.2.1 | exact this.2.2.2.2.1 | exact this.2.2.2.2.2.1 | exact this.2.2.2.2.2.2))
  have q1:(c3==d3)=false:=by rw [beq_eq_false_iff_ne];exact e3
  have q2:(c3 !=d3)=true:=by rw [bne_iff_ne];exact e3
  clear e3
  go_enter Try.func12,Try.ntmps12
  go_wp2_with fail
  generalize (V.alloc (.cells #[.int .i64 c0,.int .i64 c1,.int .i64 c2,.int .i64 c3,.bool sn,.slice wA ws.length wc,.int .i64 top,.slice bA bs.length bc,.slice fA fs.length fc,.slice sA ss.length sc] 28)).alloc (.cells #[.int .i64 c0,.int .i64 c1,.int .i64 c2,.int .i64 d3,.bool sm,.slice xA xs.length xc,.int .i64 tip,.slice yA ys.length yc,.slice gA gs.length gc,.slice zA zs.length zc] 28)=W at*
  generalize V.heap.size=S at*
  have g1:=hB.cells
  have g2:=hC.cells
  ((first | refine at_baseC (W:=W) ?_ | refine at_base (W:=W) ?_);intro uq;(try go_wp2_with fail))
  go_ret
  exact ⟨ret_bool HR.out.symm,HX.out.trans (ExtOf.ext _)⟩
 subst e3
 by_cases e4:sn=sm
 rotate_left
 ·have HR:Hid (eqvS ⟨c0,c1,c2,c3,sn,wA,ws,wc,top,bA,bs,bc,fA,fs,fc,sA,ss,sc⟩ ⟨c0,c1,c2,c3,sm,xA,xs,xc,tip,yA,ys,yc,gA,gs,gc,zA,zs,zc⟩=false):=zH (by rw [Bool.eq_false_iff];intro h;have:=eqvS_iff.1 h;simp only at this;exact e4 (by first | exact this.1.1 | exact this.1.2.1 | exact this.1.2.2.1 | exact this.1.2.2.2 | exact this.2.1 | exact this.2.2.1 | exact this.2.2.2.1 | exact this.2.2.2.2.1 | exact this.2.2.2.2.2.1 | exact this.2.2.2.2.2.2))
  have q1:(sn==sm)=false:=by rw [beq_eq_false_iff_ne];exact e4
  have q2:(sn !=sm)=true:=by rw [bne_iff_ne];exact e4
  clear e4
  go_enter Try.func12,Try.ntmps12
  go_wp2_with fail
  generalize (V.alloc (.cells #[.int .i64 c0,.int .i64 c1,.int .i64 c2,.int .i64 c3,.bool sn,.slice wA ws.length wc,.int .i64 top,.slice bA bs.length bc,.slice fA fs.length fc,.slice sA ss.length sc] 28)).alloc (.cells #[.int .i64 c0,.int .i64 c1,.int .i64 c2,.int .i64 c3,.bool sm,.slice xA xs.length xc,.int .i64 tip,.slice yA ys.length yc,.slice gA gs.length gc,.slice zA zs.length zc] 28)=W at*
  generalize V.heap.size=S at*
  have g1:=hB.cells
  have g2:=hC.cells
  ((first | refine at_baseC (W:=W) ?_ | refine at_base (W:=W) ?_);intro uq;(try go_wp2_with fail))
  go_ret
  exact ⟨ret_bool HR.out.symm,HX.out.trans (ExtOf.ext _)⟩
 subst e4
 by_cases e5:top=tip
 rotate_left
 ·have HR:Hid (eqvS ⟨c0,c1,c2,c3,sn,wA,ws,wc,top,bA,bs,bc,fA,fs,fc,sA,ss,sc⟩ ⟨c0,c1,c2,c3,sn,xA,xs,xc,tip,yA,ys,yc,gA,gs,gc,zA,zs,zc⟩=false):=zH (by rw [Bool.eq_false_iff];intro h;have:=eqvS_iff.1 h;simp only at this;exact e5 (by first | exact this.1.1 | exact this.1.2.1 | exact this.1.2.2.1 | exact this.1.2.2.2 | exact this.2.1 | exact this.2.2.1 | exact this.2.2.2.1 | exact this.2.2.2.2.1 | exact this.2.2.2.2.2.1 | exact this.2.2.2.2.2.2))
  have q1:(top==tip)=false:=by rw [beq_eq_false_iff_ne];exact e5
  have q2:(top !=tip)=true:=by rw [bne_iff_ne];exact e5
  clear e5
  go_enter Try.func12,Try.ntmps12
  go_wp2_with fail
  generalize (V.alloc (.cells #[.int .i64 c0,.int .i64 c1,.int .i64 c2,.int .i64 c3,.bool sn,.slice wA ws.length wc,.int .i64 top,.slice bA bs.length bc,.slice fA fs.length fc,.slice sA ss.length sc] 28)).alloc (.cells #[.int .i64 c0,.int .i64 c1,.int .i64 c2,.int .i64 c3,.bool sn,.slice xA xs.length xc,.int .i64 tip,.slice yA ys.length yc,.slice gA gs.length gc,.slice zA zs.length zc] 28)=W at*
  generalize V.heap.size=S at*
  have g1:=hB.cells
  have g2:=hC.cells
  ((first | refine at_baseC (W:=W) ?_ | refine at_base (W:=W) ?_);intro uq;(try go_wp2_with fail))
  go_ret
  exact ⟨ret_bool HR.out.symm,HX.out.trans (ExtOf.ext _)⟩
 subst e5
 by_cases e6:ws=xs
 rotate_left
 ·have HR:Hid (eqvS ⟨c0,c1,c2,c3,sn,wA,ws,wc,top,bA,bs,bc,fA,fs,fc,sA,ss,sc⟩ ⟨c0,c1,c2,c3,sn,xA,xs,xc,top,yA,ys,yc,gA,gs,gc,zA,zs,zc⟩=false):=zH (by rw [Bool.eq_false_iff];intro h;have:=eqvS_iff.1 h;simp only at this;exact e6 (by first | exact this.1.1 | exact this.1.2.1 | exact this.1.2.2.1 | exact this.1.2.2.2 | exact this.2.1 | exact this.2.2.1 | exact this.2.2.2.1 | exact this.2.2.2.2.1 | exact this.2.2.2.2.2.1 | exact this.2.2.2.2.2.2))
  have HB1:Hid (decide (ws=xs)=false):=zH (by simpa using e6)
  clear e6
  go_enter Try.func12,Try.ntmps12
  go_wp2_with fail
  generalize (V.alloc (.cells #[.int .i64 c0,.int .i64 c1,.int .i64 c2,.int .i64 c3,.bool sn,.slice wA ws.length wc,.int .i64 top,.slice bA bs.length bc,.slice fA fs.length fc,.slice sA ss.length sc] 28)).alloc (.cells #[.int .i64 c0,.int .i64 c1,.int .i64 c2,.int .i64 c3,.bool sn,.slice xA xs.length xc,.int .i64 top,.slice yA ys.length yc,.slice gA gs.length gc,.slice zA zs.length zc] 28)=W at*
  generalize V.heap.size=S at*
  have g1:=hB.cells
  have g2:=hC.cells
  ((first | refine at_baseC (W:=W) ?_ | refine at_base (W:=W) ?_);intro uq;(try go_wp2_with fail))
  (refine (equalWd_is wA xA wc xc ws xs false HB1.out _ (by omega) (by omega) (HW.at zE) (KW.at zE)).mono ?_;rintro e wq ⟨rfl,hx⟩;replace hx:=Ext.trans (a:=W) zE hx;obtain ⟨uq,rfl⟩:∃u:ExtOf W,wq=u.1:=⟨⟨wq,hx⟩,rfl⟩;clear hx;go_wp2_with fail)
  go_ret
  exact ⟨ret_bool HR.out.symm,HX.out.trans (ExtOf.ext _)⟩
 subst e6
 by_cases e7:bs=ys
 rotate_left
 ·have HR:Hid (eqvS ⟨c0,c1,c2,c3,sn,wA,ws,wc,top,bA,bs,bc,fA,fs,fc,sA,ss,sc⟩ ⟨c0,c1,c2,c3,sn,xA,ws,xc,top,yA,ys,yc,gA,gs,gc,zA,zs,zc⟩=false):=zH (by rw [Bool.eq_false_iff];intro h;have:=eqvS_iff.1 h;simp only at this;exact e7 (by first | exact this.1.1 | exact this.1.2.1 | exact this.1.2.2.1 | exact this.1.2.2.2 | exact this.2.1 | exact this.2.2.1 | exact this.2.2.2.1 | exact this.2.2.2.2.1 | exact this.2.2.2.2.2.1 | exact this.2.2.2.2.2.2))
  have HB2:Hid (decide (bs=ys)=false):=zH (by simpa using e7)
  clear e7
  go_enter Try.func12,Try.ntmps12
  go_wp2_with fail
  generalize (V.alloc (.cells #[.int .i64 c0,.int .i64 c1,.int .i64 c2,.int .i64 c3,.bool sn,.slice wA ws.length wc,.int .i64 top,.slice bA bs.length bc,.slice fA fs.length fc,.slice sA ss.length sc] 28)).alloc (.cells #[.int .i64 c0,.int .i64 c1,.int .i64 c2,.int .i64 c3,.bool sn,.slice xA ws.length xc,.int .i64 top,.slice yA ys.length yc,.slice gA gs.length gc,.slice zA zs.length zc] 28)=W at*
  generalize V.heap.size=S at*
  have g1:=hB.cells
  have g2:=hC.cells
  ((first | refine at_baseC (W:=W) ?_ | refine at_base (W:=W) ?_);intro uq;(try go_wp2_with fail))
  (refine (equalWd_is wA xA wc xc ws ws true (by simp) _ (by omega) (by omega) (HW.at zE) (KW.at zE)).mono ?_;rintro e wq ⟨rfl,hx⟩;replace hx:=Ext.trans (a:=W) zE hx;obtain ⟨uq,rfl⟩:∃u:ExtOf W,wq=u.1:=⟨⟨wq,hx⟩,rfl⟩;clear hx;go_wp2_with fail)
  (refine (equalSp_is bA yA bc yc bs ys false HB2.out _ (by omega) (by omega) (HT.at zE) (KT.at zE)).mono ?_;rintro e wq ⟨rfl,hx⟩;replace hx:=Ext.trans (a:=W) zE hx;obtain ⟨uq,rfl⟩:∃u:ExtOf W,wq=u.1:=⟨⟨wq,hx⟩,rfl⟩;clear hx;go_wp2_with fail)
  go_ret
  exact ⟨ret_bool HR.out.symm,HX.out.trans (ExtOf.ext _)⟩
 subst e7
 by_cases e8:fs=gs
 rotate_left
 ·have HR:Hid (eqvS ⟨c0,c1,c2,c3,sn,wA,ws,wc,top,bA,bs,bc,fA,fs,fc,sA,ss,sc⟩ ⟨c0,c1,c2,c3,sn,xA,ws,xc,top,yA,bs,yc,gA,gs,gc,zA,zs,zc⟩=false):=zH (by rw [Bool.eq_false_iff];intro h;have:=eqvS_iff.1 h;simp only at this;exact e8 (by first | exact this.1.1 | exact this.1.2.1 | exact this.1.2.2.1 | exact this.1.2.2.2 | exact this.2.1 | exact this.2.2.1 | exact this.2.2.2.1 | exact this.2.2.2.2.1 | exact this.2.2.2.2.2.1 | exact this.2.2.2.2.2.2))
  have HB3:Hid (decide (fs=gs)=false):=zH (by simpa using e8)
  clear e8
  go_enter Try.func12,Try.ntmps12
  go_wp2_with fail
  generalize (V.alloc (.cells #[.int .i64 c0,.int .i64 c1,.int .i64 c2,.int .i64 c3,.bool sn,.slice wA ws.length wc,.int .i64 top,.slice bA bs.length bc,.slice fA fs.length fc,.slice sA ss.length sc] 28)).alloc (.cells #[.int .i64 c0,.int .i64 c1,.int .i64 c2,.int .i64 c3,.bool sn,.slice xA ws.length xc,.int .i64 top,.slice yA bs.length yc,.slice gA gs.length gc,.slice zA zs.length zc] 28)=W at*
  generalize V.heap.size=S at*
  have g1:=hB.cells
  have g2:=hC.cells
  ((first | refine at_baseC (W:=W) ?_ | refine at_base (W:=W) ?_);intro uq;(try go_wp2_with fail))
  (refine (equalWd_is wA xA wc xc ws ws true (by simp) _ (by omega) (by omega) (HW.at zE) (KW.at zE)).mono ?_;rintro e wq ⟨rfl,hx⟩;replace hx:=Ext.trans (a:=W) zE hx;obtain ⟨uq,rfl⟩:∃u:ExtOf W,wq=u.1:=⟨⟨wq,hx⟩,rfl⟩;clear hx;go_wp2_with fail)
  (refine (equalSp_is bA yA bc yc bs bs true (by simp) _ (by omega) (by omega) (HT.at zE) (KT.at zE)).mono ?_;rintro e wq ⟨rfl,hx⟩;replace hx:=Ext.trans (a:=W) zE hx;obtain ⟨uq,rfl⟩:∃u:ExtOf W,wq=u.1:=⟨⟨wq,hx⟩,rfl⟩;clear hx;go_wp2_with fail)
  (refine (equalSp_is fA gA fc gc fs gs false HB3.out _ (by omega) (by omega) (HF.at zE) (KF.at zE)).mono ?_;rintro e wq ⟨rfl,hx⟩;replace hx:=Ext.trans (a:=W) zE hx;obtain ⟨uq,rfl⟩:∃u:ExtOf W,wq=u.1:=⟨⟨wq,hx⟩,rfl⟩;clear hx;go_wp2_with fail)
  go_ret
  exact ⟨ret_bool HR.out.symm,HX.out.trans (ExtOf.ext _)⟩
 subst e8
 by_cases e9:ss=zs
 rotate_left
 ·have HR:Hid (eqvS ⟨c0,c1,c2,c3,sn,wA,ws,wc,top,bA,bs,bc,fA,fs,fc,sA,ss,sc⟩ ⟨c0,c1,c2,c3,sn,xA,ws,xc,top,yA,bs,yc,gA,fs,gc,zA,zs,zc⟩=false):=zH (by rw [Bool.eq_false_iff];intro h;have:=eqvS_iff.1 h;simp only at this;exact e9 (by first | exact this.1.1 | exact this.1.2.1 | exact this.1.2.2.1 | exact this.1.2.2.2 | exact this.2.1 | exact this.2.2.1 | exact this.2.2.2.1 | exact this.2.2.2.2.1 | exact this.2.2.2.2.2.1 | exact this.2.2.2.2.2.2))
  have HB4:Hid (decide (ss=zs)=false):=zH (by simpa using e9)
  clear e9
  go_enter Try.func12,Try.ntmps12
  go_wp2_with fail
  generalize (V.alloc (.cells #[.int .i64 c0,.int .i64 c1,.int .i64 c2,.int .i64 c3,.bool sn,.slice wA ws.length wc,.int .i64 top,.slice bA bs.length bc,.slice fA fs.length fc,.slice sA ss.length sc] 28)).alloc (.cells #[.int .i64 c0,.int .i64 c1,.int .i64 c2,.int .i64 c3,.bool sn,.slice xA ws.length xc,.int .i64 top,.slice yA bs.length yc,.slice gA fs.length gc,.slice zA zs.length zc] 28)=W at*
  generalize V.heap.size=S at*
  have g1:=hB.cells
  have g2:=hC.cells
  ((first | refine at_baseC (W:=W) ?_ | refine at_base (W:=W) ?_);intro uq;(try go_wp2_with fail))
  (refine (equalWd_is wA xA wc xc ws ws true (by simp) _ (by omega) (by omega) (HW.at zE) (KW.at zE)).mono ?_;rintro e wq ⟨rfl,hx⟩;replace hx:=Ext.trans (a:=W) zE hx;obtain ⟨uq,rfl⟩:∃u:ExtOf W,wq=u.1:=⟨⟨wq,hx⟩,rfl⟩;clear hx;go_wp2_with fail)
  (refine (equalSp_is bA yA bc yc bs bs true (by simp) _ (by omega) (by omega) (HT.at zE) (KT.at zE)).mono ?_;rintro e wq ⟨rfl,hx⟩;replace hx:=Ext.trans (a:=W) zE hx;obtain ⟨uq,rfl⟩:∃u:ExtOf W,wq=u.1:=⟨⟨wq,hx⟩,rfl⟩;clear hx;go_wp2_with fail)
  (refine (equalSp_is fA gA fc gc fs fs true (by simp) _ (by omega) (by omega) (HF.at zE) (KF.at zE)).mono ?_;rintro e wq ⟨rfl,hx⟩;replace hx:=Ext.trans (a:=W) zE hx;obtain ⟨uq,rfl⟩:∃u:ExtOf W,wq=u.1:=⟨⟨wq,hx⟩,rfl⟩;clear hx;go_wp2_with fail)
  (refine (equalSl_is sA zA sc zc ss zs false HB4.out _ (by omega) (by omega) (HS.at zE) (KS.at zE)).mono ?_;rintro e wq ⟨rfl,hx⟩;replace hx:=Ext.trans (a:=W) zE hx;obtain ⟨uq,rfl⟩:∃u:ExtOf W,wq=u.1:=⟨⟨wq,hx⟩,rfl⟩;clear hx;go_wp2_with fail)
  go_ret
  exact ⟨ret_bool HR.out.symm,HX.out.trans (ExtOf.ext _)⟩
 subst e9
 have HR:Hid (eqvS ⟨c0,c1,c2,c3,sn,wA,ws,wc,top,bA,bs,bc,fA,fs,fc,sA,ss,sc⟩ ⟨c0,c1,c2,c3,sn,xA,ws,xc,top,yA,bs,yc,gA,fs,gc,zA,ss,zc⟩=true):=zH (by simp [eqvS])
 go_enter Try.func12,Try.ntmps12
 go_wp2_with fail
 generalize (V.alloc (.cells #[.int .i64 c0,.int .i64 c1,.int .i64 c2,.int .i64 c3,.bool sn,.slice wA ws.length wc,.int .i64 top,.slice bA bs.length bc,.slice fA fs.length fc,.slice sA ss.length sc] 28)).alloc (.cells #[.int .i64 c0,.int .i64 c1,.int .i64 c2,.int .i64 c3,.bool sn,.slice xA ws.length xc,.int .i64 top,.slice yA bs.length yc,.slice gA fs.length gc,.slice zA ss.length zc] 28)=W at*
 generalize V.heap.size=S at*
 have g1:=hB.cells
 have g2:=hC.cells
 ((first | refine at_baseC (W:=W) ?_ | refine at_base (W:=W) ?_);intro uq;(try go_wp2_with fail))
 (refine (equalWd_is wA xA wc xc ws ws true (by simp) _ (by omega) (by omega) (HW.at zE) (KW.at zE)).mono ?_;rintro e wq ⟨rfl,hx⟩;replace hx:=Ext.trans (a:=W) zE hx;obtain ⟨uq,rfl⟩:∃u:ExtOf W,wq=u.1:=⟨⟨wq,hx⟩,rfl⟩;clear hx;go_wp2_with fail)
 (refine (equalSp_is bA yA bc yc bs bs true (by simp) _ (by omega) (by omega) (HT.at zE) (KT.at zE)).mono ?_;rintro e wq ⟨rfl,hx⟩;replace hx:=Ext.trans (a:=W) zE hx;obtain ⟨uq,rfl⟩:∃u:ExtOf W,wq=u.1:=⟨⟨wq,hx⟩,rfl⟩;clear hx;go_wp2_with fail)
 (refine (equalSp_is fA gA fc gc fs fs true (by simp) _ (by omega) (by omega) (HF.at zE) (KF.at zE)).mono ?_;rintro e wq ⟨rfl,hx⟩;replace hx:=Ext.trans (a:=W) zE hx;obtain ⟨uq,rfl⟩:∃u:ExtOf W,wq=u.1:=⟨⟨wq,hx⟩,rfl⟩;clear hx;go_wp2_with fail)
 (refine (equalSl_is sA zA sc zc ss ss true (by simp) _ (by omega) (by omega) (HS.at zE) (KS.at zE)).mono ?_;rintro e wq ⟨rfl,hx⟩;replace hx:=Ext.trans (a:=W) zE hx;obtain ⟨uq,rfl⟩:∃u:ExtOf W,wq=u.1:=⟨⟨wq,hx⟩,rfl⟩;clear hx;go_wp2_with fail)
 go_ret
 exact ⟨ret_bool HR.out.symm,HX.out.trans (ExtOf.ext _)⟩
theorem refssame_any (a b:StD) (V:World) (ha:StAt V a) (hb:StAt V b) (la:StLe a) (lb:StLe b):Calls Try.prog 7 #[.agg #[.int .i64 a.c0,.int .i64 a.c1,.int .i64 a.c2,.int .i64 a.c3,.bool a.snd,.slice a.wA a.ws.length a.wc,.int .i64 a.top,.slice a.tA a.tb.length a.tc,.slice a.fA a.fr.length a.fc,.slice a.sA a.sl.length a.sc],.agg #[.int .i64 b.c0,.int .i64 b.c1,.int .i64 b.c2,.int .i64 b.c3,.bool b.snd,.slice b.wA b.ws.length b.wc,.int .i64 b.top,.slice b.tA b.tb.length b.tc,.slice b.fA b.fr.length b.fc,.slice b.sA b.sl.length b.sc]] V fun e w'=>e= .returned (.bool (eqvS a b))∧Ext V w':=by
 obtain ⟨c0,c1,c2,c3,sn,wA,ws,wc,top,bA,bs,bc,fA,fs,fc,sA,ss,sc⟩:=a
 obtain ⟨d0,d1,d2,d3,sm,xA,xs,xc,tip,yA,ys,yc,gA,gs,gc,zA,zs,zc⟩:=b
 obtain ⟨hw,ht,hf,hs⟩:=ha
 obtain ⟨kw,kt,kf,ks⟩:=hb
 obtain ⟨l1,l2,l3,l4⟩:=la
 obtain ⟨m1,m2,m3,m4⟩:=lb
 simp only at hw ht hf hs l1 l2 l3 l4 kw kt kf ks m1 m2 m3 m4
 have HW:=pers_row hw
 have HT:=pers_row ht
 have HF:=pers_row hf
 have HS:=pers_row hs
 have KW:=pers_row kw
 have KT:=pers_row kt
 have KF:=pers_row kf
 have KS:=pers_row ks
 have hB:=pers_new2 V #[.int .i64 c0,.int .i64 c1,.int .i64 c2,.int .i64 c3,.bool sn,.slice wA ws.length wc,.int .i64 top,.slice bA bs.length bc,.slice fA fs.length fc,.slice sA ss.length sc] 28 _ rfl (.cells #[.int .i64 d0,.int .i64 d1,.int .i64 d2,.int .i64 d3,.bool sm,.slice xA xs.length xc,.int .i64 tip,.slice yA ys.length yc,.slice gA gs.length gc,.slice zA zs.length zc] 28)
 have hC:=pers_new (V.alloc (.cells #[.int .i64 c0,.int .i64 c1,.int .i64 c2,.int .i64 c3,.bool sn,.slice wA ws.length wc,.int .i64 top,.slice bA bs.length bc,.slice fA fs.length fc,.slice sA ss.length sc] 28)) #[.int .i64 d0,.int .i64 d1,.int .i64 d2,.int .i64 d3,.bool sm,.slice xA xs.length xc,.int .i64 tip,.slice yA ys.length yc,.slice gA gs.length gc,.slice zA zs.length zc] 28 (V.heap.size+1) (by simp)
 have hX:=((Ext.refl V).alloc (.cells #[.int .i64 c0,.int .i64 c1,.int .i64 c2,.int .i64 c3,.bool sn,.slice wA ws.length wc,.int .i64 top,.slice bA bs.length bc,.slice fA fs.length fc,.slice sA ss.length sc] 28)).alloc (.cells #[.int .i64 d0,.int .i64 d1,.int .i64 d2,.int .i64 d3,.bool sm,.slice xA xs.length xc,.int .i64 tip,.slice yA ys.length yc,.slice gA gs.length gc,.slice zA zs.length zc] 28)
 have HX:=zH hX
 (replace HW:=HW.re hX;replace HT:=HT.re hX;replace HF:=HF.re hX;replace HS:=HS.re hX;replace KW:=KW.re hX;replace KT:=KT.re hX;replace KF:=KF.re hX;replace KS:=KS.re hX)
 clear hw ht hf hs kw kt kf ks hX
 by_cases e0:c0=d0
 rotate_left
 ·have HR:Hid (eqvS ⟨c0,c1,c2,c3,sn,wA,ws,wc,top,bA,bs,bc,fA,fs,fc,sA,ss,sc⟩ ⟨d0,d1,d2,d3,sm,xA,xs,xc,tip,yA,ys,yc,gA,gs,gc,zA,zs,zc⟩=false):=zH (by rw [Bool.eq_false_iff];intro h;have:=eqvS_iff.1 h;simp only at this;exact e0 (by first | exact this.1.1 | exact this.1.2.1 | exact this.1.2.2.1 | exact this.1.2.2.2 | exact this.2.1 | exact this.2.2.1 | exact this.2.2.2.1 | exact this.2.2.2.2.1 | exact this.2.2.2.2.2.1 | exact this.2.2.2.2.2.2))
  have q1:(c0==d0)=false:=by rw [beq_eq_false_iff_ne];exact e0
  have q2:(c0 !=d0)=true:=by rw [bne_iff_ne];exact e0
  clear e0
  go_enter Try.func7,Try.ntmps7
  go_wp2_with fail
  generalize (V.alloc (.cells #[.int .i64 c0,.int .i64 c1,.int .i64 c2,.int .i64 c3,.bool sn,.slice wA ws.length wc,.int .i64 top,.slice bA bs.length bc,.slice fA fs.length fc,.slice sA ss.length sc] 28)).alloc (.cells #[.int .i64 d0,.int .i64 d1,.int .i64 d2,.int .i64 d3,.bool sm,.slice xA xs.length xc,.int .i64 tip,.slice yA ys.length yc,.slice gA gs.length gc,.slice zA zs.length zc] 28)=W at*
  generalize V.heap.size=S at*
  have g1:=hB.cells
  have g2:=hC.cells
  ((first | refine at_baseC (W:=W) ?_ | refine at_base (W:=W) ?_);intro uq;(try go_wp2_with fail))
  go_ret
  exact ⟨ret_bool HR.out.symm,HX.out.trans (ExtOf.ext _)⟩
 subst e0
 by_cases e1:c1=d1
 rotate_left
 ·have HR:Hid (eqvS ⟨c0,c1,c2,c3,sn,wA,ws,wc,top,bA,bs,bc,fA,fs,fc,sA,ss,sc⟩ ⟨c0,d1,d2,d3,sm,xA,xs,xc,tip,yA,ys,yc,gA,gs,gc,zA,zs,zc⟩=false):=zH (by rw [Bool.eq_false_iff];intro h;have:=eqvS_iff.1 h;simp only at this;exact e1 (by first | exact this.1.1 | exact this.1.2.1 | exact this.1.2.2.1 | exact this.1.2.2.2 | exact this.2.1 | exact this.2.2.1 | exact this.2.2.2.1 | exact this.2.2.2.2.1 | exact this.2.2.2.2.2.1 | exact this.2.2.2.2.2.2))
  have q1:(c1==d1)=false:=by rw [beq_eq_false_iff_ne];exact e1
  have q2:(c1 !=d1)=true:=by rw [bne_iff_ne];exact e1
  clear e1
  go_enter Try.func7,Try.ntmps7
  go_wp2_with fail
  generalize (V.alloc (.cells #[.int .i64 c0,.int .i64 c1,.int .i64 c2,.int .i64 c3,.bool sn,.slice wA ws.length wc,.int .i64 top,.slice bA bs.length bc,.slice fA fs.length fc,.slice sA ss.length sc] 28)).alloc (.cells #[.int .i64 c0,.int .i64 d1,.int .i64 d2,.int .i64 d3,.bool sm,.slice xA xs.length xc,.int .i64 tip,.slice yA ys.length yc,.slice gA gs.length gc,.slice zA zs.length zc] 28)=W at*
  generalize V.heap.size=S at*
  have g1:=hB.cells
  have g2:=hC.cells
  ((first | refine at_baseC (W:=W) ?_ | refine at_base (W:=W) ?_);intro uq;(try go_wp2_with fail))
  go_ret
  exact ⟨ret_bool HR.out.symm,HX.out.trans (ExtOf.ext _)⟩
 subst e1
 by_cases e2:c2=d2
 rotate_left
 ·have HR:Hid (eqvS ⟨c0,c1,c2,c3,sn,wA,ws,wc,top,bA,bs,bc,fA,fs,fc,sA,ss,sc⟩ ⟨c0,c1,d2,d3,sm,xA,xs,xc,tip,yA,ys,yc,gA,gs,gc,zA,zs,zc⟩=false):=zH (by rw [Bool.eq_false_iff];intro h;have:=eqvS_iff.1 h;simp only at this;exact e2 (by first | exact this.1.1 | exact this.1.2.1 | exact this.1.2.2.1 | exact this.1.2.2.2 | exact this.2.1 | exact this.2.2.1 | exact this.2.2.2.1 | exact this.2.2.2.2.1 | exact this.2.2.2.2.2.1 | exact this.2.2.2.2.2.2))
  have q1:(c2==d2)=false:=by rw [beq_eq_false_iff_ne];exact e2
  have q2:(c2 !=d2)=true:=by rw [bne_iff_ne];exact e2
  clear e2
  go_enter Try.func7,Try.ntmps7
  go_wp2_with fail
  generalize (V.alloc (.cells #[.int .i64 c0,.int .i64 c1,.int .i64 c2,.int .i64 c3,.bool sn,.slice wA ws.length wc,.int .i64 top,.slice bA bs.length bc,.slice fA fs.length fc,.slice sA ss.length sc] 28)).alloc (.cells #[.int .i64 c0,.int .i64 c1,.int .i64 d2,.int .i64 d3,.bool sm,.slice xA xs.length xc,.int .i64 tip,.slice yA ys.length yc,.slice gA gs.length gc,.slice zA zs.length zc] 28)=W at*
  generalize V.heap.size=S at*
  have g1:=hB.cells
  have g2:=hC.cells
  ((first | refine at_baseC (W:=W) ?_ | refine at_base (W:=W) ?_);intro uq;(try go_wp2_with fail))
  go_ret
  exact ⟨ret_bool HR.out.symm,HX.out.trans (ExtOf.ext _)⟩
 subst e2
 by_cases e3:c3=d3
 rotate_left
 ·have HR:Hid (eqvS ⟨c0,c1,c2,c3,sn,wA,ws,wc,top,bA,bs,bc,fA,fs,fc,sA,ss,sc⟩ ⟨c0,c1,c2,d3,sm,xA,xs,xc,tip,yA,ys,yc,gA,gs,gc,zA,zs,zc⟩=false):=zH (by rw [Bool.eq_false_iff];intro h;have:=eqvS_iff.1 h;simp only at this;exact e3 (by first | exact this.1.1 | exact this.1.2.1 | exact this.1.2.2.1 | exact this.1.2.2.2 | exact this.2.1 | exact this.2.2.1 | exact this.2.2.2.1 | exact this.2.2.2.2.1 | exact this.2.2.2.2.2.1 | exact this.2.2.2.2.2.2))
  have q1:(c3==d3)=false:=by rw [beq_eq_false_iff_ne];exact e3
  have q2:(c3 !=d3)=true:=by rw [bne_iff_ne];exact e3
  clear e3
  go_enter Try.func7,Try.ntmps7
  go_wp2_with fail
  generalize (V.alloc (.cells #[.int .i64 c0,.int .i64 c1,.int .i64 c2,.int .i64 c3,.bool sn,.slice wA ws.length wc,.int .i64 top,.slice bA bs.length bc,.slice fA fs.length fc,.slice sA ss.length sc] 28)).alloc (.cells #[.int .i64 c0,.int .i64 c1,.int .i64 c2,.int .i64 d3,.bool sm,.slice xA xs.length xc,.int .i64 tip,.slice yA ys.length yc,.slice gA gs.length gc,.slice zA zs.length zc] 28)=W at*
  generalize V.heap.size=S at*
  have g1:=hB.cells
  have g2:=hC.cells
  ((first | refine at_baseC (W:=W) ?_ | refine at_base (W:=W) ?_);intro uq;(try go_wp2_with fail))
  go_ret
  exact ⟨ret_bool HR.out.symm,HX.out.trans (ExtOf.ext _)⟩
 subst e3
 by_cases e4:sn=sm
 rotate_left
 ·have HR:Hid (eqvS ⟨c0,c1,c2,c3,sn,wA,ws,wc,top,bA,bs,bc,fA,fs,fc,sA,ss,sc⟩ ⟨c0,c1,c2,c3,sm,xA,xs,xc,tip,yA,ys,yc,gA,gs,gc,zA,zs,zc⟩=false):=zH (by rw [Bool.eq_false_iff];intro h;have:=eqvS_iff.1 h;simp only at this;exact e4 (by first | exact this.1.1 | exact this.1.2.1 | exact this.1.2.2.1 | exact this.1.2.2.2 | exact this.2.1 | exact this.2.2.1 | exact this.2.2.2.1 | exact this.2.2.2.2.1 | exact this.2.2.2.2.2.1 | exact this.2.2.2.2.2.2))
  have q1:(sn==sm)=false:=by rw [beq_eq_false_iff_ne];exact e4
  have q2:(sn !=sm)=true:=by rw [bne_iff_ne];exact e4
  clear e4
  go_enter Try.func7,Try.ntmps7
  go_wp2_with fail
  generalize (V.alloc (.cells #[.int .i64 c0,.int .i64 c1,.int .i64 c2,.int .i64 c3,.bool sn,.slice wA ws.length wc,.int .i64 top,.slice bA bs.length bc,.slice fA fs.length fc,.slice sA ss.length sc] 28)).alloc (.cells #[.int .i64 c0,.int .i64 c1,.int .i64 c2,.int .i64 c3,.bool sm,.slice xA xs.length xc,.int .i64 tip,.slice yA ys.length yc,.slice gA gs.length gc,.slice zA zs.length zc] 28)=W at*
  generalize V.heap.size=S at*
  have g1:=hB.cells
  have g2:=hC.cells
  ((first | refine at_baseC (W:=W) ?_ | refine at_base (W:=W) ?_);intro uq;(try go_wp2_with fail))
  go_ret
  exact ⟨ret_bool HR.out.symm,HX.out.trans (ExtOf.ext _)⟩
 subst e4
 by_cases e5:top=tip
 rotate_left
 ·have HR:Hid (eqvS ⟨c0,c1,c2,c3,sn,wA,ws,wc,top,bA,bs,bc,fA,fs,fc,sA,ss,sc⟩ ⟨c0,c1,c2,c3,sn,xA,xs,xc,tip,yA,ys,yc,gA,gs,gc,zA,zs,zc⟩=false):=zH (by rw [Bool.eq_false_iff];intro h;have:=eqvS_iff.1 h;simp only at this;exact e5 (by first | exact this.1.1 | exact this.1.2.1 | exact this.1.2.2.1 | exact this.1.2.2.2 | exact this.2.1 | exact this.2.2.1 | exact this.2.2.2.1 | exact this.2.2.2.2.1 | exact this.2.2.2.2.2.1 | exact this.2.2.2.2.2.2))
  have q1:(top==tip)=false:=by rw [beq_eq_false_iff_ne];exact e5
  have q2:(top !=tip)=true:=by rw [bne_iff_ne];exact e5
  clear e5
  go_enter Try.func7,Try.ntmps7
  go_wp2_with fail
  generalize (V.alloc (.cells #[.int .i64 c0,.int .i64 c1,.int .i64 c2,.int .i64 c3,.bool sn,.slice wA ws.length wc,.int .i64 top,.slice bA bs.length bc,.slice fA fs.length fc,.slice sA ss.length sc] 28)).alloc (.cells #[.int .i64 c0,.int .i64 c1,.int .i64 c2,.int .i64 c3,.bool sn,.slice xA xs.length xc,.int .i64 tip,.slice yA ys.length yc,.slice gA gs.length gc,.slice zA zs.length zc] 28)=W at*
  generalize V.heap.size=S at*
  have g1:=hB.cells
  have g2:=hC.cells
  ((first | refine at_baseC (W:=W) ?_ | refine at_base (W:=W) ?_);intro uq;(try go_wp2_with fail))
  go_ret
  exact ⟨ret_bool HR.out.symm,HX.out.trans (ExtOf.ext _)⟩
 subst e5
 by_cases e6:ws=xs
 rotate_left
 ·have HR:Hid (eqvS ⟨c0,c1,c2,c3,sn,wA,ws,wc,top,bA,bs,bc,fA,fs,fc,sA,ss,sc⟩ ⟨c0,c1,c2,c3,sn,xA,xs,xc,top,yA,ys,yc,gA,gs,gc,zA,zs,zc⟩=false):=zH (by rw [Bool.eq_false_iff];intro h;have:=eqvS_iff.1 h;simp only at this;exact e6 (by first | exact this.1.1 | exact this.1.2.1 | exact this.1.2.2.1 | exact this.1.2.2.2 | exact this.2.1 | exact this.2.2.1 | exact this.2.2.2.1 | exact this.2.2.2.2.1 | exact this.2.2.2.2.2.1 | exact this.2.2.2.2.2.2))
  have HB1:Hid (decide (ws=xs)=false):=zH (by simpa using e6)
  clear e6
  go_enter Try.func7,Try.ntmps7
  go_wp2_with fail
  generalize (V.alloc (.cells #[.int .i64 c0,.int .i64 c1,.int .i64 c2,.int .i64 c3,.bool sn,.slice wA ws.length wc,.int .i64 top,.slice bA bs.length bc,.slice fA fs.length fc,.slice sA ss.length sc] 28)).alloc (.cells #[.int .i64 c0,.int .i64 c1,.int .i64 c2,.int .i64 c3,.bool sn,.slice xA xs.length xc,.int .i64 top,.slice yA ys.length yc,.slice gA gs.length gc,.slice zA zs.length zc] 28)=W at*
  generalize V.heap.size=S at*
  have g1:=hB.cells
  have g2:=hC.cells
  ((first | refine at_baseC (W:=W) ?_ | refine at_base (W:=W) ?_);intro uq;(try go_wp2_with fail))
  (refine (refsameU_is wA xA wc xc ws xs false HB1.out _ (by omega) (by omega) (HW.at zE) (KW.at zE)).mono ?_;rintro e wq ⟨rfl,hx⟩;replace hx:=Ext.trans (a:=W) zE hx;obtain ⟨uq,rfl⟩:∃u:ExtOf W,wq=u.1:=⟨⟨wq,hx⟩,rfl⟩;clear hx;go_wp2_with fail)
  go_ret
  exact ⟨ret_bool HR.out.symm,HX.out.trans (ExtOf.ext _)⟩
 subst e6
 by_cases e7:bs=ys
 rotate_left
 ·have HR:Hid (eqvS ⟨c0,c1,c2,c3,sn,wA,ws,wc,top,bA,bs,bc,fA,fs,fc,sA,ss,sc⟩ ⟨c0,c1,c2,c3,sn,xA,ws,xc,top,yA,ys,yc,gA,gs,gc,zA,zs,zc⟩=false):=zH (by rw [Bool.eq_false_iff];intro h;have:=eqvS_iff.1 h;simp only at this;exact e7 (by first | exact this.1.1 | exact this.1.2.1 | exact this.1.2.2.1 | exact this.1.2.2.2 | exact this.2.1 | exact this.2.2.1 | exact this.2.2.2.1 | exact this.2.2.2.2.1 | exact this.2.2.2.2.2.1 | exact this.2.2.2.2.2.2))
  have HB2:Hid (decide (bs=ys)=false):=zH (by simpa using e7)
  clear e7
  go_enter Try.func7,Try.ntmps7
  go_wp2_with fail
  generalize (V.alloc (.cells #[.int .i64 c0,.int .i64 c1,.int .i64 c2,.int .i64 c3,.bool sn,.slice wA ws.length wc,.int .i64 top,.slice bA bs.length bc,.slice fA fs.length fc,.slice sA ss.length sc] 28)).alloc (.cells #[.int .i64 c0,.int .i64 c1,.int .i64 c2,.int .i64 c3,.bool sn,.slice xA ws.length xc,.int .i64 top,.slice yA ys.length yc,.slice gA gs.length gc,.slice zA zs.length zc] 28)=W at*
  generalize V.heap.size=S at*
  have g1:=hB.cells
  have g2:=hC.cells
  ((first | refine at_baseC (W:=W) ?_ | refine at_base (W:=W) ?_);intro uq;(try go_wp2_with fail))
  (refine (refsameU_is wA xA wc xc ws ws true (by simp) _ (by omega) (by omega) (HW.at zE) (KW.at zE)).mono ?_;rintro e wq ⟨rfl,hx⟩;replace hx:=Ext.trans (a:=W) zE hx;obtain ⟨uq,rfl⟩:∃u:ExtOf W,wq=u.1:=⟨⟨wq,hx⟩,rfl⟩;clear hx;go_wp2_with fail)
  (refine (refsame_is bA yA bc yc bs ys _ _ false _ rfl rfl HB2.out (by omega) (by omega) (HT.at zE) (KT.at zE)).mono ?_;rintro e wq ⟨rfl,hx⟩;replace hx:=Ext.trans (a:=W) zE hx;obtain ⟨uq,rfl⟩:∃u:ExtOf W,wq=u.1:=⟨⟨wq,hx⟩,rfl⟩;clear hx;go_wp2_with fail)
  go_ret
  exact ⟨ret_bool HR.out.symm,HX.out.trans (ExtOf.ext _)⟩
 subst e7
 by_cases e8:fs=gs
 rotate_left
 ·have HR:Hid (eqvS ⟨c0,c1,c2,c3,sn,wA,ws,wc,top,bA,bs,bc,fA,fs,fc,sA,ss,sc⟩ ⟨c0,c1,c2,c3,sn,xA,ws,xc,top,yA,bs,yc,gA,gs,gc,zA,zs,zc⟩=false):=zH (by rw [Bool.eq_false_iff];intro h;have:=eqvS_iff.1 h;simp only at this;exact e8 (by first | exact this.1.1 | exact this.1.2.1 | exact this.1.2.2.1 | exact this.1.2.2.2 | exact this.2.1 | exact this.2.2.1 | exact this.2.2.2.1 | exact this.2.2.2.2.1 | exact this.2.2.2.2.2.1 | exact this.2.2.2.2.2.2))
  have HB3:Hid (decide (fs=gs)=false):=zH (by simpa using e8)
  clear e8
  go_enter Try.func7,Try.ntmps7
  go_wp2_with fail
  generalize (V.alloc (.cells #[.int .i64 c0,.int .i64 c1,.int .i64 c2,.int .i64 c3,.bool sn,.slice wA ws.length wc,.int .i64 top,.slice bA bs.length bc,.slice fA fs.length fc,.slice sA ss.length sc] 28)).alloc (.cells #[.int .i64 c0,.int .i64 c1,.int .i64 c2,.int .i64 c3,.bool sn,.slice xA ws.length xc,.int .i64 top,.slice yA bs.length yc,.slice gA gs.length gc,.slice zA zs.length zc] 28)=W at*
  generalize V.heap.size=S at*
  have g1:=hB.cells
  have g2:=hC.cells
  ((first | refine at_baseC (W:=W) ?_ | refine at_base (W:=W) ?_);intro uq;(try go_wp2_with fail))
  (refine (refsameU_is wA xA wc xc ws ws true (by simp) _ (by omega) (by omega) (HW.at zE) (KW.at zE)).mono ?_;rintro e wq ⟨rfl,hx⟩;replace hx:=Ext.trans (a:=W) zE hx;obtain ⟨uq,rfl⟩:∃u:ExtOf W,wq=u.1:=⟨⟨wq,hx⟩,rfl⟩;clear hx;go_wp2_with fail)
  (refine (refsame_is bA yA bc yc bs bs _ _ true _ rfl rfl (by simp) (by omega) (by omega) (HT.at zE) (KT.at zE)).mono ?_;rintro e wq ⟨rfl,hx⟩;replace hx:=Ext.trans (a:=W) zE hx;obtain ⟨uq,rfl⟩:∃u:ExtOf W,wq=u.1:=⟨⟨wq,hx⟩,rfl⟩;clear hx;go_wp2_with fail)
  (refine (refsame_is fA gA fc gc fs gs _ _ false _ rfl rfl HB3.out (by omega) (by omega) (HF.at zE) (KF.at zE)).mono ?_;rintro e wq ⟨rfl,hx⟩;replace hx:=Ext.trans (a:=W) zE hx;obtain ⟨uq,rfl⟩:∃u:ExtOf W,wq=u.1:=⟨⟨wq,hx⟩,rfl⟩;clear hx;go_wp2_with fail)
  go_ret
  exact ⟨ret_bool HR.out.symm,HX.out.trans (ExtOf.ext _)⟩
 subst e8
 by_cases e9:ss=zs
 rotate_left
 ·have HR:Hid (eqvS ⟨c0,c1,c2,c3,sn,wA,ws,wc,top,bA,bs,bc,fA,fs,fc,sA,ss,sc⟩ ⟨c0,c1,c2,c3,sn,xA,ws,xc,top,yA,bs,yc,gA,fs,gc,zA,zs,zc⟩=false):=zH (by rw [Bool.eq_false_iff];intro h;have:=eqvS_iff.1 h;simp only at this;exact e9 (by first | exact this.1.1 | exact this.1.2.1 | exact this.1.2.2.1 | exact this.1.2.2.2 | exact this.2.1 | exact this.2.2.1 | exact this.2.2.2.1 | exact this.2.2.2.2.1 | exact this.2.2.2.2.2.1 | exact this.2.2.2.2.2.2))
  have HB4:Hid (decide (ss=zs)=false):=zH (by simpa using e9)
  clear e9
  go_enter Try.func7,Try.ntmps7
  go_wp2_with fail
  generalize (V.alloc (.cells #[.int .i64 c0,.int .i64 c1,.int .i64 c2,.int .i64 c3,.bool sn,.slice wA ws.length wc,.int .i64 top,.slice bA bs.length bc,.slice fA fs.length fc,.slice sA ss.length sc] 28)).alloc (.cells #[.int .i64 c0,.int .i64 c1,.int .i64 c2,.int .i64 c3,.bool sn,.slice xA ws.length xc,.int .i64 top,.slice yA bs.length yc,.slice gA fs.length gc,.slice zA zs.length zc] 28)=W at*
  generalize V.heap.size=S at*
  have g1:=hB.cells
  have g2:=hC.cells
  ((first | refine at_baseC (W:=W) ?_ | refine at_base (W:=W) ?_);intro uq;(try go_wp2_with fail))
  (refine (refsameU_is wA xA wc xc ws ws true (by simp) _ (by omega) (by omega) (HW.at zE) (KW.at zE)).mono ?_;rintro e wq ⟨rfl,hx⟩;replace hx:=Ext.trans (a:=W) zE hx;obtain ⟨uq,rfl⟩:∃u:ExtOf W,wq=u.1:=⟨⟨wq,hx⟩,rfl⟩;clear hx;go_wp2_with fail)
  (refine (refsame_is bA yA bc yc bs bs _ _ true _ rfl rfl (by simp) (by omega) (by omega) (HT.at zE) (KT.at zE)).mono ?_;rintro e wq ⟨rfl,hx⟩;replace hx:=Ext.trans (a:=W) zE hx;obtain ⟨uq,rfl⟩:∃u:ExtOf W,wq=u.1:=⟨⟨wq,hx⟩,rfl⟩;clear hx;go_wp2_with fail)
  (refine (refsame_is fA gA fc gc fs fs _ _ true _ rfl rfl (by simp) (by omega) (by omega) (HF.at zE) (KF.at zE)).mono ?_;rintro e wq ⟨rfl,hx⟩;replace hx:=Ext.trans (a:=W) zE hx;obtain ⟨uq,rfl⟩:∃u:ExtOf W,wq=u.1:=⟨⟨wq,hx⟩,rfl⟩;clear hx;go_wp2_with fail)
  (refine (refsameSl_is sA zA sc zc ss zs false HB4.out _ (by omega) (by omega) (HS.at zE) (KS.at zE)).mono ?_;rintro e wq ⟨rfl,hx⟩;replace hx:=Ext.trans (a:=W) zE hx;obtain ⟨uq,rfl⟩:∃u:ExtOf W,wq=u.1:=⟨⟨wq,hx⟩,rfl⟩;clear hx;go_wp2_with fail)
  go_ret
  exact ⟨ret_bool HR.out.symm,HX.out.trans (ExtOf.ext _)⟩
 subst e9
 have HR:Hid (eqvS ⟨c0,c1,c2,c3,sn,wA,ws,wc,top,bA,bs,bc,fA,fs,fc,sA,ss,sc⟩ ⟨c0,c1,c2,c3,sn,xA,ws,xc,top,yA,bs,yc,gA,fs,gc,zA,ss,zc⟩=true):=zH (by simp [eqvS])
 go_enter Try.func7,Try.ntmps7
 go_wp2_with fail
 generalize (V.alloc (.cells #[.int .i64 c0,.int .i64 c1,.int .i64 c2,.int .i64 c3,.bool sn,.slice wA ws.length wc,.int .i64 top,.slice bA bs.length bc,.slice fA fs.length fc,.slice sA ss.length sc] 28)).alloc (.cells #[.int .i64 c0,.int .i64 c1,.int .i64 c2,.int .i64 c3,.bool sn,.slice xA ws.length xc,.int .i64 top,.slice yA bs.length yc,.slice gA fs.length gc,.slice zA ss.length zc] 28)=W at*
 generalize V.heap.size=S at*
 have g1:=hB.cells
 have g2:=hC.cells
 ((first | refine at_baseC (W:=W) ?_ | refine at_base (W:=W) ?_);intro uq;(try go_wp2_with fail))
 (refine (refsameU_is wA xA wc xc ws ws true (by simp) _ (by omega) (by omega) (HW.at zE) (KW.at zE)).mono ?_;rintro e wq ⟨rfl,hx⟩;replace hx:=Ext.trans (a:=W) zE hx;obtain ⟨uq,rfl⟩:∃u:ExtOf W,wq=u.1:=⟨⟨wq,hx⟩,rfl⟩;clear hx;go_wp2_with fail)
 (refine (refsame_is bA yA bc yc bs bs _ _ true _ rfl rfl (by simp) (by omega) (by omega) (HT.at zE) (KT.at zE)).mono ?_;rintro e wq ⟨rfl,hx⟩;replace hx:=Ext.trans (a:=W) zE hx;obtain ⟨uq,rfl⟩:∃u:ExtOf W,wq=u.1:=⟨⟨wq,hx⟩,rfl⟩;clear hx;go_wp2_with fail)
 (refine (refsame_is fA gA fc gc fs fs _ _ true _ rfl rfl (by simp) (by omega) (by omega) (HF.at zE) (KF.at zE)).mono ?_;rintro e wq ⟨rfl,hx⟩;replace hx:=Ext.trans (a:=W) zE hx;obtain ⟨uq,rfl⟩:∃u:ExtOf W,wq=u.1:=⟨⟨wq,hx⟩,rfl⟩;clear hx;go_wp2_with fail)
 (refine (refsameSl_is sA zA sc zc ss ss true (by simp) _ (by omega) (by omega) (HS.at zE) (KS.at zE)).mono ?_;rintro e wq ⟨rfl,hx⟩;replace hx:=Ext.trans (a:=W) zE hx;obtain ⟨uq,rfl⟩:∃u:ExtOf W,wq=u.1:=⟨⟨wq,hx⟩,rfl⟩;clear hx;go_wp2_with fail)
 go_ret
 exact ⟨ret_bool HR.out.symm,HX.out.trans (ExtOf.ext _)⟩
end Go.Proofs.Ytemmjmplhknemaa
