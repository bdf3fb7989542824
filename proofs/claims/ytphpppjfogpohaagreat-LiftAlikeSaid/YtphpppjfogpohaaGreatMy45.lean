/- Merged by program (merge.py) out of: LsK. -/
import Derived.Test.YtphpppjfogpohaaGreatMy0
import Derived.Test.YtphpppjfogpohaaGreatMy43
import Derived.Test.YtphpppjfogpohaaGreatMy30
import Derived.Test.YtphpppjfogpohaaGreatMy44
set_option linter.unusedSimpArgs false
set_option linter.unusedVariables false
set_option maxRecDepth 100000
set_option maxHeartbeats 16000000
namespace Go.Proofs.YtphpppjfogpohaaGreat
open Go.RowKit Go.Shelf
section
variable {c0 c1 c2 c3 : Int} {sn : Bool} {wA : Option Addr} {ws : List Int} {wc : Nat} {top : Int} {tA : Option Addr} {tb : List (Int × Int)} {tc : Nat} {fA : Option Addr} {fr : List (Int × Int)} {fc : Nat} {sA : Option Addr} {sl : List (Bool × Int × Int)} {sc : Nat}
end
theorem jD (s:StD) (k:Int) (hk:checkZ s.c0 s.c1 s.c2 s.c3 s.snd s.ws s.top s.tb s.fr s.sl=k) (V:World) (h:StAt V s) (hl:StLe s) (hb:StB s) (hn:s.tA=none→s.tc=0):Calls Tryz.prog 70 #[.agg #[.int .i64 s.c0,.int .i64 s.c1,.int .i64 s.c2,.int .i64 s.c3,.bool s.snd,.slice s.wA s.ws.length s.wc,.int .i64 s.top,.slice s.tA s.tb.length s.tc,.slice s.fA s.fr.length s.fc,.slice s.sA s.sl.length s.sc]] V fun e w'=>e= .returned (.int .i64 k)∧Ext V w':=by
 subst hk
 exact mI V (an h.w) (an h.t) (an h.f) (an h.s) hl.w hl.t hl.f hl.s hb.wb hb.tbb hb.sb hn
def nT (s:StD) (zs:List Int) (er:Int):Prop:=(checkZ s.c0 s.c1 s.c2 s.c3 s.snd s.ws s.top s.tb s.fr s.sl=0∧zs=smallsL s.c0 s.c1 s.c2 s.c3 s.snd s.ws s.top++s.tb.map (·.1)∧er=0)∨(checkZ s.c0 s.c1 s.c2 s.c3 s.snd s.ws s.top s.tb s.fr s.sl≠0∧zs= []∧er=4)
theorem tU (s:StD) (zs:List Int) (n:Nat) (er:Int) (ho:nT s zs er) (hn:zs.length=n) (V:World) (h:StAt V s) (hl:StLe s) (hb:StB s):
  Calls Tryz.prog 57 #[.agg #[.int .i64 s.c0,.int .i64 s.c1,.int .i64 s.c2,.int .i64 s.c3,.bool s.snd,.slice s.wA s.ws.length s.wc,.int .i64 s.top,.slice s.tA s.tb.length s.tc,.slice s.fA s.fr.length s.fc,.slice s.sA s.sl.length s.sc]] V fun e w'=>∃A cap,e= .returned (.tuple #[.slice A n cap,.int .i64 er])∧IntsAt w' A zs∧Ext V w':=by
 subst hn
 refine (mY V (an h.w) (an h.t) (an h.f) (an h.s) hl.w hl.t hl.f hl.s hb.wb hb.tbb hb.sb).mono ?_
 rintro e w' (⟨h0,he,hx⟩ | ⟨h0,A,cap,he,hw,hx⟩)
 ·rcases ho with ⟨h1, -, -⟩ | ⟨-,rfl,rfl⟩
  ·exact absurd h1 h0
  ·exact ⟨none,0,he,AI _ _ _,hx⟩
 ·rcases ho with ⟨-,rfl,rfl⟩ | ⟨h1, -, -⟩
  ·exact ⟨A,cap,he,(ag hw aP dM).1,hx⟩
  ·exact absurd h0 h1
theorem qr (s:StD) (zs:List Int) (n:Nat) (er:Int) (ho:nT s zs er) (hn:zs.length=n) (V:World) (h:StAt V s) (hl:StLe s) (hb:StB s) (htn:s.tA=none→s.tc=0):
  Calls Tryz.prog 67 #[.agg #[.int .i64 s.c0,.int .i64 s.c1,.int .i64 s.c2,.int .i64 s.c3,.bool s.snd,.slice s.wA s.ws.length s.wc,.int .i64 s.top,.slice s.tA s.tb.length s.tc,.slice s.fA s.fr.length s.fc,.slice s.sA s.sl.length s.sc]] V fun e w'=>∃A cap,e= .returned (.tuple #[.slice A n cap,.int .i64 er])∧IntsAt w' A zs∧Ext V w':=by
 have hB:=aF V #[.int .i64 s.c0,.int .i64 s.c1,.int .i64 s.c2,.int .i64 s.c3,.bool s.snd,.slice s.wA s.ws.length s.wc,.int .i64 s.top,.slice s.tA s.tb.length s.tc,.slice s.fA s.fr.length s.fc,.slice s.sA s.sl.length s.sc] 34 _ rfl
 have hx0:=(zo V).alloc (.cells #[.int .i64 s.c0,.int .i64 s.c1,.int .i64 s.c2,.int .i64 s.c3,.bool s.snd,.slice s.wA s.ws.length s.wc,.int .i64 s.top,.slice s.tA s.tb.length s.tc,.slice s.fA s.fr.length s.fc,.slice s.sA s.sl.length s.sc] 34)
 have H0:=h.pers.re hx0
 have HX:=zH hx0
 have HL:=zH hl
 have HBB:=zH hb
 have HNN:=zH hn
 have HTN:=zH htn
 clear hx0 h hl hb hn htn
 rcases ho with ⟨h0,hz,rfl⟩ | ⟨h0,rfl,rfl⟩
 ·have HK:=zH h0
  have HZ:=zH hz
  clear h0 hz
  go_enter Tryz.func67,Tryz.ntmps67
  go_wp2_with fail
  generalize V.alloc (.cells #[.int .i64 s.c0,.int .i64 s.c1,.int .i64 s.c2,.int .i64 s.c3,.bool s.snd,.slice s.wA s.ws.length s.wc,.int .i64 s.top,.slice s.tA s.tb.length s.tc,.slice s.fA s.fr.length s.fc,.slice s.sA s.sl.length s.sc] 34)=W at*
  generalize V.heap.size=S at*
  have gB:=hB.cells
  ((first | refine aK (W:=W) ?_ | refine aT (W:=W) ?_);intro uq;(try go_wp2_with fail))
  (refine (jD s 0 HK.out _ (H0.at zE) HL.out HBB.out HTN.out).mono ?_;rintro e wq ⟨rfl,hx⟩;replace hx:=zt (a:=W) zE hx;obtain ⟨uq,rfl⟩:∃u:ExtOf W,wq=u.1:=⟨⟨wq,hx⟩,rfl⟩;clear hx;go_wp2_with fail)
  refine (jA (sc:=s.sc) uq.1 (an (H0.at uq.2).w) (an (H0.at uq.2).t) (an (H0.at uq.2).f) (an (H0.at uq.2).s) HL.out.w HL.out.t HL.out.f HL.out.s HBB.out.wb HBB.out.tbb HBB.out.sb HTN.out).mono ?_
  rintro e w2 ⟨A,cap,rfl,hw,hx⟩
  have HR:=zH (show IntsAt w2 A zs by rw [HZ.out];exact (ag hw aP dM).1)
  have HX2:=zH (HX.out.trans (uq.2.trans hx))
  rw [←HZ.out,HNN.out]
  clear hw hx
  go_wp2_with fail
  go_ret2
  exact ⟨A,cap,rfl,HR.out,HX2.out⟩
 ·obtain ⟨k,hk⟩:∃k,checkZ s.c0 s.c1 s.c2 s.c3 s.snd s.ws s.top s.tb s.fr s.sl=k:=⟨_,rfl⟩
  have HK:=zH hk
  have q0:(k !=0)=true:=by rw [bne_iff_ne,←hk];exact h0
  obtain rfl:n=0:=by have:=HNN.out;simpa using this.symm
  clear h0 hk
  go_enter Tryz.func67,Tryz.ntmps67
  go_wp2_with fail
  generalize V.alloc (.cells #[.int .i64 s.c0,.int .i64 s.c1,.int .i64 s.c2,.int .i64 s.c3,.bool s.snd,.slice s.wA s.ws.length s.wc,.int .i64 s.top,.slice s.tA s.tb.length s.tc,.slice s.fA s.fr.length s.fc,.slice s.sA s.sl.length s.sc] 34)=W at*
  generalize V.heap.size=S at*
  have gB:=hB.cells
  ((first | refine aK (W:=W) ?_ | refine aT (W:=W) ?_);intro uq;(try go_wp2_with fail))
  (refine (jD s k HK.out _ (H0.at zE) HL.out HBB.out HTN.out).mono ?_;rintro e wq ⟨rfl,hx⟩;replace hx:=zt (a:=W) zE hx;obtain ⟨uq,rfl⟩:∃u:ExtOf W,wq=u.1:=⟨⟨wq,hx⟩,rfl⟩;clear hx;go_wp2_with fail)
  go_ret2
  exact ⟨none,0,rfl,AI _ _ _,HX.out.trans (zu _)⟩
theorem qt (s:StD) (b:Bool) (hb:bigB s.ws.length s.tb.length s.fr.length s.sl.length=b) (V:World) (h:StOk s):Calls Tryz.prog 22 #[.agg #[.int .i64 s.c0,.int .i64 s.c1,.int .i64 s.c2,.int .i64 s.c3,.bool s.snd,.slice s.wA s.ws.length s.wc,.int .i64 s.top,.slice s.tA s.tb.length s.tc,.slice s.fA s.fr.length s.fc,.slice s.sA s.sl.length s.sc]] V fun e w'=>e= .returned (.bool b)∧Ext V w':=by
 subst hb
 exact qW V h.lw h.lt h.lf h.ls
theorem StOk.bK {s:StD} (h:StOk s):StB s:=⟨h.wb,fun x hx=>(h.tbb x hx).1,fun x hx=>(h.sb x hx).2⟩
end Go.Proofs.YtphpppjfogpohaaGreat
