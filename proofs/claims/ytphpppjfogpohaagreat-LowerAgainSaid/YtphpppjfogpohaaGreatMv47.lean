/- Merged by program (merge.py) out of: LsK. -/
import Derived.Test.YtphpppjfogpohaaGreatMv30
import Derived.Test.YtphpppjfogpohaaGreatMv21
import Derived.Test.YtphpppjfogpohaaGreatMv41
import Derived.Test.YtphpppjfogpohaaGreatMv1
import Derived.Test.YtphpppjfogpohaaGreatMv4
import Derived.Test.YtphpppjfogpohaaGreatMv29
import Derived.Test.YtphpppjfogpohaaGreatMv20
import Derived.Test.YtphpppjfogpohaaGreatMv26
import Derived.Test.YtphpppjfogpohaaGreatMv14
set_option linter.unusedSimpArgs false
set_option linter.unusedVariables false
set_option maxRecDepth 100000
set_option maxHeartbeats 16000000
namespace Go.Proofs.YtphpppjfogpohaaGreat
open Go.RowKit Go.Shelf
section
variable {c0 c1 c2 c3 : Int} {sn : Bool} {wA : Option Addr} {ws : List Int} {wc : Nat} {top : Int} {tA : Option Addr} {tb : List (Int × Int)} {tc : Nat} {fA : Option Addr} {fr : List (Int × Int)} {fc : Nat} {sA : Option Addr} {sl : List (Bool × Int × Int)} {sc : Nat}
end
def ObjOf (s:StD) (zs:List Int) (er:Int):Prop:=(checkZ s.c0 s.c1 s.c2 s.c3 s.snd s.ws s.top s.tb s.fr s.sl=0∧zs=smallsL s.c0 s.c1 s.c2 s.c3 s.snd s.ws s.top++s.tb.map (·.1)∧er=0)∨(checkZ s.c0 s.c1 s.c2 s.c3 s.snd s.ws s.top s.tb s.fr s.sl≠0∧zs= []∧er=4)
theorem stobj_u (s:StD) (zs:List Int) (n:Nat) (er:Int) (ho:ObjOf s zs er) (hn:zs.length=n) (V:World) (h:StAt V s) (hl:StLe s) (hb:StB s):
  Calls Tryz.prog 57 #[.agg #[.int .i64 s.c0,.int .i64 s.c1,.int .i64 s.c2,.int .i64 s.c3,.bool s.snd,.slice s.wA s.ws.length s.wc,.int .i64 s.top,.slice s.tA s.tb.length s.tc,.slice s.fA s.fr.length s.fc,.slice s.sA s.sl.length s.sc]] V fun e w'=>∃A cap,e= .returned (.tuple #[.slice A n cap,.int .i64 er])∧IntsAt w' A zs∧Ext V w':=by
 subst hn
 refine (stobjects_any V (pers_row h.w) (pers_row h.t) (pers_row h.f) (pers_row h.s) hl.w hl.t hl.f hl.s hb.wb hb.tbb hb.sb).mono ?_
 rintro e w' (⟨h0,he,hx⟩ | ⟨h0,A,cap,he,hw,hx⟩)
 ·rcases ho with ⟨h1, -, -⟩ | ⟨-,rfl,rfl⟩
  ·exact absurd h1 h0
  ·exact ⟨none,0,he,RowAt.none _ _ _,hx⟩
 ·rcases ho with ⟨-,rfl,rfl⟩ | ⟨h1, -, -⟩
  ·exact ⟨A,cap,he,(own_row hw intCells (by decide)).1,hx⟩
  ·exact absurd h0 h1
end Go.Proofs.YtphpppjfogpohaaGreat
