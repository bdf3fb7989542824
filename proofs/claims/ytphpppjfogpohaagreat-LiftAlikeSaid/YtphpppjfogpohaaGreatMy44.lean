/- Merged by program (merge.py) out of: OpenT. -/
import Derived.Test.YtphpppjfogpohaaGreatMy0
import Derived.Test.YtphpppjfogpohaaGreatMy25
import Derived.Test.YtphpppjfogpohaaGreatMy7
import Derived.Test.YtphpppjfogpohaaGreatMy14
set_option linter.unusedSimpArgs false
set_option linter.unusedVariables false
set_option maxRecDepth 100000
set_option maxHeartbeats 16000000
namespace Go.Proofs.YtphpppjfogpohaaGreat
open Go.RowKit
structure StOk (s:StD):Prop where
 lw:s.ws.length≤9223372036854775807
 lt:s.tb.length≤9223372036854775807
 lf:s.fr.length≤9223372036854775807
 ls:s.sl.length≤9223372036854775807
 wb:∀z∈s.ws,0≤z∧z < 18446744073709551616
 tbb:∀x∈s.tb,(-9223372036854775808≤x.1∧x.1≤9223372036854775807)∧(-9223372036854775808≤x.2∧x.2≤9223372036854775807)
 fb:∀x∈s.fr,(-9223372036854775808≤x.1∧x.1≤9223372036854775807)∧(-9223372036854775808≤x.2∧x.2≤9223372036854775807)
 sb:∀x∈s.sl,(-9223372036854775808≤x.2.1∧x.2.1≤9223372036854775807)∧(0≤x.2.2∧x.2.2 < 18446744073709551616)
 cb:(-9223372036854775808≤s.c0∧s.c0≤9223372036854775807)∧(-9223372036854775808≤s.c1∧s.c1≤9223372036854775807)∧(-9223372036854775808≤s.c2∧s.c2≤9223372036854775807)∧(-9223372036854775808≤s.c3∧s.c3≤9223372036854775807)
 topb: -9223372036854775808≤s.top∧s.top≤9223372036854775807
 wn:s.wA=none→s.wc=0
 wl:s.ws.length≤s.wc
 tn:s.tA=none→s.tc=0
section
open Go.WideShapes Go.ChangeShapes Go.ChangeAt Go.Joins Go.Deep
variable {H : Type} {enc : TypeId × Value → H} {w : World} {base : Nat} {spare : Nat → Bool} {held : Bool} {v : Value} {d : DataW H} {p : List MemPlace} {r : Reach} {b0 : Nat}
theorem jl:Opens enc Tryz.prog w base spare held 63 aa (fun x=>(-9223372036854775808≤x.1∧x.1≤9223372036854775807)∧(-9223372036854775808≤x.2∧x.2≤9223372036854775807)):=
 (ek Tryz.underlying63 kR (ay (c:=1) (di Tryz.underlying3) kR rfl kR (ay (c:=1) (di Tryz.underlying3) kR rfl kR gZ))).map
  (fun x=>(x.1,x.2.1)) (fun _=>rfl) (fun x h=>⟨h.1,h.2.1⟩)
theorem qp:Opens enc Tryz.prog w base spare held 73 fO (fun x=>(-9223372036854775808≤x.2.1∧x.2.1≤9223372036854775807)∧(0≤x.2.2∧x.2.2 < 18446744073709551616)):=
 (ek Tryz.underlying73 kR (ay (c:=1) (lP Tryz.underlying4) kR rfl kR (ay (c:=1) (di Tryz.underlying3) kR rfl kR (ay (c:=1) (mw Tryz.underlying61) kR rfl kR gZ)))).map
  (fun x=>(x.1,x.2.1,x.2.2.1)) (fun _=>rfl) (fun x h=>⟨h.2.1,h.2.2.1⟩)
theorem sR:Opens enc Tryz.prog w base spare held 23 (fun x:Int×Int×Int×Int=> [.int .i64 x.1,.int .i64 x.2.1,.int .i64 x.2.2.1,.int .i64 x.2.2.2]) (fun x=>(-9223372036854775808≤x.1∧x.1≤9223372036854775807)∧(-9223372036854775808≤x.2.1∧x.2.1≤9223372036854775807)∧(-9223372036854775808≤x.2.2.1∧x.2.2.1≤9223372036854775807)∧(-9223372036854775808≤x.2.2.2∧x.2.2.2≤9223372036854775807)):=
 (ek Tryz.underlying23 kR (ay (c:=1) (di Tryz.underlying3) kR rfl kR (ay (c:=1) (di Tryz.underlying3) kR rfl kR (ay (c:=1) (di Tryz.underlying3) kR rfl kR (ay (c:=1) (di Tryz.underlying3) kR rfl kR gZ))))).map
  (fun x=>(x.1,x.2.1,x.2.2.1,x.2.2.2.1)) (fun _=>rfl) (fun x h=>⟨h.1,h.2.1,h.2.2.1,h.2.2.2.1⟩)
theorem pD:Opens enc Tryz.prog w base spare held 34 (fun s:StD=> [.int .i64 s.c0,.int .i64 s.c1,.int .i64 s.c2,.int .i64 s.c3,.bool s.snd,.slice s.wA s.ws.length s.wc,.int .i64 s.top,.slice s.tA s.tb.length s.tc,.slice s.fA s.fr.length s.fc,.slice s.sA s.sl.length s.sc]) (fun s=>StAt w s∧StOk s):=
 (ek Tryz.underlying34 kR (ay (c:=4) sR kR rfl kR
  (ay (c:=1) (lP Tryz.underlying4) kR rfl kR
  (ay (c:=1) (fT (n:=1) (k:=8) Tryz.underlying30 kR kR dM (mw Tryz.underlying61)) kR rfl kR
  (ay (c:=1) (di Tryz.underlying3) kR rfl kR
  (ay (c:=1) (fT (n:=2) (k:=16) Tryz.underlying31 kR kR dM jl) kR rfl kR
  (ay (c:=1) (fT (n:=2) (k:=16) Tryz.underlying31 kR kR dM jl) kR rfl kR
  (ay (c:=1) (fT (n:=3) (k:=24) Tryz.underlying32 kR kR dM qp) kR rfl kR gZ)))))))).map
  (fun x=>⟨x.1.1,x.1.2.1,x.1.2.2.1,x.1.2.2.2,x.2.1,x.2.2.1.A,x.2.2.1.xs,x.2.2.1.cap,x.2.2.2.1,x.2.2.2.2.1.A,x.2.2.2.2.1.xs,x.2.2.2.2.1.cap,x.2.2.2.2.2.1.A,x.2.2.2.2.2.1.xs,x.2.2.2.2.2.1.cap,x.2.2.2.2.2.2.1.A,x.2.2.2.2.2.2.1.xs,x.2.2.2.2.2.2.1.cap⟩) (fun _=>rfl) (fun x h=>by
   obtain ⟨hc, -,hw,ht,h1,h2,h3, -⟩:=h
   have w1:=hw.wt
   have w2:=h1.wt
   have w3:=h2.wt
   have w4:=h3.wt
   exact ⟨⟨hw.row,h1.row,h2.row,h3.row⟩,by simp only;omega,by simp only;omega,by simp only;omega,by simp only;omega,hw.each,h1.each,h2.each,h3.each,hc,ht,hw.nn,hw.len,h1.nn⟩)
theorem jn (hv:Value.okWide Tryz.prog w r b0 34 v) (h:DataW.Trod enc Tryz.prog w base spare held 34 v d p) (hw:WOK Tryz.prog 34 d):∃s:StD,v= .agg #[.int .i64 s.c0,.int .i64 s.c1,.int .i64 s.c2,.int .i64 s.c3,.bool s.snd,.slice s.wA s.ws.length s.wc,.int .i64 s.top,.slice s.tA s.tb.length s.tc,.slice s.fA s.fr.length s.fc,.slice s.sA s.sl.length s.sc]∧StAt w s∧StOk s:=
 pD.agg Tryz.underlying34 hv h hw
end
abbrev IsState (w:World) (v:Value):Prop:=∃s:StD,v= .agg #[.int .i64 s.c0,.int .i64 s.c1,.int .i64 s.c2,.int .i64 s.c3,.bool s.snd,.slice s.wA s.ws.length s.wc,.int .i64 s.top,.slice s.tA s.tb.length s.tc,.slice s.fA s.fr.length s.fc,.slice s.sA s.sl.length s.sc]∧StAt w s∧StOk s
end Go.Proofs.YtphpppjfogpohaaGreat
