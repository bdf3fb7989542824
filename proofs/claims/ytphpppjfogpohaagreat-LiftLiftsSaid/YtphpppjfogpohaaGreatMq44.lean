/- Merged by program (merge.py) out of: OpenT. -/
import Derived.Test.YtphpppjfogpohaaGreatMq0
import Derived.Test.YtphpppjfogpohaaGreatMq25
import Derived.Test.YtphpppjfogpohaaGreatMq7
import Derived.Test.YtphpppjfogpohaaGreatMq14
set_option linter.unusedSimpArgs false
set_option linter.unusedVariables false
set_option maxRecDepth 100000
set_option maxHeartbeats 16000000
namespace Go.Proofs.YtphpppjfogpohaaGreat
open Go.RowKit
structure StOk (s:StD):Prop where
 lw:s.ws.length≤9223372036854775807
 lt:s.tb.length≤9223372036854775807
 lf:s.fr.length≤9223372036854775807
 ls:s.sl.length≤9223372036854775807
 wb:∀z∈s.ws,0≤z∧z < 18446744073709551616
 tbb:∀x∈s.tb,(-9223372036854775808≤x.1∧x.1≤9223372036854775807)∧(-9223372036854775808≤x.2∧x.2≤9223372036854775807)
 fb:∀x∈s.fr,(-9223372036854775808≤x.1∧x.1≤9223372036854775807)∧(-9223372036854775808≤x.2∧x.2≤9223372036854775807)
 sb:∀x∈s.sl,(-9223372036854775808≤x.2.1∧x.2.1≤9223372036854775807)∧(0≤x.2.2∧x.2.2 < 18446744073709551616)
 cb:(-9223372036854775808≤s.c0∧s.c0≤9223372036854775807)∧(-9223372036854775808≤s.c1∧s.c1≤9223372036854775807)∧(-9223372036854775808≤s.c2∧s.c2≤9223372036854775807)∧(-9223372036854775808≤s.c3∧s.c3≤9223372036854775807)
 topb: -9223372036854775808≤s.top∧s.top≤9223372036854775807
 wn:s.wA=none→s.wc=0
 wl:s.ws.length≤s.wc
 tn:s.tA=none→s.tc=0
section
open Go.WideShapes Go.ChangeShapes Go.ChangeAt Go.Joins Go.Deep
variable {H : Type} {enc : TypeId × Value → H} {w : World} {base : Nat} {spare : Nat → Bool} {held : Bool} {v : Value} {d : DataW H} {p : List MemPlace} {r : Reach} {b0 : Nat}
theorem jq:Opens enc Tryz.prog w base spare held 63 ac (fun x=>(-9223372036854775808≤x.1∧x.1≤9223372036854775807)∧(-9223372036854775808≤x.2∧x.2≤9223372036854775807)):=
 (eh Tryz.underlying63 kR (bB (c:=1) (di Tryz.underlying3) kR rfl kR (bB (c:=1) (di Tryz.underlying3) kR rfl kR gh))).map
  (fun x=>(x.1,x.2.1)) (fun _=>rfl) (fun x h=>⟨h.1,h.2.1⟩)
theorem qr:Opens enc Tryz.prog w base spare held 73 fN (fun x=>(-9223372036854775808≤x.2.1∧x.2.1≤9223372036854775807)∧(0≤x.2.2∧x.2.2 < 18446744073709551616)):=
 (eh Tryz.underlying73 kR (bB (c:=1) (lV Tryz.underlying4) kR rfl kR (bB (c:=1) (di Tryz.underlying3) kR rfl kR (bB (c:=1) (my Tryz.underlying61) kR rfl kR gh)))).map
  (fun x=>(x.1,x.2.1,x.2.2.1)) (fun _=>rfl) (fun x h=>⟨h.2.1,h.2.2.1⟩)
theorem sW:Opens enc Tryz.prog w base spare held 23 (fun x:Int×Int×Int×Int=> [.int .i64 x.1,.int .i64 x.2.1,.int .i64 x.2.2.1,.int .i64 x.2.2.2]) (fun x=>(-9223372036854775808≤x.1∧x.1≤9223372036854775807)∧(-9223372036854775808≤x.2.1∧x.2.1≤9223372036854775807)∧(-9223372036854775808≤x.2.2.1∧x.2.2.1≤9223372036854775807)∧(-9223372036854775808≤x.2.2.2∧x.2.2.2≤9223372036854775807)):=
 (eh Tryz.underlying23 kR (bB (c:=1) (di Tryz.underlying3) kR rfl kR (bB (c:=1) (di Tryz.underlying3) kR rfl kR (bB (c:=1) (di Tryz.underlying3) kR rfl kR (bB (c:=1) (di Tryz.underlying3) kR rfl kR gh))))).map
  (fun x=>(x.1,x.2.1,x.2.2.1,x.2.2.2.1)) (fun _=>rfl) (fun x h=>⟨h.1,h.2.1,h.2.2.1,h.2.2.2.1⟩)
theorem pE:Opens enc Tryz.prog w base spare held 34 (fun s:StD=> [.int .i64 s.c0,.int .i64 s.c1,.int .i64 s.c2,.int .i64 s.c3,.bool s.snd,.slice s.wA s.ws.length s.wc,.int .i64 s.top,.slice s.tA s.tb.length s.tc,.slice s.fA s.fr.length s.fc,.slice s.sA s.sl.length s.sc]) (fun s=>StAt w s∧StOk s):=
 (eh Tryz.underlying34 kR (bB (c:=4) sW kR rfl kR
  (bB (c:=1) (lV Tryz.underlying4) kR rfl kR
  (bB (c:=1) (fS (n:=1) (k:=8) Tryz.underlying30 kR kR dM (my Tryz.underlying61)) kR rfl kR
  (bB (c:=1) (di Tryz.underlying3) kR rfl kR
  (bB (c:=1) (fS (n:=2) (k:=16) Tryz.underlying31 kR kR dM jq) kR rfl kR
  (bB (c:=1) (fS (n:=2) (k:=16) Tryz.underlying31 kR kR dM jq) kR rfl kR
  (bB (c:=1) (fS (n:=3) (k:=24) Tryz.underlying32 kR kR dM qr) kR rfl kR gh)))))))).map
  (fun x=>⟨x.1.1,x.1.2.1,x.1.2.2.1,x.1.2.2.2,x.2.1,x.2.2.1.A,x.2.2.1.xs,x.2.2.1.cap,x.2.2.2.1,x.2.2.2.2.1.A,x.2.2.2.2.1.xs,x.2.2.2.2.1.cap,x.2.2.2.2.2.1.A,x.2.2.2.2.2.1.xs,x.2.2.2.2.2.1.cap,x.2.2.2.2.2.2.1.A,x.2.2.2.2.2.2.1.xs,x.2.2.2.2.2.2.1.cap⟩) (fun _=>rfl) (fun x h=>by
   obtain ⟨hc, -,hw,ht,h1,h2,h3, -⟩:=h
   have w1:=hw.wt
   have w2:=h1.wt
   have w3:=h2.wt
   have w4:=h3.wt
   exact ⟨⟨hw.row,h1.row,h2.row,h3.row⟩,by simp only;omega,by simp only;omega,by simp only;omega,by simp only;omega,hw.each,h1.each,h2.each,h3.each,hc,ht,hw.nn,hw.len,h1.nn⟩)
theorem qt (hv:Value.okWide Tryz.prog w r b0 34 v) (h:DataW.Trod enc Tryz.prog w base spare held 34 v d p) (hw:WOK Tryz.prog 34 d):∃s:StD,v= .agg #[.int .i64 s.c0,.int .i64 s.c1,.int .i64 s.c2,.int .i64 s.c3,.bool s.snd,.slice s.wA s.ws.length s.wc,.int .i64 s.top,.slice s.tA s.tb.length s.tc,.slice s.fA s.fr.length s.fc,.slice s.sA s.sl.length s.sc]∧StAt w s∧StOk s:=
 pE.agg Tryz.underlying34 hv h hw
end
abbrev IsState (w:World) (v:Value):Prop:=∃s:StD,v= .agg #[.int .i64 s.c0,.int .i64 s.c1,.int .i64 s.c2,.int .i64 s.c3,.bool s.snd,.slice s.wA s.ws.length s.wc,.int .i64 s.top,.slice s.tA s.tb.length s.tc,.slice s.fA s.fr.length s.fc,.slice s.sA s.sl.length s.sc]∧StAt w s∧StOk s
end Go.Proofs.YtphpppjfogpohaaGreat
