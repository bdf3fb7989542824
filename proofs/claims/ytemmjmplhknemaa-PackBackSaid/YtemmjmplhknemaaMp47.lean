/- Merged by program (merge.py) out of: OpenT. -/
import Derived.Test.YtemmjmplhknemaaMp23
import Derived.Test.YtemmjmplhknemaaMp7
import Derived.Test.YtemmjmplhknemaaMp11
set_option linter.unusedSimpArgs false
set_option linter.unusedVariables false
set_option maxRecDepth 100000
set_option maxHeartbeats 16000000
namespace Go.Proofs.Ytemmjmplhknemaa
open Go.RowKit
structure StOk (s:StD):Prop where
 lw:s.ws.length≤9223372036854775807
 lt:s.tb.length≤9223372036854775807
 lf:s.fr.length≤9223372036854775807
 ls:s.sl.length≤9223372036854775807
 wb:∀z∈s.ws,0≤z∧z < 18446744073709551616
 tbb:∀x∈s.tb,(-9223372036854775808≤x.1∧x.1≤9223372036854775807)∧(-9223372036854775808≤x.2∧x.2≤9223372036854775807)
 fb:∀x∈s.fr,(-9223372036854775808≤x.1∧x.1≤9223372036854775807)∧(-9223372036854775808≤x.2∧x.2≤9223372036854775807)
 sb:∀x∈s.sl,(-9223372036854775808≤x.2.1∧x.2.1≤9223372036854775807)∧(0≤x.2.2∧x.2.2 < 18446744073709551616)
 cb:(-9223372036854775808≤s.c0∧s.c0≤9223372036854775807)∧(-9223372036854775808≤s.c1∧s.c1≤9223372036854775807)∧(-9223372036854775808≤s.c2∧s.c2≤9223372036854775807)∧(-9223372036854775808≤s.c3∧s.c3≤9223372036854775807)
 topb: -9223372036854775808≤s.top∧s.top≤9223372036854775807
 wn:s.wA=none→s.wc=0
 wl:s.ws.length≤s.wc
 tn:s.tA=none→s.tc=0
section
open Go.WideShapes Go.ChangeShapes Go.ChangeAt Go.Joins Go.Deep
variable {H : Type} {enc : TypeId × Value → H} {w : World} {base : Nat} {spare : Nat → Bool} {held : Bool} {v : Value} {d : DataW H} {p : List MemPlace} {r : Reach} {b0 : Nat}
theorem opens_spanT:Opens enc Try.prog w base spare held 62 spanC (fun x=>(-9223372036854775808≤x.1∧x.1≤9223372036854775807)∧(-9223372036854775808≤x.2∧x.2≤9223372036854775807)):=
 (opens_struct Try.underlying62 (by kernel_rfl) (fields_cons (c:=1) (opens_int Try.underlying3) (by kernel_rfl) rfl (by kernel_rfl) (fields_cons (c:=1) (opens_int Try.underlying3) (by kernel_rfl) rfl (by kernel_rfl) fields_nil))).map
  (fun x=>(x.1,x.2.1)) (fun _=>rfl) (fun x h=>⟨h.1,h.2.1⟩)
theorem opens_slotT:Opens enc Try.prog w base spare held 56 slotC (fun x=>(-9223372036854775808≤x.2.1∧x.2.1≤9223372036854775807)∧(0≤x.2.2∧x.2.2 < 18446744073709551616)):=
 (opens_struct Try.underlying56 (by kernel_rfl) (fields_cons (c:=1) (opens_bool Try.underlying4) (by kernel_rfl) rfl (by kernel_rfl) (fields_cons (c:=1) (opens_int Try.underlying3) (by kernel_rfl) rfl (by kernel_rfl) (fields_cons (c:=1) (opens_u64 Try.underlying54) (by kernel_rfl) rfl (by kernel_rfl) fields_nil)))).map
  (fun x=>(x.1,x.2.1,x.2.2.1)) (fun _=>rfl) (fun x h=>⟨h.2.1,h.2.2.1⟩)
theorem opens_cfgT:Opens enc Try.prog w base spare held 23 (fun x:Int×Int×Int×Int=> [.int .i64 x.1,.int .i64 x.2.1,.int .i64 x.2.2.1,.int .i64 x.2.2.2]) (fun x=>(-9223372036854775808≤x.1∧x.1≤9223372036854775807)∧(-9223372036854775808≤x.2.1∧x.2.1≤9223372036854775807)∧(-9223372036854775808≤x.2.2.1∧x.2.2.1≤9223372036854775807)∧(-9223372036854775808≤x.2.2.2∧x.2.2.2≤9223372036854775807)):=
 (opens_struct Try.underlying23 (by kernel_rfl) (fields_cons (c:=1) (opens_int Try.underlying3) (by kernel_rfl) rfl (by kernel_rfl) (fields_cons (c:=1) (opens_int Try.underlying3) (by kernel_rfl) rfl (by kernel_rfl) (fields_cons (c:=1) (opens_int Try.underlying3) (by kernel_rfl) rfl (by kernel_rfl) (fields_cons (c:=1) (opens_int Try.underlying3) (by kernel_rfl) rfl (by kernel_rfl) fields_nil))))).map
  (fun x=>(x.1,x.2.1,x.2.2.1,x.2.2.2.1)) (fun _=>rfl) (fun x h=>⟨h.1,h.2.1,h.2.2.1,h.2.2.2.1⟩)
theorem opens_stateT:Opens enc Try.prog w base spare held 28 (fun s:StD=> [.int .i64 s.c0,.int .i64 s.c1,.int .i64 s.c2,.int .i64 s.c3,.bool s.snd,.slice s.wA s.ws.length s.wc,.int .i64 s.top,.slice s.tA s.tb.length s.tc,.slice s.fA s.fr.length s.fc,.slice s.sA s.sl.length s.sc]) (fun s=>StAt w s∧StOk s):=
 (opens_struct Try.underlying28 (by kernel_rfl) (fields_cons (c:=4) opens_cfgT (by kernel_rfl) rfl (by kernel_rfl)
  (fields_cons (c:=1) (opens_bool Try.underlying4) (by kernel_rfl) rfl (by kernel_rfl)
  (fields_cons (c:=1) (opens_slice (n:=1) (k:=8) Try.underlying24 (by kernel_rfl) (by kernel_rfl) (by decide) (opens_u64 Try.underlying54)) (by kernel_rfl) rfl (by kernel_rfl)
  (fields_cons (c:=1) (opens_int Try.underlying3) (by kernel_rfl) rfl (by kernel_rfl)
  (fields_cons (c:=1) (opens_slice (n:=2) (k:=16) Try.underlying25 (by kernel_rfl) (by kernel_rfl) (by decide) opens_spanT) (by kernel_rfl) rfl (by kernel_rfl)
  (fields_cons (c:=1) (opens_slice (n:=2) (k:=16) Try.underlying25 (by kernel_rfl) (by kernel_rfl) (by decide) opens_spanT) (by kernel_rfl) rfl (by kernel_rfl)
  (fields_cons (c:=1) (opens_slice (n:=3) (k:=24) Try.underlying26 (by kernel_rfl) (by kernel_rfl) (by decide) opens_slotT) (by kernel_rfl) rfl (by kernel_rfl) fields_nil)))))))).map
  (fun x=>⟨x.1.1,x.1.2.1,x.1.2.2.1,x.1.2.2.2,x.2.1,x.2.2.1.A,x.2.2.1.xs,x.2.2.1.cap,x.2.2.2.1,x.2.2.2.2.1.A,x.2.2.2.2.1.xs,x.2.2.2.2.1.cap,x.2.2.2.2.2.1.A,x.2.2.2.2.2.1.xs,x.2.2.2.2.2.1.cap,x.2.2.2.2.2.2.1.A,x.2.2.2.2.2.2.1.xs,x.2.2.2.2.2.2.1.cap⟩) (fun _=>rfl) (fun x h=>by
   obtain ⟨hc, -,hw,ht,h1,h2,h3, -⟩:=h
   have w1:=hw.wt
   have w2:=h1.wt
   have w3:=h2.wt
   have w4:=h3.wt
   exact ⟨⟨hw.row,h1.row,h2.row,h3.row⟩,by simp only;omega,by simp only;omega,by simp only;omega,by simp only;omega,hw.each,h1.each,h2.each,h3.each,hc,ht,hw.nn,hw.len,h1.nn⟩)
theorem open_stateT (hv:Value.okWide Try.prog w r b0 28 v) (h:DataW.Trod enc Try.prog w base spare held 28 v d p) (hw:WOK Try.prog 28 d):∃s:StD,v= .agg #[.int .i64 s.c0,.int .i64 s.c1,.int .i64 s.c2,.int .i64 s.c3,.bool s.snd,.slice s.wA s.ws.length s.wc,.int .i64 s.top,.slice s.tA s.tb.length s.tc,.slice s.fA s.fr.length s.fc,.slice s.sA s.sl.length s.sc]∧StAt w s∧StOk s:=
 opens_stateT.agg Try.underlying28 hv h hw
end
abbrev IsState (w:World) (v:Value):Prop:=∃s:StD,v= .agg #[.int .i64 s.c0,.int .i64 s.c1,.int .i64 s.c2,.int .i64 s.c3,.bool s.snd,.slice s.wA s.ws.length s.wc,.int .i64 s.top,.slice s.tA s.tb.length s.tc,.slice s.fA s.fr.length s.fc,.slice s.sA s.sl.length s.sc]∧StAt w s∧StOk s
end Go.Proofs.Ytemmjmplhknemaa
