/- Merged by program (merge.py) out of: PkX. -/
import Derived.Test.YtemmjmplhknemaaMp33
import Derived.Test.YtemmjmplhknemaaMp38
set_option linter.unusedSimpArgs false
set_option linter.unusedVariables false
set_option maxRecDepth 100000
set_option maxHeartbeats 16000000
namespace Go.Proofs.Ytemmjmplhknemaa
open Go.RowKit Go.Shelf
section
variable (t : UInt8 → Bool) (ms : Int)
def dq9 (c0 c1 c2 c3:Int) (sn:Bool) (tp:Int) (tb fr:List (Int×Int)) (sl:List (Bool×Int×Int)) (r:List UInt8):Option (StD×List UInt8):=
 (wordsO (r.length+(wordsZ c0 c1 c2 c3).toNat+1) (wordsZ c0 c1 c2 c3).toNat r).map fun w=>(⟨c0,c1,c2,c3,sn,none,w.1,0,tp,none,tb,0,none,fr,0,none,sl,0⟩,w.2)
def dq8 (c0 c1 c2 c3:Int) (sn:Bool) (tp:Int) (tb fr:List (Int×Int)) (r:List UInt8):Option (StD×List UInt8):=(listO 1024 (slotO t) r).bind fun x=>dq9 c0 c1 c2 c3 sn tp tb fr x.1 x.2
def dq7 (c0 c1 c2 c3:Int) (sn:Bool) (tp:Int) (tb:List (Int×Int)) (r:List UInt8):Option (StD×List UInt8):=(listO 32768 spanO r).bind fun x=>dq8 t c0 c1 c2 c3 sn tp tb x.1 x.2
def dq6 (c0 c1 c2 c3:Int) (sn:Bool) (tp:Int) (r:List UInt8):Option (StD×List UInt8):=(listO 32768 spanO r).bind fun x=>dq7 t c0 c1 c2 c3 sn tp x.1 x.2
def dq5 (c0 c1 c2 c3:Int) (sn:Bool) (r:List UInt8):Option (StD×List UInt8):=(numO 98304 r).bind fun x=>dq6 t c0 c1 c2 c3 sn x.1 x.2
def dq4 (c0 c1 c2 c3:Int) (r:List UInt8):Option (StD×List UInt8):=(truO t r).bind fun x=>dq5 t c0 c1 c2 c3 x.1 x.2
def dq3 (c0 c1 c2:Int) (r:List UInt8):Option (StD×List UInt8):=(numO 32768 r).bind fun x=>dq4 t c0 c1 c2 x.1 x.2
def dq2 (c0 c1:Int) (r:List UInt8):Option (StD×List UInt8):=(numO ms r).bind fun x=>dq3 t c0 c1 x.1 x.2
def dq1 (c0:Int) (r:List UInt8):Option (StD×List UInt8):=(numO 32768 r).bind fun x=>dq2 t ms c0 x.1 x.2
def dq0 (r:List UInt8):Option (StD×List UInt8):=(numO 32768 r).bind fun x=>dq1 t ms x.1 x.2
theorem dec_dq (b:List UInt8):decO t ms b=(takeO 4 b).bind fun m=>if m.1≠mgB then none else dq0 t ms m.2:=rfl
theorem no_heap {t:UInt8→Bool} (h0:t 0=false) (h1:t 1=true) {ms:Int} (hm:1024≤ms) {b:List UInt8} {o:Option (StD×List UInt8)} (h:decO t ms b=o) (hno:∀s:StD,o=some (s,[])→pkC s=0→encS s=b→False):∀s:StD,pkC s=0→StB s→encS s≠b:=by
 intro s hk hb he
 have h2:=dec_enc h0 h1 hm hk hb []
 rw [List.append_nil,he,h]at h2
 exact hno _ h2 hk he
end
def RetDe (V:World) (b:List UInt8) (e:Ending) (w':World):Prop:=
 (∃s:StD,e= .returned (.tuple #[.agg #[.int .i64 s.c0,.int .i64 s.c1,.int .i64 s.c2,.int .i64 s.c3,.bool s.snd,.slice s.wA s.ws.length s.wc,.int .i64 s.top,.slice s.tA s.tb.length s.tc,.slice s.fA s.fr.length s.fc,.slice s.sA s.sl.length s.sc],.int .i64 0])∧StOwn V.heap.size w' s∧StB s∧StLe s∧pkC s=0∧encS s=b∧Ext V w')∨
 (e= .returned (.tuple #[.agg #[.int .i64 0,.int .i64 0,.int .i64 0,.int .i64 0,.bool false,.slice none 0 0,.int .i64 0,.slice none 0 0,.slice none 0 0,.slice none 0 0],.int .i64 4])∧(∀s:StD,pkC s=0→StB s→encS s≠b)∧Ext V w')
theorem dq9_eq {c0 c1 c2 c3:Int} {sn:Bool} {tp:Int} {tb fr:List (Int×Int)} {sl:List (Bool×Int×Int)} {r x:List UInt8} {s:StD} (h:dq9 c0 c1 c2 c3 sn tp tb fr sl r=some (s,x)):∃w,s=⟨c0,c1,c2,c3,sn,none,w,0,tp,none,tb,0,none,fr,0,none,sl,0⟩:=by
 unfold dq9 at h
 cases hw:wordsO (r.length+(wordsZ c0 c1 c2 c3).toNat+1) (wordsZ c0 c1 c2 c3).toNat r with
 | none=>rw [hw]at h;cases h
 | some w=>
  rw [hw,Option.map_some]at h
  simp only [Option.some.injEq,Prod.mk.injEq]at h
  exact ⟨w.1,h.1.symm⟩
theorem dq9_stq {c0 c1 c2 c3:Int} {sn:Bool} {tp:Int} {tb fr:List (Int×Int)} {sl:List (Bool×Int×Int)} {n:Nat} (hn:wordsZ c0 c1 c2 c3=(n:Int)) {st st':Option (List UInt8)} {ws:List Int} (h:Stq st (fun r=>wordsO (r.length+n+1) n r) ws st'):
  st.bind (dq9 c0 c1 c2 c3 sn tp tb fr sl)=st'.map fun r=>(⟨c0,c1,c2,c3,sn,none,ws,0,tp,none,tb,0,none,fr,0,none,sl,0⟩,r):=by
 have h2:=h.bind fun w r=>some ((⟨c0,c1,c2,c3,sn,none,w,0,tp,none,tb,0,none,fr,0,none,sl,0⟩:StD),r)
 refine Eq.trans ?_ (h2.trans ?_)
 ·congr 1
  funext r
  unfold dq9
  rw [hn,Int.toNat_natCast]
  cases wordsO (r.length+n+1) n r <;>rfl
 ·cases st' <;>rfl
theorem no_cfg {c0 c1 c2 c3:Int} {sn:Bool} {tp:Int} {tb fr:List (Int×Int)} {sl:List (Bool×Int×Int)} {st:Option (List UInt8)} (hc:cfgB c0 c1 c2 c3=false) {b:List UInt8}:∀s:StD,st.bind (dq9 c0 c1 c2 c3 sn tp tb fr sl)=some (s,[])→pkC s=0→encS s=b→False:=by
 intro s h hk _
 cases st with
 | none=>cases h
 | some r=>
  obtain ⟨w,rfl⟩:=dq9_eq h
  have:=(check_ok hk).cfg
  simp only at this
  rw [hc]at this
  cases this
theorem Stq.magic {t:UInt8→Bool} {ms:Int} {b l s':List UInt8} {m:Bool} (h:takeO 4 b=some (l,s')∨(takeO 4 b=none∧l=List.replicate 4 0)) (hm:m=decide (l≠mgB)):decO t ms b=(if m then none else some s').bind (dq0 t ms):=by
 subst hm
 rw [dec_dq]
 rcases h with h | ⟨h,rfl⟩
 ·rw [h,Option.bind_some]
  by_cases hl:l≠mgB
  ·rw [if_pos hl,decide_eq_true hl];rfl
  ·rw [if_neg hl,decide_eq_false hl];rfl
 ·rw [h,decide_eq_true (by decide)]
  rfl
theorem Stq.slot {t:UInt8→Bool} {st st1 st2 st3:Option (List UInt8)} {u:Bool} {g z:Int} (h1:Stq st (truO t) u st1) (h2:Stq st1 (numO 1099511627776) g st2) (h3:Stq st2 wordO z st3):Stq st (slotO t) (u,g,z) st3:=by
 have e1:=h1.bind fun u r=>(numO 1099511627776 r).bind fun y=>(wordO y.2).map fun z=>((u,y.1,z.1),z.2)
 have e2:=h2.bind fun g r=>(wordO r).map fun z=>((u,g,z.1),z.2)
 unfold Stq
 refine Eq.trans e1 (Eq.trans e2 ?_)
 have e3:=h3.bind fun z r=>some ((u,g,z),r)
 refine Eq.trans ?_ (e3.trans ?_)
 ·congr 1
  funext r
  cases wordO r <;>rfl
 ·cases st3 <;>rfl
end Go.Proofs.Ytemmjmplhknemaa
