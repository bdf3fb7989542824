/- Merged by program (merge.py) out of: StS, IdP, StW. -/
import Derived.Test.YtemmjmplhknemaaMp14
import Derived.Test.YtemmjmplhknemaaMp27
import Derived.Test.YtemmjmplhknemaaMp28
import Derived.Test.YtemmjmplhknemaaMp19
import Derived.Test.YtemmjmplhknemaaMp12
import Derived.Test.YtemmjmplhknemaaMp11
set_option linter.unusedSimpArgs false
set_option linter.unusedVariables false
set_option maxRecDepth 100000
set_option maxHeartbeats 16000000
namespace Go.Proofs.Ytemmjmplhknemaa
open Go.RowKit Go.Shelf
theorem list_none (l:Option (List Int)) (a s:Int) (h:mayB a s=true):stopE l a s a=0∧listA l a s a= []:=by
 have hb:=may_bd h
 have h1:wkB a s a=true:=by simp only [wkB,h,Bool.true_and];simp;omega
 have h2:stopE l a s a=0:=by
  rw [stopE,if_pos h1,lastS,steps_end (by omega)]
  rfl
 refine ⟨h2,?_⟩
 rw [listA,if_pos h2,steps_end (by omega)]
 rfl
theorem led_new {c0 c1 c2 c3:Int} (h:cfgB c0 c1 c2 c3=true):ledR (largeA c0 c1 c2 c3) (largeS c0 c1 c2 c3) [] (newFr c0 c1 c2 c3)=true:=by
 obtain ⟨h1,h2,h3,h4,h5,h6,h7,h8⟩:=cfg_bd h
 have e2:largeS c0 c1 c2 c3=c1:=by simp [largeS,h]
 by_cases h0:c1=0
 ·have e1:largeA c0 c1 c2 c3=0:=by simp [largeA,h,h0]
  rw [newFr,e1,e2,if_pos h0,h0,ledR_of (led_nil _ _) (gaps_new0 (by simp [mayB]))]
  simp
 ·have e1:largeA c0 c1 c2 c3=2*c0:=by simp [largeA,h,h0]
  rw [newFr,e1,e2,if_neg h0,ledR_of (led_nil _ _) (gaps_new (by simp [mayB];omega))]
  simp
theorem check_led {c0 c1 c2 c3:Int} {sn:Bool} {ws:List Int} {top:Int} {tb fr:List (Int×Int)} {sl:List (Bool×Int×Int)} (h:ledR (largeA c0 c1 c2 c3) (largeS c0 c1 c2 c3) tb fr=true):checkZ c0 c1 c2 c3 sn ws top tb fr sl=firstZ
 [cfgB c0 c1 c2 c3,decide ((ws.length:Int)=wordsZ c0 c1 c2 c3),topB c0 c1 c2 c3 sn top,decide (stopE (some ws) (halfA c0 c1 c2 c3 sn) (halfS c0 c1 c2 c3) top=0),(smallsL c0 c1 c2 c3 sn ws top).all (smallO (some ws) c0 c1 c2 c3),
  tb.all (largeO (some ws) c0 c1 c2 c3),slotsB sl c2,(smallsL c0 c1 c2 c3 sn ws top++tb.map (·.1)).all (fieldsO (some ws) (startsB (smallsL c0 c1 c2 c3 sn ws top) tb)),
  sl.all (handleB (startsB (smallsL c0 c1 c2 c3 sn ws top) tb))]:=by
 rw [checkZ,ruleL,h,Bool.true_and]
theorem check_new {c0 c1 c2 c3:Int} (h:cfgB c0 c1 c2 c3=true):checkZ c0 c1 c2 c3 false (List.replicate (wordsZ c0 c1 c2 c3).toNat 0) 0 [] (newFr c0 c1 c2 c3) (List.replicate c2.toNat (false,0,0))=0:=by
 obtain ⟨h1,h2,h3,h4,h5,h6,h7,h8⟩:=cfg_bd h
 have e1:halfA c0 c1 c2 c3 false=0:=by simp [halfA,h]
 have e2:halfS c0 c1 c2 c3=c0:=by simp [halfS,h]
 have e3:wordsZ c0 c1 c2 c3=2*c0+c1:=by simp [wordsZ,h]
 have hm:mayB 0 c0=true:=by simp [mayB];omega
 have hL:smallsL c0 c1 c2 c3 false (List.replicate (wordsZ c0 c1 c2 c3).toNat 0) 0= []:=by
  rw [smallsL,e1,e2];exact (list_none _ 0 c0 hm).2
 rw [check_led (led_new h),hL,e1,e2,(list_none _ 0 c0 hm).1,h]
 have q1:decide (((List.replicate (wordsZ c0 c1 c2 c3).toNat (0:Int)).length:Int)=wordsZ c0 c1 c2 c3)=true:=by rw [List.length_replicate];simp;omega
 have q2:topB c0 c1 c2 c3 false 0=true:=by rw [topB,e1,e2];simp;omega
 have q3:slotsB (List.replicate c2.toNat (false,0,0)) c2=true:=by
  have hs:slotB (false,0,0)=true:=by decide
  rw [slotsB,List.length_replicate,Bool.and_eq_true]
  exact ⟨List.all_eq_true.2 fun x hx=>by rw [(List.mem_replicate.1 hx).2];exact hs,by simp;omega⟩
 have q4:∀S,(List.replicate c2.toNat ((false,0,0):Bool×Int×Int)).all (handleB S)=true:=fun S=>List.all_eq_true.2 fun x hx=>by rw [(List.mem_replicate.1 hx).2];rfl
 rw [q1,q2,q3,q4]
 rfl
theorem first_all {rs:List Bool} (h:firstZ rs=0):∀b∈rs,b=true:=by
 unfold firstZ at h
 split at h
 ·rename_i i _;omega
 ·rename_i h1
  rw [List.findIdx?_eq_none_iff]at h1
  intro b hb
  simpa using h1 b hb
structure AllOk (c0 c1 c2 c3:Int) (sn:Bool) (ws:List Int) (top:Int) (tb fr:List (Int×Int)) (sl:List (Bool×Int×Int)):Prop where
 cfg:cfgB c0 c1 c2 c3=true
 len:decide ((ws.length:Int)=wordsZ c0 c1 c2 c3)=true
 tp:topB c0 c1 c2 c3 sn top=true
 stop:stopE (some ws) (halfA c0 c1 c2 c3 sn) (halfS c0 c1 c2 c3) top=0
 small:(smallsL c0 c1 c2 c3 sn ws top).all (smallO (some ws) c0 c1 c2 c3)=true
 led:ledR (largeA c0 c1 c2 c3) (largeS c0 c1 c2 c3) tb fr=true
 large:tb.all (largeO (some ws) c0 c1 c2 c3)=true
 slots:slotsB sl c2=true
 field:(smallsL c0 c1 c2 c3 sn ws top++tb.map (·.1)).all (fieldsO (some ws) (startsB (smallsL c0 c1 c2 c3 sn ws top) tb))=true
 handle:sl.all (handleB (startsB (smallsL c0 c1 c2 c3 sn ws top) tb))=true
section
variable {c0 c1 c2 c3 : Int} {sn : Bool} {ws : List Int} {top : Int} {tb fr : List (Int × Int)} {sl : List (Bool × Int × Int)}
theorem check_ok (h:checkZ c0 c1 c2 c3 sn ws top tb fr sl=0):AllOk c0 c1 c2 c3 sn ws top tb fr sl:=by
 have H:=first_all h
 simp only [ruleL,List.mem_cons,List.not_mem_nil,or_false,forall_eq_or_imp,forall_eq]at H
 obtain ⟨h1,h2,h3,h4,h5,h6,h7,h8,h9⟩:=H
 rw [Bool.and_eq_true]at h6
 exact ⟨h1,h2,h3,of_decide_eq_true h4,h5,h6.1,h6.2,h7,h8,h9⟩
end
structure StB (s:StD):Prop where
 wb:∀z∈s.ws,0≤z∧z < 18446744073709551616
 tbb:∀x∈s.tb,(-9223372036854775808≤x.1∧x.1≤9223372036854775807)
 sb:∀x∈s.sl,0≤x.2.2∧x.2.2 < 18446744073709551616
theorem stcheck_s (s:StD) (k:Int) (hk:checkZ s.c0 s.c1 s.c2 s.c3 s.snd s.ws s.top s.tb s.fr s.sl=k) (V:World) (h:StAt V s) (hl:StLe s) (hb:StB s):Calls Try.prog 13 #[.agg #[.int .i64 s.c0,.int .i64 s.c1,.int .i64 s.c2,.int .i64 s.c3,.bool s.snd,.slice s.wA s.ws.length s.wc,.int .i64 s.top,.slice s.tA s.tb.length s.tc,.slice s.fA s.fr.length s.fc,.slice s.sA s.sl.length s.sc]] V fun e w'=>e= .returned (.int .i64 k)∧Ext V w':=by
 subst hk
 exact stcheck_any V (pers_row h.w) (pers_row h.t) (pers_row h.f) (pers_row h.s) hl.w hl.t hl.f hl.s hb.wb hb.tbb hb.sb
end Go.Proofs.Ytemmjmplhknemaa
