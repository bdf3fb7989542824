/- Merged by program (merge.py) out of: LedD, LedE, LedF, LedG, LedH, LedI, LedJ, LdN. -/
import Derived.Laws.Externs
import Derived.Lib.AppendZerosOnto
import Derived.Lib.Overlaps
import Derived.Test.YtemmjmplhknemaaMp11
import Derived.Test.YtemmjmplhknemaaMp4
import Derived.Test.YtemmjmplhknemaaMp9
set_option linter.unusedSimpArgs false
set_option linter.unusedVariables false
set_option maxRecDepth 100000
set_option maxHeartbeats 16000000
namespace Go.Proofs.Ytemmjmplhknemaa
open Go.RowKit Go.Shelf
def ledB (a s:Int) (xs:List (Int×Int)):Bool:=xs.all (fun x=>withinB x.1 x.2 a s) && chainB xs
open Classical in
noncomputable def ledR (a s:Int) (xs fs:List (Int×Int)):Bool:=ledB a s xs && decide (GapsOf a s xs fs)
theorem ledR_no {a s:Int} {xs fs:List (Int×Int)} (h:ledB a s xs=false):ledR a s xs fs=false:=by unfold ledR;rw [h];rfl
theorem ledR_of {a s:Int} {xs ys fs:List (Int×Int)} (h:ledB a s xs=true) (hg:GapsOf a s xs ys):ledR a s xs fs=decide (ys=fs):=by
 unfold ledR
 rw [h,Bool.true_and,Bool.eq_iff_iff]
 simp only [decide_eq_true_eq]
 exact ⟨fun h2=>Canon.unique hg h2,fun e=>e ▸ hg⟩
theorem led_no1 {a s:Int} {xs:List (Int×Int)} {k:Nat} (hk:k < xs.length) (h:withinB (xs.getD k (0,0)).1 (xs.getD k (0,0)).2 a s=false):ledB a s xs=false:=by
 have:xs.all (fun x=>withinB x.1 x.2 a s)=false:=by
  rw [List.all_eq_false]
  exact ⟨xs.getD k (0,0),by simp [hk],by rw [h];simp⟩
 rw [ledB,this,Bool.false_and]
theorem led_no2 {a s:Int} {xs:List (Int×Int)} {j:Nat} (hj:j+1 < xs.length) (h:(xs.getD (j+1) (0,0)).1 < (xs.getD j (0,0)).1+(xs.getD j (0,0)).2):ledB a s xs=false:=by
 rw [ledB,chain_no2 hj h,Bool.and_false]
def LedTo (a s:Int) (xs:List (Int×Int)) (k:Nat):Prop:=∀i,i < k→withinB (xs.getD i (0,0)).1 (xs.getD i (0,0)).2 a s=true∧∀j,j+1=i→(xs.getD j (0,0)).1+(xs.getD j (0,0)).2≤(xs.getD i (0,0)).1
theorem LedTo.step {a s:Int} {xs:List (Int×Int)} {k:Nat} (h:LedTo a s xs k) (h1:withinB (xs.getD k (0,0)).1 (xs.getD k (0,0)).2 a s=true) (h2:∀j,j+1=k→(xs.getD j (0,0)).1+(xs.getD j (0,0)).2≤(xs.getD k (0,0)).1):LedTo a s xs (k+1):=fun i hi=>by
 rcases Nat.lt_or_ge i k with h' | h'
 ·exact h i h'
 ·obtain rfl:i=k:=by omega
  exact ⟨h1,h2⟩
theorem led_yes {a s:Int} {xs:List (Int×Int)} (h:LedTo a s xs xs.length):ledB a s xs=true:=by
 rw [ledB,all_within fun i hi=>(h i hi).1,Bool.true_and]
 exact chain_yes fun i hi=>⟨within_may (h i hi).1,fun j _ hj=>(h i hi).2 j hj⟩
theorem ledright_any (a s:Int) (A A2:Option Addr) (cap cap2:Nat) (xs fs:List (Int×Int)) (w:World) (hlen:xs.length≤400000) (hlen2:fs.length≤9223372036854775807) (hl:SpansAt w A xs) (hl2:SpansAt w A2 fs):
  Calls Try.prog 57 #[.agg #[.int .i64 (a),.int .i64 (s)],.slice A xs.length cap,.slice A2 fs.length cap2] w fun e w'=>e= .returned (.bool (ledR a s xs fs))∧Ext w w':=by
 have hW:Ext w (w.alloc (.cells #[.int .i64 a,.int .i64 s] 62)):=(Ext.refl w).alloc _
 have HL:=zH (hl.ext hW)
 have HF:=zH (hl2.ext hW)
 have b0:=boxed w #[.int .i64 a,.int .i64 s] 62 0 (.int .i64 a) rfl
 have b1:=boxed w #[.int .i64 a,.int .i64 s] 62 1 (.int .i64 s) rfl
 clear hl hl2
 go_enter Try.func57,Try.ntmps57
 go_wp2_with fail
 generalize w.alloc (.cells #[.int .i64 a,.int .i64 s] 62)=W at*
 go_loopw [7,8,11] (fun _ _ i wr=>∃k:Nat,k≤xs.length∧i= .int .i64 k∧Ext W wr∧Hid (LedTo a s xs k)) (fun _ _ i _=>xs.length - (intOf i).toNat)
 case atStart=>exact ⟨0,by omega,rfl,Ext.refl _,zH (fun i hi=>absurd hi (by omega))⟩
 case round=>
  obtain ⟨k,hk,rfl,hxr,hq⟩:=hrel
  by_cases hlt:k < xs.length
  rotate_left
  ·have HR:=zH (led_yes (a:=a) (s:=s) (xs:=xs) (fun i hi=>hq.out i (by omega)))
   have c0:=b0 wr hxr
   have c1:=b1 wr hxr
   clear hq
   go_wp2_with fail
   refine (gaps_any a s A cap xs _ (by omega) (HL.out.ext hxr)).mono ?_
   rintro e W8 ⟨ys,hg,h8⟩
   obtain ⟨A8,cap8,rfl,hj8,hx8⟩:=h8.open
   have HJ:=zH hj8
   have hys:=gaps_len hg
   have HG:=zH (ledR_of (fs:=fs) HR.out hg)
   replace hxr:=hxr.trans hx8
   clear hj8 hx8 h8 c0 c1
   go_wp2_with fail
   refine (equal_any A8 A2 cap8 cap2 ys fs W8 (by omega) (by omega) HJ.out (HF.out.ext hxr)).mono ?_
   rintro e W9 ⟨rfl,hx9⟩
   replace hxr:=hxr.trans hx9
   go_wp2_with fail
   go_ret
   exact ⟨ret_bool (by rw [HG.out]),hW.trans hxr⟩
  obtain ⟨lb,off,rfl,hc⟩:=HL.out.get (by omega)
  have HC:=zH hc
  obtain ⟨e1,e2⟩:=spans_cell hc hlt
  have HN1:=zH (fun h=>led_no1 (a:=a) (s:=s) hlt h)
  have HP:=zH (fun h1 h2=>hq.out.step h1 h2)
  have ib1:(k:Int) < (xs.length:Int):=by omega
  have c1:=hxr.cell e1
  have c2:=hxr.cell e2
  clear e1 e2 hc HL HF
  rcases k with _ | m
  ·generalize xs.getD 0 (0,0)=x at*
   obtain ⟨x1,x2⟩:=x
   simp only [Nat.zero_mul,Nat.add_zero]at c1 c2
   have hz0:Ext wr (wr.alloc (.cells #[.int .i64 x1,.int .i64 x2] 62)):=(Ext.refl wr).alloc _
   have n0:=boxed wr #[.int .i64 x1,.int .i64 x2] 62 0 (.int .i64 x1) rfl
   have n1:=boxed wr #[.int .i64 x1,.int .i64 x2] 62 1 (.int .i64 x2) rfl
   clear hq HC
   cases hb:withinB x1 x2 a s
   all_goals
    go_wp2_with fail
    generalize wr.alloc (.cells #[.int .i64 x1,.int .i64 x2] 62)=Wn at*
    generalize wr.heap.size=H at*
    have l1:=fun u:ExtOf Wn=>n0 u.1 u.2
    have l2:=fun u:ExtOf Wn=>n1 u.1 u.2
    have m1:=fun u:ExtOf Wn=>b0 u.1 (hxr.trans (hz0.trans u.2))
    have m2:=fun u:ExtOf Wn=>b1 u.1 (hxr.trans (hz0.trans u.2))
    have hs0:Ext Wn Wn:=Ext.refl Wn
    (refine wp_region_ext (W:=Wn) (by kernel_rfl) (by kernel_rfl) (by with_reducible assumption) ?_;(repeat (go_big_quiet_step (first | (go_at_call 68;with_reducible exact Calls.ext_of (within_is x1 x2 a s _ hb _)))));refine wpQuiet_nil ?_;intro w1 hx)
    go_wp2_with fail
   ·go_ret
    exact ⟨ret_bool (by rw [ledR_no (HN1.out hb)]),hW.trans (hxr.trans (hz0.trans hx))⟩
   ·go_roundw
    case rel=>exact ⟨0+1,by omega,by go_num,hxr.trans (hz0.trans hx),zH (HP.out hb (by omega))⟩
    case measure=>simp [intOf];omega
  ·have hq1:=within_may (hq.out m (by omega)).1
   obtain ⟨e3,e4⟩:=spans_cell HC.out (show m < xs.length by omega)
   have c3:=hxr.cell e3
   have c4:=hxr.cell e4
   have HN2:=zH (fun h=>led_no2 (a:=a) (s:=s) (xs:=xs) (j:=m) hlt h)
   have HP2:=zH (fun h1 (h2:(xs.getD m (0,0)).1+(xs.getD m (0,0)).2≤(xs.getD (m+1) (0,0)).1)=>HP.out h1 (fun j (hj:j+1=m+1)=>(show j=m by omega) ▸ h2))
   clear e3 e4 hq HC HP
   generalize xs.getD (m+1) (0,0)=x at*
   generalize xs.getD m (0,0)=y at*
   obtain ⟨x1,x2⟩:=x
   obtain ⟨c,d⟩:=y
   simp only at c1 c2 c3 c4 hq1
   obtain ⟨q1,q2,q3,q4⟩:=may_bd hq1
   have hcast:((m+1:Nat):Int)=(m:Int)+1:=by omega
   rw [hcast]
   rw [hcast]at ib1
   clear hcast hq1
   have hp:decide ((0:Int) < (m:Int)+1)=true:=by simp;try omega
   have s1:IntKind.i64.wrap ((m:Int)+1 - 1)=(m:Int):=by rw [show (m:Int)+1 - 1=(m:Int)from by omega];exact IntWalk.i64_in _ (by omega)
   have ib2:(m:Int) < (xs.length:Int):=by omega
   have ib3:(0:Int)≤(m:Int):=by omega
   have hz0:Ext wr (wr.alloc (.cells #[.int .i64 x1,.int .i64 x2] 62)):=(Ext.refl wr).alloc _
   have n0:=boxed wr #[.int .i64 x1,.int .i64 x2] 62 0 (.int .i64 x1) rfl
   have n1:=boxed wr #[.int .i64 x1,.int .i64 x2] 62 1 (.int .i64 x2) rfl
   obtain ⟨t,ht⟩:∃t,decide (x1 < c+d)=t:=⟨_,rfl⟩
   have HT:=zH ht
   have C3:=zH c3
   have C4:=zH c4
   clear c3 c4
   cases hb:withinB x1 x2 a s
   all_goals cases t
   all_goals
    go_wp2_with fail
    generalize wr.alloc (.cells #[.int .i64 x1,.int .i64 x2] 62)=Wn at*
    generalize wr.heap.size=H at*
    have l1:=fun u:ExtOf Wn=>n0 u.1 u.2
    have l2:=fun u:ExtOf Wn=>n1 u.1 u.2
    have m1:=fun u:ExtOf Wn=>b0 u.1 (hxr.trans (hz0.trans u.2))
    have m2:=fun u:ExtOf Wn=>b1 u.1 (hxr.trans (hz0.trans u.2))
    have l3:=fun u:ExtOf Wn=>(hz0.trans u.2).cell C3.out
    have l4:=fun u:ExtOf Wn=>(hz0.trans u.2).cell C4.out
    have hs0:Ext Wn Wn:=Ext.refl Wn
    (refine wp_region_ext (W:=Wn) (by kernel_rfl) (by kernel_rfl) (by with_reducible assumption) ?_;(repeat (go_big_quiet_step (first | (go_at_call 68;with_reducible exact Calls.ext_of (within_is x1 x2 a s _ hb _)))));refine wpQuiet_nil ?_;intro w1 hx)
    go_wp2_with fail
   ·go_ret
    exact ⟨ret_bool (by rw [ledR_no (HN1.out hb)]),hW.trans (hxr.trans (hz0.trans hx))⟩
   ·go_ret
    exact ⟨ret_bool (by rw [ledR_no (HN1.out hb)]),hW.trans (hxr.trans (hz0.trans hx))⟩
   ·go_roundw
    case rel=>exact ⟨m+1+1,by omega,by go_num,hxr.trans (hz0.trans hx),zH (HP2.out hb (by have:=HT.out;simpa using this))⟩
    case measure=>simp [intOf];omega
   ·go_ret
    exact ⟨ret_bool (by rw [ledR_no (HN2.out (by have:=HT.out;simpa using this))]),hW.trans (hxr.trans (hz0.trans hx))⟩
end Go.Proofs.Ytemmjmplhknemaa
namespace Go.Proofs.Ytemmjmplhknemaa
open Go.RowKit
theorem gaps_new {a s:Int} (h:mayB a s=true):GapsOf a s [] [(a,s)]:=by
 have hb:=may_bd h
 refine ⟨by simp;omega,by simp,fun p=> ?_⟩
 simp only [LeftB,coveredB,hasB,h,InS]
 simp
theorem gaps_new0 {a s:Int} (h:mayB a s=false):GapsOf a s [] []:=by
 refine ⟨by simp,by simp,fun p=> ?_⟩
 simp [LeftB,coveredB,hasB,h]
theorem led_nil (a s:Int):ledB a s []=true:=by
 simp [ledB,chainB]
end Go.Proofs.Ytemmjmplhknemaa
