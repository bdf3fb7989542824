/- Merged by program (merge.py) out of: Rts, StQ. -/
import Derived.Test.YtemmjmplhknemaaMp7
import Derived.Test.YtemmjmplhknemaaMp2
set_option linter.unusedSimpArgs false
set_option linter.unusedVariables false
set_option maxRecDepth 100000
set_option maxHeartbeats 16000000
namespace Go.Proofs.Ytemmjmplhknemaa
open Go.RowKit Go.Shelf
def goodB (g:Int):Bool:=decide (0≤g∧g < 1099511627776)
def slotB (x:Bool×Int×Int):Bool:=decide (decE x.2.2=0) && (goodB x.2.1 || (!x.1 && (x.2.1==1099511627776))) && (x.1 || (x.2.2==0))
def slotsB (l:List (Bool×Int×Int)) (n:Int):Bool:=l.all slotB && decide ((l.length:Int)=n∧1≤n∧n≤1024)
theorem dec_is (v t x er:Int) (h1:decT v=t) (h2:decX v=x) (h3:decE v=er) (w:World) (h0:0≤v∧v < 18446744073709551616):
  Calls Try.prog 70 #[.int .u64 v] w fun e w'=>e= .returned (.tuple #[.agg #[.int .i64 t,.int .i64 x],.int .i64 er])∧Ext w w':=by
 have:=dec_any v w h0.1 h0.2
 rwa [h1,h2,h3]at this
theorem good_is (b:Bool) (g z:Int) (r:Bool) (h:goodB g=r) (V:World):Calls Try.prog 71 #[.agg #[.bool b,.int .i64 g,.int .u64 z]] V fun e w'=>e= .returned (.bool r)∧Ext V w':=by
 subst h
 by_cases h0:g < 0
 ·have d0:decide (0≤g)=false:=by simpa using h0
  have HR:Hid (goodB g=false):=zH (by simp [goodB];omega)
  clear h0
  go_enter Try.func71,Try.ntmps71
  go_wp2_with fail
  go_ret
  exact ⟨ret_bool HR.out.symm,(Ext.refl V).alloc _⟩
 have d0:decide (0≤g)=true:=by simpa using h0
 by_cases h1:g < 1099511627776
 ·have d1:decide (g < 1099511627776)=true:=by simpa using h1
  have HR:Hid (goodB g=true):=zH (by simp [goodB];omega)
  clear h0 h1
  go_enter Try.func71,Try.ntmps71
  go_wp2_with fail
  go_ret
  exact ⟨ret_bool HR.out.symm,(Ext.refl V).alloc _⟩
 ·have d1:decide (g < 1099511627776)=false:=by simpa using h1
  have HR:Hid (goodB g=false):=zH (by simp [goodB];omega)
  clear h0 h1
  go_enter Try.func71,Try.ntmps71
  go_wp2_with fail
  go_ret
  exact ⟨ret_bool HR.out.symm,(Ext.refl V).alloc _⟩
theorem rtright_any (A:Option Addr) (cap:Nat) (sl:List (Bool×Int×Int)) (n:Int) (V:World) (hl:SlotsAt V A sl) (hlen:sl.length≤9223372036854775807) (hbd:∀x∈sl,0≤x.2.2∧x.2.2 < 18446744073709551616):
  Calls Try.prog 58 #[.slice A sl.length cap,.int .i64 n] V fun e w'=>e= .returned (.bool (slotsB sl n))∧Ext V w':=by
 have HL:=pers_row hl
 have HBD:=zH hbd
 clear hl hbd
 go_enter Try.func58,Try.ntmps58
 go_wp2_with fail
 go_loopw [6,7,8,9,12] (fun _ _ _ _ i wr=>∃k:Nat,k≤sl.length∧i= .int .i64 k∧Ext V wr∧Hid (∀i,i < k→slotB (sl.getD i (false,0,0))=true)) (fun _ _ _ _ i _=>sl.length - (intOf i).toNat)
 case atStart=>exact ⟨0,by omega,rfl,Ext.refl _,zH (by omega)⟩
 case round=>
  obtain ⟨k,hk,rfl,hxr,hq⟩:=hrel
  by_cases hlt:k < sl.length
  rotate_left
  ·have HA:Hid (sl.all slotB=true):=zH (all_ofD fun i hi=>hq.out i (by omega))
   clear hq
   by_cases h1:(sl.length:Int)=n
   rotate_left
   ·have q1:((sl.length:Int)==n)=false:=by rw [beq_eq_false_iff_ne];exact h1
    have HR:Hid (slotsB sl n=false):=zH (by simp [slotsB];omega)
    clear h1
    go_wp2_with fail
    go_ret
    exact ⟨ret_bool HR.out.symm,hxr⟩
   have q1:((sl.length:Int)==n)=true:=by rw [beq_iff_eq];exact h1
   by_cases h2:n < 1
   ·have q2:decide (1≤n)=false:=by simp;omega
    have HR:Hid (slotsB sl n=false):=zH (by simp [slotsB];omega)
    clear h1 h2
    go_wp2_with fail
    go_ret
    exact ⟨ret_bool HR.out.symm,hxr⟩
   have q2:decide (1≤n)=true:=by simp;omega
   by_cases h3:1024 < n
   ·have q3:decide (n≤1024)=false:=by simpa using h3
    have HR:Hid (slotsB sl n=false):=zH (by simp [slotsB];omega)
    clear h1 h2 h3
    go_wp2_with fail
    go_ret
    exact ⟨ret_bool HR.out.symm,hxr⟩
   ·have q3:decide (n≤1024)=true:=by simpa using h3
    have HR:Hid (slotsB sl n=true):=zH (by simp only [slotsB,HA.out,Bool.true_and,decide_eq_true_eq];omega)
    clear h1 h2 h3
    go_wp2_with fail
    go_ret
    exact ⟨ret_bool HR.out.symm,hxr⟩
  obtain ⟨lb,off,rfl,hc⟩:=(HL.at hxr).get (by omega)
  obtain ⟨c1,c2,c3⟩:=slots_cell hc hlt
  have ib1:(k:Int) < (sl.length:Int):=by omega
  have hzb:=HBD.out _ (getD_mem (d:=(false,0,0)) hlt)
  have HY:=zH (fun (h:slotB (sl.getD k (false,0,0))=true)=>upTo hq.out h)
  have HNO:=zH (fun (h:slotB (sl.getD k (false,0,0))=false)=>(by rw [slotsB,all_notD hlt h];rfl:slotsB sl n=false))
  have HX:=zH hxr
  clear hc HL HBD hq
  generalize sl.getD k (false,0,0)=x at*
  obtain ⟨b,g,z⟩:=x
  simp only at c1 c2 c3 hzb
  obtain ⟨t,ht⟩:∃t,decT z=t:=⟨_,rfl⟩
  obtain ⟨x,hx⟩:∃t,decX z=t:=⟨_,rfl⟩
  obtain ⟨er,her⟩:∃t,decE z=t:=⟨_,rfl⟩
  obtain ⟨gd,hgd⟩:∃t,goodB g=t:=⟨_,rfl⟩
  obtain ⟨m,hm⟩:∃t,(g==1099511627776)=t:=⟨_,rfl⟩
  obtain ⟨y,hy⟩:∃t,(z==0)=t:=⟨_,rfl⟩
  have HSB:Hid (slotB (b,g,z)=(decide (er=0) && (gd || (!b && m)) && (b || y))):=zH (by simp only [slotB,her,hgd,hm,hy])
  have hy2:(z !=0)= !y:=by rw [←hy];rfl
  have HT:=zH ht
  have HXX:=zH hx
  have HE:=zH her
  have HG:=zH hgd
  clear ht hx her hgd hxr
  have HB:=pers_new wr #[.bool b,.int .i64 g,.int .u64 z] 56 _ rfl
  have hxb:=(Ext.refl wr).alloc (.cells #[.bool b,.int .i64 g,.int .u64 z] 56)
  replace HX:=zH (HX.out.trans hxb)
  clear hxb
  go_wp2_with fail
  generalize wr.alloc (.cells #[.bool b,.int .i64 g,.int .u64 z] 56)=W at*
  generalize wr.heap.size=X at*
  have g1:=HB.cells
  have g2:=HB.lt
  (refine (dec_is z t x er HT.out HXX.out HE.out _ hzb).mono ?_;rintro e W1 ⟨rfl,hx⟩;replace hx:=Ext.trans (a:=W) zE hx;replace HB:=HB.re hx)
  clear c1 c2 c3 g1 g2 ib1
  have g1:=HB.cells
  have g2:=HB.lt
  replace HX:=zH (HX.out.trans hx)
  clear hx
  by_cases h0:er=0
  rotate_left
  ·have q0:(er !=0)=true:=by rw [bne_iff_ne];exact h0
   have HR:=zH (HNO.out (by rw [HSB.out,decide_eq_false h0];rfl))
   clear h0 hy hy2
   cases b <;>cases m
   all_goals
    ((first | refine at_baseC (W:=W1) ?_ | refine at_base (W:=W1) ?_);intro uq;(try go_wp2_with fail))
    go_ret
    exact ⟨ret_bool HR.out.symm,(HX.out.trans uq.2).alloc _⟩
  subst h0
  cases b <;>cases m <;>cases gd <;>cases y
  all_goals
   simp only [Bool.not_true,Bool.not_false]at hy2
   ((first | refine at_baseC (W:=W1) ?_ | refine at_base (W:=W1) ?_);intro uq;(try go_wp2_with fail))
   (refine (good_is _ g z _ HG.out _).mono ?_;rintro e wq ⟨rfl,hx⟩;replace hx:=Ext.trans (a:=W1) zE hx;obtain ⟨uq,rfl⟩:∃u:ExtOf W1,wq=u.1:=⟨⟨wq,hx⟩,rfl⟩;clear hx;go_wp2_with fail)
   first
    | (go_ret
       exact ⟨ret_bool (HNO.out (by rw [HSB.out];rfl)).symm,(HX.out.trans uq.2)⟩)
    | (go_roundw
       case rel=>exact ⟨k+1,by omega,by go_num,HX.out.trans uq.2,zH (HY.out (by rw [HSB.out];rfl))⟩
       case measure=>simp [intOf];omega)
theorem made_slots (n:Nat):(List.replicate n ((false,0,0):Bool×Int×Int)).flatMap slotC=(madeCells #[Value.bool false,.int .i64 0,.int .u64 0] (n*3)).toList:=by
 induction n with
 | zero=>simp [madeCells]
 | succ n ih=>
  rw [List.replicate_succ',List.flatMap_append,ih,show (n+1)*3=n*3+1+1+1 by omega]
  simp only [madeCells,Array.toList_map,Array.toList_range,List.range_succ,List.map_append,List.map_cons,List.map_nil,List.append_assoc]
  congr 1
  have h0:n*3 % 3=0:=by omega
  have h1:(n*3+1) % 3=1:=by omega
  have h2:(n*3+1+1) % 3=2:=by omega
  have hs:(#[Value.bool false,.int .i64 0,.int .u64 0]:Array Value).size=3:=rfl
  rw [hs,h0,h1,h2]
  rfl
theorem wpList_makeSl {ops:Array Oper} {rest:List Oper} {o:Oper} {a:Act} {w:World} {Q:Exit→Act→World→Prop} (hg:o.guard=none) (l:Operand) (hop:o.op=Op.makeSlice 26 l l) (n:Nat) (hl:a.eval l= .int .i64 (n:Int)) (hn:n≤4000000000000)
  (hK:∀w',Own 56 3 slotC w' w.heap.size (.slice (some ⟨w.heap.size,0,none⟩) n n) (List.replicate n ((false,0,0):Bool×Int×Int))→Ext w w'→wpList Try.prog ops Q rest (a.put o.dst (.slice (some ⟨w.heap.size,0,none⟩) n n)) w'):wpList Try.prog ops Q (o::rest) a w:=by
 obtain ⟨i,hi,hz0,hz1,hz2⟩:=info_parts slotInfo0
 refine wpList_make_full w hg l l 26 hop w.heap.size 56 i (.agg #[.bool false,.int .i64 0,.int .u64 0]) 3 Try.underlying26 hi hz0 hz1 .i64 .i64 n n n hl hl rfl rfl (by rw [hz2];omega) (by unfold maxLen;omega) (Nat.le_refl _) ?_
 intro w' ho hgr
 refine hK w' ?_ ⟨hgr.os,hgr.tape,hgr.output,hgr.size,fun k hk=>hgr.block k hk (by simp)⟩
 unfold Own
 rw [made_slots,List.length_replicate]
 exact ho
theorem rnew_any (m:Nat) (h0:1≤m) (h1:m≤1024) (V:World):
  Calls Try.prog 28 #[.int .i64 m] V fun e w'=>e= .returned (.tuple #[.slice (some ⟨V.heap.size,0,none⟩) m m,.int .i64 0])∧Own 56 3 slotC w' V.heap.size (.slice (some ⟨V.heap.size,0,none⟩) m m) (List.replicate m ((false,0,0):Bool×Int×Int))∧Ext V w':=by
 have d1:decide ((m:Int) < 1)=false:=by simp;omega
 have d2:decide ((1024:Int) < (m:Int))=false:=by simp;omega
 have HM:Hid (m≤1024):=zH h1
 clear h0 h1
 go_enter Try.func28,Try.ntmps28
 go_wp2_with (refine wpList_makeSl rfl (.tmp 10) rfl m rfl (by have:=HM.out;omega) ?_;intro w1 hown hx;have HO:=zH hown;have HX:=zH hx;clear hown hx)
 go_ret2
 exact ⟨rfl,HO.out,HX.out⟩
end Go.Proofs.Ytemmjmplhknemaa
