/- Merged by program (merge.py) out of: Rts, StQ, GraH, GraI. -/
import Derived.Test.YtphpppjfogpohaaGreatMq0
import Derived.Test.YtphpppjfogpohaaGreatMq7
import Derived.Test.YtphpppjfogpohaaGreatMq2
import Derived.Test.YtphpppjfogpohaaGreatMq11
set_option linter.unusedSimpArgs false
set_option linter.unusedVariables false
set_option maxRecDepth 100000
set_option maxHeartbeats 16000000
namespace Go.Proofs.YtphpppjfogpohaaGreat
open Go.RowKit Go.Shelf
def dG (g:Int):Bool:=decide (0≤g∧g < 1099511627776)
def fj (x:Bool×Int×Int):Bool:=decide (decE x.2.2=0) && (dG x.2.1 || (!x.1 && (x.2.1==1099511627776))) && (x.1 || (x.2.2==0))
def bQ (l:List (Bool×Int×Int)) (n:Int):Bool:=l.all fj && decide ((l.length:Int)=n∧1≤n∧n≤1024)
theorem vw (v t x er:Int) (h1:decT v=t) (h2:decX v=x) (h3:decE v=er) (w:World) (h0:0≤v∧v < 18446744073709551616):
  Calls Tryz.prog 59 #[.int .u64 v] w fun e w'=>e= .returned (.tuple #[.agg #[.int .i64 t,.int .i64 x],.int .i64 er])∧Ext w w':=by
 have:=oI v w h0.1 h0.2
 rwa [h1,h2,h3]at this
theorem yD (b:Bool) (g z:Int) (r:Bool) (h:dG g=r) (V:World):Calls Tryz.prog 208 #[.agg #[.bool b,.int .i64 g,.int .u64 z]] V fun e w'=>e= .returned (.bool r)∧Ext V w':=by
 subst h
 by_cases h0:g < 0
 ·have d0:decide (0≤g)=false:=by simpa using h0
  have HR:Hid (dG g=false):=zH (by simp [dG];omega)
  clear h0
  go_enter Tryz.func208,Tryz.ntmps208
  go_wp2_with fail
  go_ret
  exact ⟨aD HR.out.symm,(AD V).alloc _⟩
 have d0:decide (0≤g)=true:=by simpa using h0
 by_cases h1:g < 1099511627776
 ·have d1:decide (g < 1099511627776)=true:=by simpa using h1
  have HR:Hid (dG g=true):=zH (by simp [dG];omega)
  clear h0 h1
  go_enter Tryz.func208,Tryz.ntmps208
  go_wp2_with fail
  go_ret
  exact ⟨aD HR.out.symm,(AD V).alloc _⟩
 ·have d1:decide (g < 1099511627776)=false:=by simpa using h1
  have HR:Hid (dG g=false):=zH (by simp [dG];omega)
  clear h0 h1
  go_enter Tryz.func208,Tryz.ntmps208
  go_wp2_with fail
  go_ret
  exact ⟨aD HR.out.symm,(AD V).alloc _⟩
theorem pk (A:Option Addr) (cap:Nat) (sl:List (Bool×Int×Int)) (n:Int) (V:World) (hl:SlotsAt V A sl) (hlen:sl.length≤9223372036854775807) (hbd:∀x∈sl,0≤x.2.2∧x.2.2 < 18446744073709551616):
  Calls Tryz.prog 175 #[.slice A sl.length cap,.int .i64 n] V fun e w'=>e= .returned (.bool (bQ sl n))∧Ext V w':=by
 have HL:=af hl
 have HBD:=zH hbd
 clear hl hbd
 go_enter Tryz.func175,Tryz.ntmps175
 go_wp2_with fail
 go_loopw [6,7,8,9,12] (fun _ _ _ _ i wr=>∃k:Nat,k≤sl.length∧i= .int .i64 k∧Ext V wr∧Hid (∀i,i < k→fj (sl.getD i (false,0,0))=true)) (fun _ _ _ _ i _=>sl.length - (intOf i).toNat)
 case atStart=>exact ⟨0,by omega,rfl,AD _,zH oM⟩
 case round=>
  obtain ⟨k,hk,rfl,hxr,hq⟩:=hrel
  by_cases hlt:k < sl.length
  rotate_left
  ·have HA:Hid (sl.all fj=true):=zH (d9 fun i hi=>hq.out i oM)
   clear hq
   by_cases h1:(sl.length:Int)=n
   rotate_left
   ·have q1:((sl.length:Int)==n)=false:=by rw [beq_eq_false_iff_ne];exact h1
    have HR:Hid (bQ sl n=false):=zH (by simp [bQ];omega)
    clear h1
    go_wp2_with fail
    go_ret
    exact ⟨aD HR.out.symm,hxr⟩
   have q1:((sl.length:Int)==n)=true:=by rw [beq_iff_eq];exact h1
   by_cases h2:n < 1
   ·have q2:decide (1≤n)=false:=by simp;omega
    have HR:Hid (bQ sl n=false):=zH (by simp [bQ];omega)
    clear h1 h2
    go_wp2_with fail
    go_ret
    exact ⟨aD HR.out.symm,hxr⟩
   have q2:decide (1≤n)=true:=by simp;omega
   by_cases h3:1024 < n
   ·have q3:decide (n≤1024)=false:=by simpa using h3
    have HR:Hid (bQ sl n=false):=zH (by simp [bQ];omega)
    clear h1 h2 h3
    go_wp2_with fail
    go_ret
    exact ⟨aD HR.out.symm,hxr⟩
   ·have q3:decide (n≤1024)=true:=by simpa using h3
    have HR:Hid (bQ sl n=true):=zH (by simp only [bQ,HA.out,Bool.true_and,decide_eq_true_eq];omega)
    clear h1 h2 h3
    go_wp2_with fail
    go_ret
    exact ⟨aD HR.out.symm,hxr⟩
  obtain ⟨lb,off,rfl,hc⟩:=(HL.at hxr).get oM
  obtain ⟨c1,c2,c3⟩:=dC hc hlt
  have ib1:(k:Int) < (sl.length:Int):=by omega
  have hzb:=HBD.out _ (aF (d:=(false,0,0)) hlt)
  have HY:=zH (fun (h:fj (sl.getD k (false,0,0))=true)=>upTo hq.out h)
  have HNO:=zH (fun (h:fj (sl.getD k (false,0,0))=false)=>(by rw [bQ,cg hlt h];rfl:bQ sl n=false))
  have HX:=zH hxr
  clear hc HL HBD hq
  generalize sl.getD k (false,0,0)=x at*
  obtain ⟨b,g,z⟩:=x
  simp only at c1 c2 c3 hzb
  obtain ⟨t,ht⟩:∃t,decT z=t:=⟨_,rfl⟩
  obtain ⟨x,hx⟩:∃t,decX z=t:=⟨_,rfl⟩
  obtain ⟨er,her⟩:∃t,decE z=t:=⟨_,rfl⟩
  obtain ⟨gd,hgd⟩:∃t,dG g=t:=⟨_,rfl⟩
  obtain ⟨m,hm⟩:∃t,(g==1099511627776)=t:=⟨_,rfl⟩
  obtain ⟨y,hy⟩:∃t,(z==0)=t:=⟨_,rfl⟩
  have HSB:Hid (fj (b,g,z)=(decide (er=0) && (gd || (!b && m)) && (b || y))):=zH (by simp only [fj,her,hgd,hm,hy])
  have hy2:(z !=0)= !y:=by rw [←hy];rfl
  have HT:=zH ht
  have HXX:=zH hx
  have HE:=zH her
  have HG:=zH hgd
  clear ht hx her hgd hxr
  have HB:=aG wr #[.bool b,.int .i64 g,.int .u64 z] 73 _ rfl
  have hxb:=(AD wr).alloc (.cells #[.bool b,.int .i64 g,.int .u64 z] 73)
  replace HX:=zH (HX.out.trans hxb)
  clear hxb
  go_wp2_with fail
  generalize wr.alloc (.cells #[.bool b,.int .i64 g,.int .u64 z] 73)=W at*
  generalize wr.heap.size=X at*
  have g1:=HB.cells
  have g2:=HB.lt
  (refine (vw z t x er HT.out HXX.out HE.out _ hzb).mono ?_;rintro e W1 ⟨rfl,hx⟩;replace hx:=AF (a:=W) zE hx;replace HB:=HB.re hx)
  clear c1 c2 c3 g1 g2 ib1
  have g1:=HB.cells
  have g2:=HB.lt
  replace HX:=zH (HX.out.trans hx)
  clear hx
  by_cases h0:er=0
  rotate_left
  ·have q0:(er !=0)=true:=by rw [bne_iff_ne];exact h0
   have HR:=zH (HNO.out (by rw [HSB.out,decide_eq_false h0];rfl))
   clear h0 hy hy2
   cases b <;>cases m
   all_goals
    ((first | refine aM (W:=W1) ?_ | refine aT (W:=W1) ?_);intro uq;(try go_wp2_with fail))
    go_ret
    exact ⟨aD HR.out.symm,(HX.out.trans uq.2).alloc _⟩
  subst h0
  cases b <;>cases m <;>cases gd <;>cases y
  all_goals
   simp only [Bool.not_true,Bool.not_false]at hy2
   ((first | refine aM (W:=W1) ?_ | refine aT (W:=W1) ?_);intro uq;(try go_wp2_with fail))
   (refine (yD _ g z _ HG.out _).mono ?_;rintro e wq ⟨rfl,hx⟩;replace hx:=AF (a:=W1) zE hx;obtain ⟨uq,rfl⟩:∃u:ExtOf W1,wq=u.1:=⟨⟨wq,hx⟩,rfl⟩;clear hx;go_wp2_with fail)
   first
    | (go_ret
       exact ⟨aD (HNO.out (by rw [HSB.out];rfl)).symm,(HX.out.trans uq.2)⟩)
    | (go_roundw
       case rel=>exact ⟨k+1,by omega,by go_num,HX.out.trans uq.2,zH (HY.out (by rw [HSB.out];rfl))⟩
       case measure=>simp [intOf];omega)
theorem ri (n:Nat):(List.replicate n ((false,0,0):Bool×Int×Int)).flatMap fN=(madeCells #[Value.bool false,.int .i64 0,.int .u64 0] (n*3)).toList:=by
 induction n with
 | zero=>simp [madeCells]
 | succ n ih=>
  rw [List.replicate_succ',List.flatMap_append,ih,show (n+1)*3=n*3+1+1+1 by omega]
  simp only [madeCells,Array.toList_map,Array.toList_range,List.range_succ,List.map_append,List.map_cons,List.map_nil,List.append_assoc]
  congr 1
  have h0:n*3 % 3=0:=by omega
  have h1:(n*3+1) % 3=1:=by omega
  have h2:(n*3+1+1) % 3=2:=by omega
  have hs:(#[Value.bool false,.int .i64 0,.int .u64 0]:Array Value).size=3:=rfl
  rw [hs,h0,h1,h2]
  rfl
theorem mU {ops:Array Oper} {rest:List Oper} {o:Oper} {a:Act} {w:World} {Q:Exit→Act→World→Prop} (hg:o.guard=none) (l:Operand) (hop:o.op=Op.makeSlice 32 l l) (n:Nat) (hl:a.eval l= .int .i64 (n:Int)) (hn:n≤4000000000000)
  (hK:∀w',Own 73 3 fN w' w.heap.size (.slice (some ⟨w.heap.size,0,none⟩) n n) (List.replicate n ((false,0,0):Bool×Int×Int))→Ext w w'→wpList Tryz.prog ops Q rest (a.put o.dst (.slice (some ⟨w.heap.size,0,none⟩) n n)) w'):wpList Tryz.prog ops Q (o::rest) a w:=by
 obtain ⟨i,hi,hz0,hz1,hz2⟩:=info_parts mi
 refine wpList_make_full w hg l l 32 hop w.heap.size 73 i (.agg #[.bool false,.int .i64 0,.int .u64 0]) 3 Tryz.underlying32 hi hz0 hz1 .i64 .i64 n n n hl hl rfl rfl (by rw [hz2];omega) (by unfold maxLen;omega) (Nat.le_refl _) ?_
 intro w' ho hgr
 refine hK w' ?_ ⟨hgr.os,hgr.tape,hgr.output,hgr.size,fun k hk=>hgr.block k hk sM⟩
 unfold Own
 rw [ri,List.length_replicate]
 exact ho
theorem po (m:Nat) (h0:1≤m) (h1:m≤1024) (V:World):
  Calls Tryz.prog 91 #[.int .i64 m] V fun e w'=>e= .returned (.tuple #[.slice (some ⟨V.heap.size,0,none⟩) m m,.int .i64 0])∧Own 73 3 fN w' V.heap.size (.slice (some ⟨V.heap.size,0,none⟩) m m) (List.replicate m ((false,0,0):Bool×Int×Int))∧Ext V w':=by
 have d1:decide ((m:Int) < 1)=false:=by simp;omega
 have d2:decide ((1024:Int) < (m:Int))=false:=by simp;omega
 have HM:Hid (m≤1024):=zH h1
 clear h0 h1
 go_enter Tryz.func91,Tryz.ntmps91
 go_wp2_with (refine mU rfl (.tmp 10) rfl m rfl (by have:=HM.out;omega) ?_;intro w1 hown hx;have HO:=zH hown;have HX:=zH hx;clear hown hx)
 go_ret2
 exact ⟨rfl,HO.out,HX.out⟩
def okV (n:Nat) (x:Int×Int):Bool:=cu x.1 x.2 && (decide (x.1≠2) || decide (x.2 < n))
theorem vy {n:Nat} {k x:Int} (h:cu k x=false):okV n (k,x)=false:=by simp [okV,h]
theorem kK {n:Nat} {k x:Int} (h:cu k x=true) (hk:k≠2):okV n (k,x)=true:=by simp [okV,h,hk]
theorem kL {n:Nat} {x:Int} (h:cu 2 x=true):okV n (2,x)=decide (x < n):=by simp [okV,h]
theorem uB (G:GraphD) (k x:Int) (V:World) (hn:G.ns.length≤9223372036854775807):
  Calls Tryz.prog 78 #[.agg #[.slice G.nA G.ns.length G.ncap,.slice G.rA G.rs.length G.rcap],.agg #[.int .i64 k,.int .i64 x]] V fun e w'=>e= .returned (.bool (okV G.ns.length (k,x)))∧Ext V w':=by
 have hV:Ext V ((V.alloc (.cells #[.slice G.nA G.ns.length G.ncap,.slice G.rA G.rs.length G.rcap] 27)).alloc (.cells #[.int .i64 k,.int .i64 x] 71)):=((AD V).alloc _).alloc _
 have k0:=fun w' (h:Ext ((V.alloc (.cells #[.slice G.nA G.ns.length G.ncap,.slice G.rA G.rs.length G.rcap] 27)).alloc (.cells #[.int .i64 k,.int .i64 x] 71)) w')=>aa V #[.slice G.nA G.ns.length G.ncap,.slice G.rA G.rs.length G.rcap] 27 0 (.slice G.nA G.ns.length G.ncap) rfl w' (((AD _).alloc _).trans h)
 have k1:=fun w'=>aa (V.alloc (.cells #[.slice G.nA G.ns.length G.ncap,.slice G.rA G.rs.length G.rcap] 27)) #[.int .i64 k,.int .i64 x] 71 0 (.int .i64 k) rfl w'
 have k2:=fun w'=>aa (V.alloc (.cells #[.slice G.nA G.ns.length G.ncap,.slice G.rA G.rs.length G.rcap] 27)) #[.int .i64 k,.int .i64 x] 71 1 (.int .i64 x) rfl w'
 simp only [World.size_alloc]at k1 k2
 go_enter Tryz.func78,Tryz.ntmps78
 go_wp2_with fail
 generalize ((V.alloc (.cells #[.slice G.nA G.ns.length G.ncap,.slice G.rA G.rs.length G.rcap] 27)).alloc (.cells #[.int .i64 k,.int .i64 x] 71))=W at*
 obtain ⟨b,hb⟩:∃b,cu k x=b:=⟨_,rfl⟩
 cases b
 ·have HR:=zH (vy (n:=G.ns.length) hb)
  refine (vO k x 0 1 (oF hb).1 (oF hb).2 _).mono ?_
  rintro e w1 ⟨rfl,hx⟩
  have HX:=zH (hV.trans hx)
  clear hb
  go_wp2_with fail
  go_ret
  exact ⟨aD HR.out.symm,HX.out⟩
 ·refine (vO k x _ 0 rfl (by simp [encE,hb]) _).mono ?_
  rintro e w1 ⟨rfl,hx⟩
  have HX:=zH (hV.trans hx)
  have c0:=k0 w1 hx
  have c1:=k1 w1 hx
  have c2:=k2 w1 hx
  generalize encW k x=u at*
  clear k0 k1 k2 hx hV
  by_cases hk:k=2
  ·subst hk
   have HR:=zH (kL (n:=G.ns.length) hb)
   clear hb
   by_cases hx:x < G.ns.length
   ·have hd:decide (x < (G.ns.length:Int))=true:=by simpa using hx
    go_wp2_with fail
    go_ret
    exact ⟨aD (by rw [HR.out,hd]),HX.out⟩
   ·have hd:decide (x < (G.ns.length:Int))=false:=by simpa using hx
    go_wp2_with fail
    go_ret
    exact ⟨aD (by rw [HR.out,hd]),HX.out⟩
  ·have HR:=zH (kK (n:=G.ns.length) hb hk)
   have hd:(k !=2)=true:=by simpa using hk
   clear hb hk
   go_wp2_with fail
   go_ret
   exact ⟨aD HR.out.symm,HX.out⟩
theorem ix (G:GraphD) (A:Option Addr) (cap:Nat) (l:List (Int×Int)) (V:World) (hn:G.ns.length≤9223372036854775807) (hlen:l.length≤9223372036854775807) (hl:SpansAt V A l):
  Calls Tryz.prog 98 #[.agg #[.slice G.nA G.ns.length G.ncap,.slice G.rA G.rs.length G.rcap],.slice A l.length cap] V fun e w'=>e= .returned (.bool (l.all (okV G.ns.length)))∧Ext V w':=by
 have k0:=fun w'=>aa V #[.slice G.nA G.ns.length G.ncap,.slice G.rA G.rs.length G.rcap] 27 0 (.slice G.nA G.ns.length G.ncap) rfl w'
 have HL:=zH hl
 have hV:Ext V (V.alloc (.cells #[.slice G.nA G.ns.length G.ncap,.slice G.rA G.rs.length G.rcap] 27)):=(AD V).alloc _
 have HV:=zH hV
 clear hl hV
 go_enter Tryz.func98,Tryz.ntmps98
 go_wp2_with fail
 go_loopw [5] (fun i wr=>∃k:Nat,k≤l.length∧i= .int .i64 k∧Ext (V.alloc (.cells #[.slice G.nA G.ns.length G.ncap,.slice G.rA G.rs.length G.rcap] 27)) wr∧Hid (∀i,i < k→okV G.ns.length (l.getD i (0,0))=true)) (fun i _=>l.length - (intOf i).toNat)
 case atStart=>exact ⟨0,by omega,rfl,AD _,zH oM⟩
 case round=>
  obtain ⟨k,hk,rfl,hxr,hq⟩:=hrel
  by_cases hlt:k < l.length
  rotate_left
  ·have HR:=zH (d9 (p:=okV G.ns.length) (l:=l) (d:=(0,0)) (fun i hi=>hq.out i oM))
   clear hq
   go_wp2_with fail
   go_ret
   exact ⟨aD HR.out.symm,HV.out.trans hxr⟩
  obtain ⟨lb,off,rfl,hc⟩:=HL.out.get oM
  obtain ⟨f1,f2⟩:=aQ hc hlt
  have c1:=hxr.cell (HV.out.cell f1)
  have c2:=hxr.cell (HV.out.cell f2)
  have b0:=k0 _ hxr
  have HX:=zH hxr
  have HU:=zH (fun h=>upTo (p:=okV G.ns.length) (l:=l) (d:=(0,0)) hq.out h)
  have HF:=zH (fun h=>cg (p:=okV G.ns.length) (l:=l) (d:=(0,0)) hlt h)
  have ib1:(k:Int) < (l.length:Int):=by omega
  have ib0:(0:Int)≤(k:Int):=by omega
  have hs0:Ext wr wr:=AD wr
  clear hc f1 f2 hq HL k0 hxr
  generalize l.getD k (0,0)=y at*
  obtain ⟨p,q⟩:=y
  simp only at c1 c2
  have l0:∀u:ExtOf wr,u.1.cell? ⟨V.heap.size,0,none⟩=some (.slice G.nA G.ns.length G.ncap):=fun u=>u.2.cell b0
  have l1:∀u:ExtOf wr,u.1.cell? ⟨lb,off+k*2,none⟩=some (.int .i64 p):=fun u=>u.2.cell c1
  have l2:∀u:ExtOf wr,u.1.cell? ⟨lb,off+k*2+1,none⟩=some (.int .i64 q):=fun u=>u.2.cell c2
  obtain ⟨b,hb⟩:∃b,cu p q=b:=⟨_,rfl⟩
  have HB:=zH hb
  cases b
  ·have HR:=zH (HF.out (vy hb))
   clear hb HF HU
   go_wp2_with fail
   (refine aC (W:=wr) kR kR aS ?_;(repeat (go_big_quiet_step (first | (go_at_call 139;with_reducible exact AE (gO p q false HB.out _)))));refine wpQuiet_nil ?_;intro w1 hx)
   go_wp2_with fail
   go_ret
   exact ⟨aD HR.out.symm,HV.out.trans (HX.out.trans hx)⟩
  by_cases hk2:p=2
  ·subst hk2
   have HR:=zH (kL (n:=G.ns.length) hb)
   clear hb
   by_cases hx:q < G.ns.length
   ·have hd:decide (q < (G.ns.length:Int))=true:=by simpa using hx
    have hd2:decide ((G.ns.length:Int)≤q)=false:=by simpa using hx
    have HQ:=zH (HU.out (HR.out.trans hd))
    clear hx HF HU
    go_wp2_with fail
    (refine aC (W:=wr) kR kR aS ?_;(repeat (go_big_quiet_step (first | (go_at_call 139;with_reducible exact AE (gO 2 q true HB.out _)))));refine wpQuiet_nil ?_;intro w1 hx)
    go_wp2_with fail
    go_roundw
    case rel=>exact ⟨k+1,by omega,by go_num,HX.out.trans hx,HQ⟩
    case measure=>simp [intOf];omega
   ·have hd:decide (q < (G.ns.length:Int))=false:=by simpa using hx
    have hd2:decide ((G.ns.length:Int)≤q)=true:=by simpa using hx
    have HQ:=zH (HF.out (HR.out.trans hd))
    clear hx HF HU
    go_wp2_with fail
    (refine aC (W:=wr) kR kR aS ?_;(repeat (go_big_quiet_step (first | (go_at_call 139;with_reducible exact AE (gO 2 q true HB.out _)))));refine wpQuiet_nil ?_;intro w1 hx)
    go_wp2_with fail
    go_ret
    exact ⟨aD HQ.out.symm,HV.out.trans (HX.out.trans hx)⟩
  ·have HQ:=zH (HU.out (kK hb hk2))
   have hd:(p==2)=false:=by simpa using hk2
   clear hb HF HU hk2
   go_wp2_with fail
   (refine aC (W:=wr) kR kR aS ?_;(repeat (go_big_quiet_step (first | (go_at_call 139;with_reducible exact AE (gO p q true HB.out _)))));refine wpQuiet_nil ?_;intro w1 hx)
   go_wp2_with fail
   go_roundw
   case rel=>exact ⟨k+1,by omega,by go_num,HX.out.trans hx,HQ⟩
   case measure=>simp [intOf];omega
def okN (x:NodeD):Bool:=decide (0≤x.kind∧x.kind≤31∧x.fields.length≤4096∧x.raws.length≤4096)
def aV (G:GraphD):Bool:=G.ns.all (fun x=>okN x && x.fields.all (okV G.ns.length)) && G.rs.all (okV G.ns.length)
theorem pt (G:GraphD) (A:Option Addr) (cap:Nat) (l:List (Int×Int)) (b:Bool) (hb:l.all (okV G.ns.length)=b) (V:World) (hn:G.ns.length≤9223372036854775807) (hlen:l.length≤9223372036854775807) (hl:SpansAt V A l):
  Calls Tryz.prog 98 #[.agg #[.slice G.nA G.ns.length G.ncap,.slice G.rA G.rs.length G.rcap],.slice A l.length cap] V fun e w'=>e= .returned (.bool b)∧Ext V w':=by
 subst hb;exact ix G A cap l V hn hlen hl
theorem rj (nA:Option Addr) (ncap:Nat) (ns:List NodeD) (rA:Option Addr) (rcap:Nat) (rs:List (Int×Int)) (V:World) (hN:NodesAt V nA ns) (hR:SpansAt V rA rs) (hn:ns.length≤9223372036854775807) (hr:rs.length≤9223372036854775807) (hf:∀x∈ns,x.fields.length≤9223372036854775807):
  Calls Tryz.prog 47 #[.agg #[.slice nA ns.length ncap,.slice rA rs.length rcap]] V fun e w'=>e= .returned (.bool (aV ⟨nA,ncap,ns,rA,rcap,rs⟩))∧Ext V w':=by
 have k0:=fun w'=>aa V #[.slice nA ns.length ncap,.slice rA rs.length rcap] 27 0 (.slice nA ns.length ncap) rfl w'
 have k1:=fun w'=>aa V #[.slice nA ns.length ncap,.slice rA rs.length rcap] 27 1 (.slice rA rs.length rcap) rfl w'
 have HN':=zH hN
 have HR':=zH hR
 have HF:=zH hf
 have hV:Ext V (V.alloc (.cells #[.slice nA ns.length ncap,.slice rA rs.length rcap] 27)):=(AD V).alloc _
 have HV:=zH hV
 have HP:=zH (show ∀b,ns.all (fun x=>okN x && x.fields.all (okV ns.length))=b→aV ⟨nA,ncap,ns,rA,rcap,rs⟩=(b && rs.all (okV ns.length))from fun b h=>by unfold aV;rw [h])
 clear hN hR hV hf
 go_enter Tryz.func47,Tryz.ntmps47
 go_wp2_with fail
 go_loopw [3] (fun i wr=>∃k:Nat,k≤ns.length∧i= .int .i64 k∧Ext (V.alloc (.cells #[.slice nA ns.length ncap,.slice rA rs.length rcap] 27)) wr∧Hid (∀i,i < k→(okN (ns.getD i default) && (ns.getD i default).fields.all (okV ns.length))=true)) (fun i _=>ns.length - (intOf i).toNat)
 case atStart=>exact ⟨0,by omega,rfl,AD _,zH oM⟩
 case round=>
  obtain ⟨k,hk,rfl,hxr,hq⟩:=hrel
  have b0:=k0 _ hxr
  have b1:=k1 _ hxr
  by_cases hlt:k < ns.length
  rotate_left
  ·have HR:=zH (HP.out true (d9 (p:=fun x=>okN x && x.fields.all (okV ns.length)) (l:=ns) (d:=default) (fun i hi=>hq.out i oM)))
   clear hq HP
   go_wp2_with fail
   refine (ix ⟨nA,ncap,ns,rA,rcap,rs⟩ rA rcap rs _ hn hr (HR'.out.ext (HV.out.trans hxr))).mono ?_
   rintro e w1 ⟨rfl,hx⟩
   have HX:=zH (HV.out.trans (hxr.trans hx))
   go_wp2_with fail
   go_ret
   exact ⟨aD (by rw [HR.out];rfl),HX.out⟩
  obtain ⟨nb,noff,rfl,hcn⟩:=HN'.out.row.get oM
  obtain ⟨d0,d1,d2⟩:=ah hcn hlt
  have e0:=hxr.cell (HV.out.cell d0)
  have e1:=hxr.cell (HV.out.cell d1)
  have e2:=hxr.cell (HV.out.cell d2)
  have HX:=zH hxr
  have hsz:V.heap.size < wr.heap.size:=by have:=AG hxr;simp at this;omega
  have hfl:=HF.out _ (aF (d:=default) hlt)
  have HS:=zH (HN'.out.each _ (aF (d:=default) hlt)).fields
  have HU:=zH (fun h=>upTo (p:=fun x=>okN x && x.fields.all (okV ns.length)) (l:=ns) (d:=default) hq.out h)
  have HN:=zH (fun h=>(HP.out false (cg (p:=fun x=>okN x && x.fields.all (okV ns.length)) (l:=ns) (d:=default) hlt h)).trans (Bool.false_and _))
  have ib1:(k:Int) < (ns.length:Int):=by omega
  have ib0:(0:Int)≤(k:Int):=by omega
  clear hcn d0 d1 d2 k0 k1 hq HP HF
  generalize ns.getD k default=x at*
  have hkb:∀t,Ext (wr.alloc (.cells #[.int .i64 x.kind,.slice x.fA x.fields.length x.fcap,.slice x.rA x.raws.length x.rcap] 66)) t→Ext V t:=fun t ht=>HV.out.trans (HX.out.trans (((AD _).alloc _).trans ht))
  have HK:=zH hkb
  clear hkb
  by_cases h1:x.kind < 0
  ·have hd1:decide (x.kind < 0)=true:=by simpa using h1
   have HR:=zH (HN.out (by simp [okN];omega))
   clear HN HU h1
   go_wp2_with fail
   go_ret
   exact ⟨aD HR.out.symm,HK.out _ (AD _)⟩
  have hd1:decide (x.kind < 0)=false:=by simpa using h1
  by_cases h2:31 < x.kind
  ·have hd2:decide (31 < x.kind)=true:=by simpa using h2
   have HR:=zH (HN.out (by simp [okN];omega))
   clear HN HU h1 h2
   go_wp2_with fail
   go_ret
   exact ⟨aD HR.out.symm,HK.out _ (AD _)⟩
  have hd2:decide (31 < x.kind)=false:=by simpa using h2
  by_cases h3:4096 < x.fields.length
  ·have hd3:decide ((4096:Int) < (x.fields.length:Int))=true:=by simp;omega
   have HR:=zH (HN.out (by simp [okN];omega))
   clear HN HU h1 h2
   go_wp2_with fail
   go_ret
   exact ⟨aD HR.out.symm,HK.out _ (AD _)⟩
  have hd3:decide ((4096:Int) < (x.fields.length:Int))=false:=by simp;omega
  by_cases h4:4096 < x.raws.length
  ·have hd4:decide ((4096:Int) < (x.raws.length:Int))=true:=by simp;omega
   have HR:=zH (HN.out (by simp [okN];omega))
   clear HN HU h1 h2
   go_wp2_with fail
   go_ret
   exact ⟨aD HR.out.symm,HK.out _ (AD _)⟩
  have hd4:decide ((4096:Int) < (x.raws.length:Int))=false:=by simp;omega
  obtain ⟨b,hb⟩:∃b,x.fields.all (okV ns.length)=b:=⟨_,rfl⟩
  have HB:=zH hb
  have hok:okN x=true:=by simp [okN];omega
  go_wp2_with fail
  refine (pt ⟨some ⟨nb,noff,none⟩,ncap,ns,rA,rcap,rs⟩ x.fA x.fcap x.fields b HB.out _ hn hfl (HS.out.ext (HK.out _ (AD _)))).mono ?_
  rintro e w1 ⟨rfl,hx⟩
  cases b
  ·have HR:=zH (HN.out (by simp only [hok,hb];rfl))
   clear hb HN HU h1 h2 hok
   go_wp2_with fail
   go_ret
   exact ⟨aD HR.out.symm,HK.out _ hx⟩
  ·have HR:=zH (HU.out (by simp only [hok,hb];rfl))
   clear hb HN HU h1 h2 hok
   go_wp2_with fail
   go_roundw
   case rel=>exact ⟨k+1,by omega,by go_num,HX.out.trans (((AD _).alloc _).trans hx),HR⟩
   case measure=>simp [intOf];omega
theorem mV (G:GraphD) (V:World) (hG:GraphAt V G) (hn:G.ns.length≤9223372036854775807) (hr:G.rs.length≤9223372036854775807) (hf:∀x∈G.ns,x.fields.length≤9223372036854775807):
  Calls Tryz.prog 47 #[.agg #[.slice G.nA G.ns.length G.ncap,.slice G.rA G.rs.length G.rcap]] V fun e w'=>e= .returned (.bool (aV G))∧Ext V w':=rj _ _ _ _ _ _ V hG.nodes hG.roots hn hr hf
end Go.Proofs.YtphpppjfogpohaaGreat
