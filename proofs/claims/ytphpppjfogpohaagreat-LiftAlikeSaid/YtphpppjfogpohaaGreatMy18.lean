/- Merged by program (merge.py) out of: HdC, HdD, ArA, ObA, RfA, RfB, ArC, ArD, ArE, ObB. -/
import Derived.Test.YtphpppjfogpohaaGreatMy0
import Derived.Test.YtphpppjfogpohaaGreatMy17
import Derived.Test.YtphpppjfogpohaaGreatMy7
import Derived.Test.YtphpppjfogpohaaGreatMy1
set_option linter.unusedSimpArgs false
set_option linter.unusedVariables false
set_option maxRecDepth 100000
set_option maxHeartbeats 16000000
namespace Go.Proofs.YtphpppjfogpohaaGreat
open Go.RowKit
theorem qF (h:Hd) (V:World):Calls Tryz.prog 42 #[.agg #[.int .i64 h.k,.int .i64 h.f,.int .i64 h.r,.bool h.m,.int .i64 h.c]] V fun e w'=>e= .returned (.tuple #[.int .u64 (fF h),.int .i64 (gq h)])∧Ext V w':=by
 have hW:Ext V (V.alloc (.cells #[.int .i64 h.k,.int .i64 h.f,.int .i64 h.r,.bool h.m,.int .i64 h.c] 85)):=(zo V).alloc _
 have i0:=fun k hk w=>jc k hk w
 go_enter Tryz.func42,Tryz.ntmps42
 go_wp2_with fail
 generalize V.alloc (.cells #[.int .i64 h.k,.int .i64 h.f,.int .i64 h.r,.bool h.m,.int .i64 h.c] 85)=W at*
 refine (qE h _).mono ?_
 rintro e w1 ⟨rfl,hx⟩
 go_wp2_with fail
 have hb:(w1.alloc (.cells #[.int .i64 (nz h 0),.int .i64 (nz h 1),.int .i64 (nz h 2),.int .i64 (nz h 3),.int .i64 (nz h 4)] 137)).heap[w1.heap.size]?=some (.cells #[.int .i64 (nz h 0),.int .i64 (nz h 1),.int .i64 (nz h 2),.int .i64 (nz h 3),.int .i64 (nz h 4)] 137 (0,0)):=World.alloc_heap_new _ _
 have hxa:=(zo w1).alloc (.cells #[.int .i64 (nz h 0),.int .i64 (nz h 1),.int .i64 (nz h 2),.int .i64 (nz h 3),.int .i64 (nz h 4)] 137)
 have hxV:=hW.trans (hx.trans hxa)
 generalize w1.alloc (.cells #[.int .i64 (nz h 0),.int .i64 (nz h 1),.int .i64 (nz h 2),.int .i64 (nz h 3),.int .i64 (nz h 4)] 137)=W2 at*
 generalize w1.heap.size=X5 at*
 refine (lE _).mono ?_
 rintro e w3 ⟨rfl,hx3⟩
 have HB:=zH ((hx3.block (aA hb)).trans hb)
 have HXV:=zH (hxV.trans hx3)
 have HC:Hid (∀k,k < 5→∀w',Ext w3 w'→w'.cell? ⟨X5,k,none⟩=some (.int .i64 (nz h k))):=zH (fun k hk w' hw'=>hw'.cell (by
  have:k=0∨k=1∨k=2∨k=3∨k=4:=by omega
  rcases this with rfl | rfl | rfl | rfl | rfl <;>simp [World.cell?,HB.out]))
 clear hW hx hb hxa hxV hx3 HB
 go_wp2_with fail
 go_loopw [4,11] (fun u i wr=>∃k:Nat,k≤5∧i= .int .i64 k∧u= .int .u64 (encP h k:Nat)∧Hid (lD h k)∧Hid (Ext w3 wr)) (fun _ i _=>5 - (intOf i).toNat)
 case atStart=>exact ⟨0,by omega,rfl,rfl,zH (fun i hi=>by omega),zH (zo _)⟩
 case round=>
  obtain ⟨k,hk,rfl,rfl,hf,hxr⟩:=hrel
  by_cases hlt:k < 5
  rotate_left
  ·obtain rfl:k=5:=by omega
   have hm:=(qD h).1 hf.out
   go_wp2_with fail
   go_ret2
   refine ⟨?_,HXV.out.trans hxr.out⟩
   rw [vu,show fF h=hwordN h by rw [fF,hm];rfl,show gq h=0 by rw [gq,hm];rfl]
   rfl
  have ib1:(k:Int) < 5:=by omega
  have j0:=i0 k hlt
  have HCK:=zH (HC.out k hlt)
  obtain ⟨s1,s2,s3,s4,s5⟩:=oZ k hlt
  have HS:=zH (show lD h k→(0≤nz h k∧nz h k≤pMost k)→lD h (k+1)from fun h1 h2 i hi=>by
   rcases Nat.lt_or_ge i k with h' | h'
   ·exact h1 i h'
   ·obtain rfl:i=k:=by omega
    exact h2)
  have HN:=zH (fun hn=>xt h hlt hn)
  have HE:Hid (encP h (k+1)=encP h k+2 ^ pAt k*(nz h k).toNat):=zH rfl
  have HL:=zH (xr h k oM hf.out)
  clear i0
  generalize nz h k=z at*
  generalize encP h k=ew at*
  generalize pAt k=at_ at*
  generalize pN k=pn at*
  generalize pMost k=pm at*
  have s5':=zH s5
  clear s5
  go_wp2_with fail
  have hxb:=hxr.out.alloc (.cells #[.int .i64 (at_:Int),.int .i64 (pn:Int),.int .i64 (pm:Int)] 140)
  have l0:∀u:ExtOf (wr.alloc (.cells #[.int .i64 (at_:Int),.int .i64 (pn:Int),.int .i64 (pm:Int)] 140)),u.1.cell? ⟨X5,k,none⟩=some (.int .i64 z):=fun u=>HCK.out _ (hxb.trans u.2)
  have l1:∀u:ExtOf (wr.alloc (.cells #[.int .i64 (at_:Int),.int .i64 (pn:Int),.int .i64 (pm:Int)] 140)),u.1.cell? ⟨wr.heap.size,0,none⟩=some (.int .i64 (at_:Int)):=fun u=>bD wr _ _ 0 _ rfl _ u.2
  have l2:∀u:ExtOf (wr.alloc (.cells #[.int .i64 (at_:Int),.int .i64 (pn:Int),.int .i64 (pm:Int)] 140)),u.1.cell? ⟨wr.heap.size,1,none⟩=some (.int .i64 (pn:Int)):=fun u=>bD wr _ _ 1 _ rfl _ u.2
  have l3:∀u:ExtOf (wr.alloc (.cells #[.int .i64 (at_:Int),.int .i64 (pn:Int),.int .i64 (pm:Int)] 140)),u.1.cell? ⟨wr.heap.size,2,none⟩=some (.int .i64 (pm:Int)):=fun u=>bD wr _ _ 2 _ rfl _ u.2
  generalize wr.alloc (.cells #[.int .i64 (at_:Int),.int .i64 (pn:Int),.int .i64 (pm:Int)] 140)=W7 at*
  generalize wr.heap.size=X7 at*
  have hx0:=zo W7
  by_cases c1:z < 0
  ·have d1:decide (z < 0)=true:=by simpa using c1
   have HM:=zH (HN.out oM)
   clear HS HN HE HL c1
   (refine aC (W:=W7) kR kR aS ?_;(repeat (go_big_quiet_step (fail)));refine wpQuiet_nil ?_;intro w1 hx)
   go_wp2_with fail
   go_ret2
   refine ⟨?_,HXV.out.trans (hxb.trans hx)⟩
   rw [show fF h=0 by rw [fF,HM.out];rfl,show gq h=1 by rw [gq,HM.out];rfl]
   rfl
  have d1:decide (z < 0)=false:=by simpa using c1
  by_cases c2:(pm:Int) < z
  ·have d2:decide ((pm:Int) < z)=true:=by simpa using c2
   have HM:=zH (HN.out oM)
   clear HS HN HE HL c1 c2
   (refine aC (W:=W7) kR kR aS ?_;(repeat (go_big_quiet_step (fail)));refine wpQuiet_nil ?_;intro w1 hx)
   go_wp2_with fail
   go_ret2
   refine ⟨?_,HXV.out.trans (hxb.trans hx)⟩
   rw [show fF h=0 by rw [fF,HM.out];rfl,show gq h=1 by rw [gq,HM.out];rfl]
   rfl
  have d2:decide ((pm:Int) < z)=false:=by simpa using c2
  have HF2:=zH (HS.out hf.out ⟨by omega,by omega⟩)
  obtain ⟨x,rfl⟩:=Int.eq_ofNat_of_zero_le (show 0≤z by omega)
  have hxp:x < 2 ^ pn:=by have:=s5'.out;omega
  have d3:decide (pm < x)=false:=by simp;omega
  clear HS HN c1 c2
  (refine aC (W:=W7) kR kR aS ?_;(repeat (go_big_quiet_step (fail)));refine wpQuiet_nil ?_;intro w1 hx)
  go_wp2_with fail
  have HPT:=zH (fun w=>yw ew at_ pn x s2 s3 s4 HL.out hxp w)
  have hcv:((x:Int) % 18446744073709551616)=(x:Int):=by
   have h1:2 ^ pn≤2 ^ 63:=Nat.pow_le_pow_right oM oM
   generalize 2 ^ pn=m at hxp h1
   omega
  clear hxp d1 d2 d3
  (refine bU (W:=W7) [] [(0,true),(1,true),(2,true),(3,true),(4,true),(5,true),(6,true),(7,true),(8,false),(9,false),(10,true),(11,true),(12,true),(13,true)] [] kR kR (by intro c a d v w h;cases d <;>first | exact h | (cases h;done) | cases h.1.1 | cases h.1) aS ?_;simp only [aI,List.map_cons,List.map_nil,List.getD_cons_zero,List.getD_cons_succ])
  ((first | refine bq ?_ | refine bu ?_);(repeat (go_big_quiet_step (first | (go_at_call 94;with_reducible exact zq (HPT.out _)))));refine wpQuiet_nil ?_;intro w1 hx)
  go_wp2_with fail
  exact ⟨⟨k+1,by omega,by go_num,by rw [HE.out,Int.toNat_natCast];simp,HF2,zH (hxb.trans hx)⟩,by simp [intOf];omega⟩
theorem sr (h:Hd) (u er:Int) (h1:fF h=u) (h2:gq h=er) (V:World):Calls Tryz.prog 42 #[.agg #[.int .i64 h.k,.int .i64 h.f,.int .i64 h.r,.bool h.m,.int .i64 h.c]] V fun e w'=>e= .returned (.tuple #[.int .u64 u,.int .i64 er])∧Ext V w':=by
 rw [←h1,←h2];exact qF h V
def ap (h:Hd):Int:=if cx h then 1+h.f+h.r else 0
theorem uD (h:Hd) (V:World):Calls Tryz.prog 104 #[.agg #[.int .i64 h.k,.int .i64 h.f,.int .i64 h.r,.bool h.m,.int .i64 h.c]] V fun e w'=>e= .returned (.int .i64 (ap h))∧Ext V w':=by
 have hW:Ext V (V.alloc (.cells #[.int .i64 h.k,.int .i64 h.f,.int .i64 h.r,.bool h.m,.int .i64 h.c] 85)):=(zo V).alloc _
 have k1:=fun w'=>bD V #[.int .i64 h.k,.int .i64 h.f,.int .i64 h.r,.bool h.m,.int .i64 h.c] 85 1 (.int .i64 h.f) rfl w'
 have k2:=fun w'=>bD V #[.int .i64 h.k,.int .i64 h.f,.int .i64 h.r,.bool h.m,.int .i64 h.c] 85 2 (.int .i64 h.r) rfl w'
 obtain ⟨b,hb⟩:∃b,cx h=b:=⟨_,rfl⟩
 have HB:=zH hb
 clear hb
 go_enter Tryz.func104,Tryz.ntmps104
 go_wp2_with fail
 generalize V.alloc (.cells #[.int .i64 h.k,.int .i64 h.f,.int .i64 h.r,.bool h.m,.int .i64 h.c] 85)=W at*
 cases b
 ·refine (sr h 0 1 (by rw [fF,HB.out];rfl) (by rw [gq,HB.out];rfl) _).mono ?_
  rintro e w1 ⟨rfl,hx⟩
  go_wp2_with fail
  go_ret
  exact ⟨ak (by rw [ap,HB.out];rfl),hW.trans hx⟩
 ·refine (sr h (hwordN h) 0 (by rw [fF,HB.out];rfl) (by rw [gq,HB.out];rfl) _).mono ?_
  rintro e w1 ⟨rfl,hx⟩
  go_wp2_with fail
  go_ret
  have hm:=HB.out
  simp only [cx,decide_eq_true_eq]at hm
  refine ⟨ak ?_,hW.trans hx⟩
  rw [ap,HB.out]
  show wrap64 (wrap64 (1+h.f)+h.r)=1+h.f+h.r
  unfold wrap64
  omega
def dz (w k:Nat):Nat:=w/2 ^ pAt k % 2 ^ pN k
def iR (w k i:Nat):Value:= .int .i64 (if i < k then (dz w i:Int)else 0)
def jQ (w k:Nat):Array Value:= #[iR w k 0,iR w k 1,iR w k 2,iR w k 3,iR w k 4]
theorem lF (w k i:Nat) (hi:i < 5):(jQ w k)[i]?=some (iR w k i):=by
 have:i=0∨i=1∨i=2∨i=3∨i=4:=by omega
 rcases this with rfl | rfl | rfl | rfl | rfl <;>rfl
theorem rk (w k:Nat) (hk:k < 5):(jQ w k).setIfInBounds k (.int .i64 (dz w k))=jQ w (k+1):=by
 have:k=0∨k=1∨k=2∨k=3∨k=4:=by omega
 rcases this with rfl | rfl | rfl | rfl | rfl <;>simp [jQ,iR]
def decH (w:Nat):Hd:=⟨(w/8 % 32:Nat),(w/256 % 65536:Nat),(w/16777216 % 65536:Nat),decide (w/4 % 2=1),(w/1099511627776 % 16777216:Nat)⟩
def dO (w:Nat):Bool:=decide (w % 4=3) && cx (decH w)
def cM (w:Nat):Hd:=if dO w then decH w else ⟨0,0,0,false,0⟩
def dP (w:Nat):Int:=if dO w then 0 else 3
theorem yx (w:Nat) (hw:w < 18446744073709551616):hwordN (decH w)=w↔w % 4=3:=by
 have hm:(if decide (w/4 % 2=1)then 1 else 0:Nat)=w/4 % 2:=by
  by_cases h:w/4 % 2=1
  ·simp [h]
  ·simp [h];omega
 have e:hwordN (decH w)=3+4*(if decide (w/4 % 2=1)then 1 else 0:Nat)+8*(w/8 % 32)+256*(w/256 % 65536)+16777216*(w/16777216 % 65536)+1099511627776*(w/1099511627776 % 16777216):=rfl
 rw [e,hm]
 omega
theorem yy (w:Nat) (hw:w < 18446744073709551616):dz w 0=w/4 % 2∧dz w 1=w/8 % 32∧dz w 2=w/256 % 65536∧dz w 3=w/16777216 % 65536∧dz w 4=w/1099511627776 % 16777216:=by
 exact ⟨rfl,rfl,rfl,rfl,rfl⟩
theorem vv (w k:Nat) (hk:k < 5):dz w k < 9223372036854775808:=by
 obtain ⟨-, -,h, -⟩:=oZ k hk
 have h1:dz w k < 2 ^ pN k:=Nat.mod_lt _ (Nat.two_pow_pos _)
 have h2:2 ^ pN k≤2 ^ 63:=Nat.pow_le_pow_right oM oM
 omega
theorem mq (w:Nat):decH w=⟨(w:Int)/8 % 32,(w:Int)/256 % 65536,(w:Int)/16777216 % 65536,((w:Int)/4 % 2==1),(w:Int)/1099511627776 % 16777216⟩:=by
 have h:decide (w/4 % 2=1)=((w:Int)/4 % 2==1):=by
  rw [Bool.eq_iff_iff]
  simp only [decide_eq_true_eq,beq_iff_eq]
  omega
 simp [decH,h]
theorem vw (w:Nat) (hw:w < 18446744073709551616) (V:World):Calls Tryz.prog 103 #[.int .u64 (w:Int)] V fun e w'=>e= .returned (.tuple #[.agg #[.int .i64 (cM w).k,.int .i64 (cM w).f,.int .i64 (cM w).r,.bool (cM w).m,.int .i64 (cM w).c],.int .i64 (dP w)])∧Ext V w':=by
 have i0:=fun k hk w=>jc k hk w
 have hbr:=bN (o2:= .cells #[.int .i64 0,.int .i64 0,.int .i64 0,.int .i64 0,.int .i64 0] 137) (aN V #[.int .i64 0,.int .i64 0,.int .i64 0,.bool false,.int .i64 0] 85 _ rfl)
 have hb4:=aN (V.alloc (.cells #[.int .i64 0,.int .i64 0,.int .i64 0,.bool false,.int .i64 0] 85)) #[.int .i64 0,.int .i64 0,.int .i64 0,.int .i64 0,.int .i64 0] 137 (V.heap.size+1) sM
 have hW:Ext V ((V.alloc (.cells #[.int .i64 0,.int .i64 0,.int .i64 0,.bool false,.int .i64 0] 85)).alloc (.cells #[.int .i64 0,.int .i64 0,.int .i64 0,.int .i64 0,.int .i64 0] 137)):=((zo V).alloc _).alloc _
 go_enter Tryz.func103,Tryz.ntmps103
 go_wp2_with fail
 generalize (V.alloc (.cells #[.int .i64 0,.int .i64 0,.int .i64 0,.bool false,.int .i64 0] 85)).alloc (.cells #[.int .i64 0,.int .i64 0,.int .i64 0,.int .i64 0,.int .i64 0] 137)=W at*
 have HBR:=zH hbr
 refine (lE _).mono ?_
 rintro e w1 ⟨rfl,hx1⟩
 have HX1:=zH (hW.trans hx1)
 have HB1:=zH (show w1.heap[V.heap.size+1]?=some (.cells (jQ w 0) 137 (0,0))from (hx1.block (aA hb4)).trans hb4)
 have HR1:=zH ((hx1.block (aA hbr)).trans hbr)
 clear hbr hb4 hW hx1 HBR
 go_wp2_with fail
 go_loopw [13] (fun i wr=>∃k:Nat,k≤5∧i= .int .i64 k∧Hid (wr.heap[V.heap.size+1]?=some (.cells (jQ w k) 137 (0,0)))∧Hid (wr.heap[V.heap.size]?=some (.cells #[.int .i64 0,.int .i64 0,.int .i64 0,.bool false,.int .i64 0] 85 (0,0)))∧Hid (Ext V wr)) (fun i _=>5 - (intOf i).toNat)
 case atStart=>exact ⟨0,by omega,rfl,HB1,HR1,HX1⟩
 case round=>
  obtain ⟨k,hk,rfl,hb,hr,hx⟩:=hrel
  clear HB1 HR1 HX1
  by_cases hlt:k < 5
  rotate_left
  ·obtain rfl:k=5:=by omega
   have hg:∀i,i < 5→wr.cell? ⟨V.heap.size+1,i,none⟩=some (iR w 5 i):=fun i hi=>by
    have:=lF w 5 i hi
    simp [World.cell?,hb.out,this]
   have g0:=hg 0 oM
   have g1:=hg 1 oM
   have g2:=hg 2 oM
   have g3:=hg 3 oM
   have g4:=hg 4 oM
   obtain ⟨z0,z1,z2,z3,z4⟩:=yy w hw
   simp only [iR,Nat.reduceLT,if_true,z0,z1,z2,z3,z4]at g0 g1 g2 g3 g4
   clear hg z0 z1 z2 z3 z4 i0
   go_wp2_with fail
   have HC:=zH (mq w)
   have HQ:=zH (yx w hw)
   have r0:∀w',Ext wr w'→w'.cell? ⟨V.heap.size,0,none⟩=some (.int .i64 0):=fun w' h=>h.cell (by simp [World.cell?,hr.out])
   have r1:∀w',Ext wr w'→w'.cell? ⟨V.heap.size,1,none⟩=some (.int .i64 0):=fun w' h=>h.cell (by simp [World.cell?,hr.out])
   have r2:∀w',Ext wr w'→w'.cell? ⟨V.heap.size,2,none⟩=some (.int .i64 0):=fun w' h=>h.cell (by simp [World.cell?,hr.out])
   have r3:∀w',Ext wr w'→w'.cell? ⟨V.heap.size,3,none⟩=some (.bool false):=fun w' h=>h.cell (by simp [World.cell?,hr.out])
   have r4:∀w',Ext wr w'→w'.cell? ⟨V.heap.size,4,none⟩=some (.int .i64 0):=fun w' h=>h.cell (by simp [World.cell?,hr.out])
   have fr:∀w',Ext wr w'→∀o,w'.frozen? ⟨V.heap.size,o,none⟩=false:=fun w' h o=>frozen_of_row _ _ _ _ _ ((h.block (aA hr.out)).trans hr.out)
   have bl:=aA hr.out
   clear hb g0 g1 g2 g3 g4
   have HXA:=zH (fun o=>(zo wr).alloc o)
   generalize (w:Int)/8 % 32=zk at*
   generalize (w:Int)/256 % 65536=zf at*
   generalize (w:Int)/16777216 % 65536=zr at*
   generalize ((w:Int)/4 % 2==1)=zm at*
   generalize (w:Int)/1099511627776 % 16777216=zc at*
   have hb9:=aN wr #[.int .i64 zk,.int .i64 zf,.int .i64 zr,.bool zm,.int .i64 zc] 85 _ rfl
   have hx9:=HXA.out (.cells #[.int .i64 zk,.int .i64 zf,.int .i64 zr,.bool zm,.int .i64 zc] 85)
   obtain ⟨b,hbm⟩:∃b,cx (decH w)=b:=⟨_,rfl⟩
   have HBM:=zH hbm
   have Z:=qF ⟨zk,zf,zr,zm,zc⟩ (wr.alloc (.cells #[.int .i64 zk,.int .i64 zf,.int .i64 zr,.bool zm,.int .i64 zc] 85))
   rw [←HC.out,fF,gq,hbm]at Z
   clear hbm
   generalize wr.alloc (.cells #[.int .i64 zk,.int .i64 zf,.int .i64 zr,.bool zm,.int .i64 zc] 85)=W9 at*
   generalize wr.heap.size=X9 at*
   rw [HC.out]at Z
   cases b
   ·refine Z.mono ?_
    clear Z
    rintro e w9 ⟨rfl,hx10⟩
    have hxx:=hx9.trans hx10
    simp only [Bool.false_eq_true,if_false]
    have q0:=r0 _ hxx
    have q1:=r1 _ hxx
    have q2:=r2 _ hxx
    have q3:=r3 _ hxx
    have q4:=r4 _ hxx
    have q5:=fr _ hxx
    clear r0 r1 r2 r3 r4 fr hb9
    go_wp2_with fail
    ((try simp only [Exit.inBlock,Exit.then]);refine bodyPost_ret (v:= .tuple #[.agg #[.int .i64 0,.int .i64 0,.int .i64 0,.bool false,.int .i64 0],.int .i64 3]) (by simp only [results,Tryz.results103];go_simp) rfl ?_)
    refine ⟨?_,(((((hx.out.trans hxx).setCell sM _).setCell sM _).setCell sM _).setCell sM _).setCell sM _⟩
    have e:dO w=false:=by rw [dO,HBM.out,Bool.and_false]
    rw [cM,dP,e]
    rfl
   ·refine Z.mono ?_
    clear Z
    rintro e w9 ⟨rfl,hx10⟩
    have hxx:=hx9.trans hx10
    simp only [if_true]
    have q0:=r0 _ hxx
    have q1:=r1 _ hxx
    have q2:=r2 _ hxx
    have q3:=r3 _ hxx
    have q4:=r4 _ hxx
    have q5:=fr _ hxx
    have hb10:=(hx10.block (aA hb9)).trans hb9
    have p0:w9.cell? ⟨X9,0,none⟩=some (.int .i64 zk):=by simp [World.cell?,hb10]
    have p1:w9.cell? ⟨X9,1,none⟩=some (.int .i64 zf):=by simp [World.cell?,hb10]
    have p2:w9.cell? ⟨X9,2,none⟩=some (.int .i64 zr):=by simp [World.cell?,hb10]
    have p3:w9.cell? ⟨X9,3,none⟩=some (.bool zm):=by simp [World.cell?,hb10]
    have p4:w9.cell? ⟨X9,4,none⟩=some (.int .i64 zc):=by simp [World.cell?,hb10]
    clear r0 r1 r2 r3 r4 fr hb9 hb10
    by_cases h3:w % 4=3
    ·have hne : (((hwordN ⟨zk, zf, zr, zm, zc⟩ : Nat) : Int) != (w : Int)) = false := by
      have:=HQ.out.2 h3
      rw [HC.out]at this
      rw [this]
      simp
     generalize hwordN ⟨zk,zf,zr,zm,zc⟩=hwn at*
     go_wp2_with fail
     ((try simp only [Exit.inBlock,Exit.then]);refine bodyPost_ret (v:= .tuple #[.agg #[.int .i64 zk,.int .i64 zf,.int .i64 zr,.bool zm,.int .i64 zc],.int .i64 0]) (by simp only [results,Tryz.results103];go_simp) rfl ?_)
     refine ⟨?_,(((((hx.out.trans hxx).setCell sM _).setCell sM _).setCell sM _).setCell sM _).setCell sM _⟩
     have e:dO w=true:=by rw [dO,HBM.out,h3];rfl
     rw [cM,dP,e,if_pos rfl,if_pos rfl,HC.out]
    ·have hne : (((hwordN ⟨zk, zf, zr, zm, zc⟩ : Nat) : Int) != (w : Int)) = true := by
      have this:¬(hwordN (decH w)=w):=fun h=>h3 (HQ.out.1 h)
      rw [HC.out]at this
      simp only [bne_iff_ne,ne_eq]
      omega
     generalize hwordN ⟨zk,zf,zr,zm,zc⟩=hwn at*
     go_wp2_with fail
     ((try simp only [Exit.inBlock,Exit.then]);refine bodyPost_ret (v:= .tuple #[.agg #[.int .i64 0,.int .i64 0,.int .i64 0,.bool false,.int .i64 0],.int .i64 3]) (by simp only [results,Tryz.results103];go_simp) rfl ?_)
     refine ⟨?_,(((((hx.out.trans hxx).setCell sM _).setCell sM _).setCell sM _).setCell sM _).setCell sM _⟩
     have e:dO w=false:=by rw [dO,decide_eq_false h3,Bool.false_and]
     rw [cM,dP,e]
     rfl
  have ib1:(k:Int) < 5:=by omega
  have j0:=i0 k hlt
  obtain ⟨s1,s2,s3,s4,s5⟩:=oZ k hlt
  have HST:=zH (rk w k hlt)
  have hd:dz w k=w/2 ^ pAt k % 2 ^ pN k:=rfl
  have ck:wr.cell? ⟨V.heap.size+1,k,none⟩=some (iR w k k):=by
   have:=lF w k k hlt
   simp [World.cell?,hb.out,this]
  have fk:wr.frozen? ⟨V.heap.size+1,k,none⟩=false:=frozen_of_row _ _ _ _ _ hb.out
  have hgt:=yv w (pAt k) (pN k) s2 s3 s4 hw
  rw [←hd]at hgt
  clear i0 hd
  generalize pAt k=at_ at*
  generalize pN k=pn at*
  generalize pMost k=pm at*
  clear s1 s2 s3 s4 s5
  go_wp2_with fail
  refine (hgt _).mono ?_
  rintro e w4 ⟨rfl,hx4⟩
  have hxa:=(zo wr).alloc (.cells #[.int .i64 (at_:Int),.int .i64 (pn:Int),.int .i64 (pm:Int)] 140)
  have hxw:=hxa.trans hx4
  have c4:=hxw.cell ck
  have HB4:=zH ((hxw.block (aA hb.out)).trans hb.out)
  have HR4:=zH ((hxw.block (aA hr.out)).trans hr.out)
  have f4:w4.frozen? ⟨V.heap.size+1,k,none⟩=false:=frozen_of_row _ _ _ _ _ HB4.out
  have HX4:=zH (hx.out.trans hxw)
  have hdl:dz w k < 18446744073709551616:=by
   have:dz w k≤w:=Nat.le_trans (Nat.mod_le _ _) (Nat.div_le_self _ _)
   omega
  have HDL:Hid (dz w k < 9223372036854775808):=zH (vv w k hlt)
  clear hgt ck fk hxa hx4 hb hr hx hxw hdl
  generalize dz w k=dk at*
  have hdl:=HDL.out
  go_wp2_with fail
  have h5:=HB4.out
  have hsame:=heap_setCell_same w4 (V.heap.size+1) k _ _ (.int .i64 (dk:Int)) h5
  rw [HST.out]at hsame
  exact ⟨⟨k+1,by omega,by go_num,zH hsame,zH ((Below.heap_setCell w4 ⟨V.heap.size+1,k,none⟩ _ V.heap.size sM).trans HR4.out),zH (HX4.out.setCell sM _)⟩,by simp [intOf];omega⟩
structure ArB (w:World) (b:Nat) (A:Option Addr) (cap:Nat) (ws:List Int):Prop where
 blk:w.heap[b]?=some (.cells #[.bool true,.slice A ws.length cap] 237 (0,0))
 row:WordsAt w A ws
 len:ws.length≤98304
 bd:∀z∈ws,0≤z∧z < 18446744073709551616
theorem ArB.ext {w w':World} {b:Nat} {A:Option Addr} {cap:Nat} {ws:List Int} (h:ArB w b A cap ws) (hx:Ext w w'):ArB w' b A cap ws:=⟨(hx.block (aA h.blk)).trans h.blk,h.row.ext hx,h.len,h.bd⟩
def ArP (w:World) (p:Option Addr) (l:Option (List Int)):Prop:=(p=none∧l=none)∨∃b A cap ws,p=some ⟨b,0,none⟩∧l=some ws∧ArB w b A cap ws
theorem ArP.ext {w w':World} {p:Option Addr} {l:Option (List Int)} (h:ArP w p l) (hx:Ext w w'):ArP w' p l:=by
 rcases h with h | ⟨b,A,cap,ws,h1,h2,h3⟩
 ·exact .inl h
 ·exact .inr ⟨b,A,cap,ws,h1,h2,h3.ext hx⟩
theorem ArP.nil (w:World):ArP w none none:= .inl ⟨rfl,rfl⟩
theorem ArB.p {w:World} {b:Nat} {A:Option Addr} {cap:Nat} {ws:List Int} (h:ArB w b A cap ws):ArP w (some ⟨b,0,none⟩) (some ws):= .inr ⟨b,A,cap,ws,rfl,rfl,h⟩
def lenA (l:Option (List Int)):Int:=(l.getD []).length
def atA (l:Option (List Int)) (i:Int):Int:=match l with | none=>10 | some ws=>if i < 0∨(ws.length:Int)≤i then 2 else 0
def rdA (l:Option (List Int)) (i:Int):Int:=if atA l i=0 then (l.getD []).getD i.toNat 0 else 0
theorem iL (p:Option Addr) (l:Option (List Int)) (V:World) (h:ArP V p l):Calls Tryz.prog 227 #[.pointer p] V fun e w'=>e= .returned (.bool l.isNone)∧Ext V w':=by
 rcases h with ⟨rfl,rfl⟩ | ⟨b,A,cap,ws,rfl,rfl,hb⟩
 ·go_enter Tryz.func227,Tryz.ntmps227
  go_wp2_with fail
  go_ret
  exact ⟨rfl,zo _⟩
 ·have c0:V.cell? ⟨b,0,none⟩=some (.bool true):=by simp [World.cell?,hb.blk]
  clear hb
  go_enter Tryz.func227,Tryz.ntmps227
  go_wp2_with fail
  go_ret
  exact ⟨rfl,zo _⟩
theorem vz (p:Option Addr) (l:Option (List Int)) (V:World) (h:ArP V p l):Calls Tryz.prog 204 #[.pointer p] V fun e w'=>e= .returned (.int .i64 (lenA l))∧Ext V w':=by
 have h0:=h
 rcases h with ⟨rfl,rfl⟩ | ⟨b,A,cap,ws,rfl,rfl,hb⟩
 ·clear h0
  have hW:=zo V
  go_enter Tryz.func204,Tryz.ntmps204
  go_wp2_with fail
  refine (iL none none V (ArP.nil V)).mono ?_
  rintro e w1 ⟨rfl,hx⟩
  go_wp2_with fail
  go_ret
  exact ⟨rfl,hx⟩
 ·have HB:=zH hb
  clear hb h0
  go_enter Tryz.func204,Tryz.ntmps204
  go_wp2_with fail
  refine (iL _ _ V HB.out.p).mono ?_
  rintro e w1 ⟨rfl,hx⟩
  have c1:w1.cell? ⟨b,1,none⟩=some (.slice A ws.length cap):=hx.cell (by simp [World.cell?,HB.out.blk])
  go_wp2_with fail
  go_ret
  exact ⟨rfl,hx⟩
theorem xu (p:Option Addr) (l:Option (List Int)) (i:Int) (V:World) (h:ArP V p l):Calls Tryz.prog 226 #[.pointer p,.int .i64 i] V fun e w'=>e= .returned (.int .i64 (atA l i))∧Ext V w':=by
 rcases h with ⟨rfl,rfl⟩ | ⟨b,A,cap,ws,rfl,rfl,hb⟩
 ·have hW:=zo V
  go_enter Tryz.func226,Tryz.ntmps226
  go_wp2_with fail
  refine (iL none none V (ArP.nil V)).mono ?_
  rintro e w1 ⟨rfl,hx⟩
  go_wp2_with fail
  go_ret
  exact ⟨rfl,hx⟩
 ·have HB:=zH hb
  clear hb
  go_enter Tryz.func226,Tryz.ntmps226
  go_wp2_with fail
  refine (iL _ _ V HB.out.p).mono ?_
  rintro e w1 ⟨rfl,hx⟩
  have c1:w1.cell? ⟨b,1,none⟩=some (.slice A ws.length cap):=hx.cell (by simp [World.cell?,HB.out.blk])
  by_cases h1:i < 0
  ·have d1:decide (i < 0)=true:=by simpa using h1
   have HR:Hid (atA (some ws) i=2):=zH (by simp [atA,h1])
   clear h1
   go_wp2_with fail
   go_ret
   exact ⟨ak HR.out.symm,hx⟩
  have d1:decide (i < 0)=false:=by simpa using h1
  by_cases h2:(ws.length:Int)≤i
  ·have d2:decide ((ws.length:Int)≤i)=true:=by simpa using h2
   have HR:Hid (atA (some ws) i=2):=zH (by simp [atA,h2])
   clear h1 h2
   go_wp2_with fail
   go_ret
   exact ⟨ak HR.out.symm,hx⟩
  have d2:decide ((ws.length:Int)≤i)=false:=by simpa using h2
  have HR:Hid (atA (some ws) i=0):=zH (by simp [atA,h1,h2])
  clear h1 h2
  go_wp2_with fail
  go_ret
  exact ⟨ak HR.out.symm,hx⟩
theorem wB (p:Option Addr) (l:Option (List Int)) (i er:Int) (h0:atA l i=er) (V:World) (h:ArP V p l):Calls Tryz.prog 226 #[.pointer p,.int .i64 i] V fun e w'=>e= .returned (.int .i64 er)∧Ext V w':=by
 rw [←h0];exact xu p l i V h
theorem gr {l:Option (List Int)} {i:Int} (h:atA l i=0):∃ws,l=some ws∧0≤i∧i < ws.length:=by
 cases l with
 | none=>simp [atA]at h
 | some ws=>
  refine ⟨ws,rfl,?_⟩
  simp only [atA]at h
  split at h
  ·cases h
  ·omega
theorem uE (p:Option Addr) (l:Option (List Int)) (i:Int) (V:World) (h:ArP V p l):Calls Tryz.prog 203 #[.pointer p,.int .i64 i] V fun e w'=>e= .returned (.tuple #[.int .u64 (rdA l i),.int .i64 (atA l i)])∧Ext V w':=by
 obtain ⟨er,her⟩:∃er,atA l i=er:=⟨_,rfl⟩
 have HE:=zH her
 have HP:=zH h
 clear h
 by_cases h0:er=0
 ·subst h0
  obtain ⟨ws,rfl,h1,h2⟩:=gr her
  rcases HP.out with ⟨_,h⟩ | ⟨b,A,cap,ws',rfl,hl,hb⟩
  ·cases h
  injection hl with hl
  subst hl
  obtain ⟨j,rfl⟩:=Int.eq_ofNat_of_zero_le h1
  have hj:j < ws.length:=by omega
  obtain ⟨lb,off,rfl,hc⟩:=hb.row.get oM
  have d0:=cF hc hj
  have HR:Hid (rdA (some ws) (j:Int)=ws.getD j 0):=zH (by rw [rdA,HE.out];simp)
  have HB:=zH hb
  have ib1:(j:Int) < (ws.length:Int):=by omega
  clear hc hb her h1 h2
  generalize ws.getD j 0=z at*
  go_enter Tryz.func203,Tryz.ntmps203
  go_wp2_with fail
  refine (wB _ _ _ 0 HE.out V HP.out).mono ?_
  rintro e w1 ⟨rfl,hx⟩
  have c1:w1.cell? ⟨b,1,none⟩=some (.slice (some ⟨lb,off,none⟩) ws.length cap):=hx.cell (by simp [World.cell?,HB.out.blk])
  have c2:=hx.cell d0
  go_wp2_with fail
  go_ret2
  exact ⟨by rw [HR.out,HE.out];rfl,hx⟩
 ·have hne:(er !=0)=true:=by simpa using h0
  have HR:Hid (rdA l i=0):=zH (by rw [rdA,if_neg (by rw [her];exact h0)])
  clear her h0
  go_enter Tryz.func203,Tryz.ntmps203
  go_wp2_with fail
  refine (wB _ _ _ er HE.out V HP.out).mono ?_
  rintro e w1 ⟨rfl,hx⟩
  go_wp2_with fail
  go_ret2
  exact ⟨by rw [HR.out,HE.out];rfl,hx⟩
theorem qG (p:Option Addr) (l:Option (List Int)) (i z er:Int) (h1:rdA l i=z) (h2:atA l i=er) (V:World) (h:ArP V p l):Calls Tryz.prog 203 #[.pointer p,.int .i64 i] V fun e w'=>e= .returned (.tuple #[.int .u64 z,.int .i64 er])∧Ext V w':=by
 rw [←h1,←h2];exact uE p l i V h
def hd0:Hd:=⟨0,0,0,false,0⟩
def aV (l:Option (List Int)) (i:Int):Int:=if atA l i=0 then (if dO (rdA l i).toNat then (if lenA l - i < ap (decH (rdA l i).toNat)then 2 else 0)else 3)else atA l i
def aJ (l:Option (List Int)) (i:Int):Hd:=if aV l i=0 then decH (rdA l i).toNat else hd0
theorem ext5 {V w:World} (h:Ext V w) (u0 u1 u2 u3 u4:Value):Ext V (((((w.setCell ⟨V.heap.size,0,none⟩ u0).setCell ⟨V.heap.size,1,none⟩ u1).setCell ⟨V.heap.size,2,none⟩ u2).setCell ⟨V.heap.size,3,none⟩ u3).setCell ⟨V.heap.size,4,none⟩ u4):=
 ((((h.setCell sM _).setCell sM _).setCell sM _).setCell sM _).setCell sM _
theorem cV {l:Option (List Int)} {i er:Int} (h:aV l i=er) (hne:er≠0):aJ l i=hd0:=by rw [aJ,h,if_neg hne]
theorem kE (z:Int) (h:Hd) (er:Int) (h0:0≤z∧z < 18446744073709551616) (h1:cM z.toNat=h) (h2:dP z.toNat=er) (V:World):Calls Tryz.prog 103 #[.int .u64 z] V fun e w'=>e= .returned (.tuple #[.agg #[.int .i64 h.k,.int .i64 h.f,.int .i64 h.r,.bool h.m,.int .i64 h.c],.int .i64 er])∧Ext V w':=by
 have:=vw z.toNat oM V
 rw [←h1,←h2]
 rwa [Int.toNat_of_nonneg h0.1]at this
theorem cH (h:Hd) (n:Int) (h1:ap h=n) (V:World):Calls Tryz.prog 104 #[.agg #[.int .i64 h.k,.int .i64 h.f,.int .i64 h.r,.bool h.m,.int .i64 h.c]] V fun e w'=>e= .returned (.int .i64 n)∧Ext V w':=by
 rw [←h1];exact uD h V
theorem xv (p:Option Addr) (l:Option (List Int)) (n:Int) (h1:lenA l=n) (V:World) (h:ArP V p l):Calls Tryz.prog 204 #[.pointer p] V fun e w'=>e= .returned (.int .i64 n)∧Ext V w':=by
 rw [←h1];exact vz p l V h
theorem uF (p:Option Addr) (l:Option (List Int)) (i:Int) (V:World) (h:ArP V p l) (hi: -9223372036854775808≤i∧i≤9223372036854775807):Calls Tryz.prog 172 #[.pointer p,.int .i64 i] V fun e w'=>e= .returned (.tuple #[.agg #[.int .i64 (aJ l i).k,.int .i64 (aJ l i).f,.int .i64 (aJ l i).r,.bool (aJ l i).m,.int .i64 (aJ l i).c],.int .i64 (aV l i)])∧Ext V w':=by
 have HP:=zH h
 obtain ⟨er,her⟩:∃er,atA l i=er:=⟨_,rfl⟩
 obtain ⟨z,hz⟩:∃z,rdA l i=z:=⟨_,rfl⟩
 have HE:=zH her
 have HZ:=zH hz
 have hx0:=(zo V).alloc (.cells #[.int .i64 0,.int .i64 0,.int .i64 0,.bool false,.int .i64 0] 85)
 have hbr:=aN V #[.int .i64 0,.int .i64 0,.int .i64 0,.bool false,.int .i64 0] 85 _ rfl
 clear h her hz
 go_enter Tryz.func172,Tryz.ntmps172
 go_wp2_with fail
 generalize V.alloc (.cells #[.int .i64 0,.int .i64 0,.int .i64 0,.bool false,.int .i64 0] 85)=W at*
 have r0:∀w',Ext W w'→w'.cell? ⟨V.heap.size,0,none⟩=some (.int .i64 0):=fun w' h=>h.cell (by simp [World.cell?,hbr])
 have r1:∀w',Ext W w'→w'.cell? ⟨V.heap.size,1,none⟩=some (.int .i64 0):=fun w' h=>h.cell (by simp [World.cell?,hbr])
 have r2:∀w',Ext W w'→w'.cell? ⟨V.heap.size,2,none⟩=some (.int .i64 0):=fun w' h=>h.cell (by simp [World.cell?,hbr])
 have r3:∀w',Ext W w'→w'.cell? ⟨V.heap.size,3,none⟩=some (.bool false):=fun w' h=>h.cell (by simp [World.cell?,hbr])
 have r4:∀w',Ext W w'→w'.cell? ⟨V.heap.size,4,none⟩=some (.int .i64 0):=fun w' h=>h.cell (by simp [World.cell?,hbr])
 have fr:∀w',Ext W w'→∀o,w'.frozen? ⟨V.heap.size,o,none⟩=false:=fun w' h o=>frozen_of_row _ _ _ _ _ ((h.block (aA hbr)).trans hbr)
 have bl:=aA hbr
 clear hbr
 refine (qG p l i z er HZ.out HE.out _ (HP.out.ext hx0)).mono ?_
 rintro e w1 ⟨rfl,hx⟩
 by_cases h0:er=0
 rotate_left
 ·have hne:(er !=0)=true:=by simpa using h0
  have HR:Hid (aV l i=er):=zH (by rw [aV,HE.out,if_neg h0])
  have HH:=zH (cV HR.out h0)
  have q0:=r0 _ hx
  have q1:=r1 _ hx
  have q2:=r2 _ hx
  have q3:=r3 _ hx
  have q4:=r4 _ hx
  have q5:=fr _ hx
  clear r0 r1 r2 r3 r4 fr h0
  go_wp2_with fail
  ((try simp only [Exit.inBlock,Exit.then]);refine bodyPost_ret (v:= .tuple #[.agg #[.int .i64 0,.int .i64 0,.int .i64 0,.bool false,.int .i64 0],.int .i64 er]) (by simp only [results,Tryz.results172];go_simp) rfl ?_)
  refine ⟨?_,(((((hx0.trans hx).setCell sM _).setCell sM _).setCell sM _).setCell sM _).setCell sM _⟩
  rw [HH.out,HR.out]
  rfl
 subst h0
 have hzb:0≤z∧z < 18446744073709551616:=by
  obtain ⟨ws,rfl,h1,h2⟩:=gr HE.out
  rcases HP.out with ⟨_,h⟩ | ⟨b,A,cap,ws',rfl,hl,hb⟩
  ·cases h
  injection hl with hl
  subst hl
  have:=HZ.out
  rw [rdA,if_pos HE.out]at this
  have h3:ws.getD i.toNat 0=z:=this
  rw [←h3]
  exact hb.bd _ (aH (show i.toNat < ws.length by omega))
 obtain ⟨b,hb⟩:∃b,dO z.toNat=b:=⟨_,rfl⟩
 have HB:=zH hb
 clear hb
 go_wp2_with fail
 cases b
 ·refine (kE z hd0 3 hzb (by rw [cM,HB.out];rfl) (by rw [dP,HB.out];rfl) _).mono ?_
  rintro e w2 ⟨rfl,hx2⟩
  have HR:Hid (aV l i=3):=zH (by rw [aV,HE.out,if_pos rfl,HZ.out,HB.out];rfl)
  have HH:=zH (cV HR.out dM)
  replace hx:=hx.trans hx2
  have q0:=r0 _ hx
  have q1:=r1 _ hx
  have q2:=r2 _ hx
  have q3:=r3 _ hx
  have q4:=r4 _ hx
  have q5:=fr _ hx
  have bl2:V.heap.size < w2.heap.size:=Nat.lt_of_lt_of_le bl hx.size
  clear r0 r1 r2 r3 r4 fr
  go_wp2_with fail
  ((try simp only [Exit.inBlock,Exit.then]);refine bodyPost_ret (v:= .tuple #[.agg #[.int .i64 0,.int .i64 0,.int .i64 0,.bool false,.int .i64 0],.int .i64 3]) (by simp only [results,Tryz.results172];go_simp) rfl ?_)
  refine ⟨?_,?_⟩
  ·rw [HH.out,HR.out]
   rfl
  ·exact (ext5 (hx0.trans hx) _ _ _ _ _).alloc _
 ·have hok : 0 ≤ i ∧ i < lenA l := by
   obtain ⟨ws,rfl,h1,h2⟩:=gr HE.out
   exact ⟨h1,h2⟩
  have hll:lenA l≤98304:=by
   rcases HP.out with ⟨_,rfl⟩ | ⟨b,A,cap,ws',rfl,rfl,hb⟩
   ·simp [lenA]
   ·have:=hb.len;simp [lenA];omega
  have HM:Hid (cx (decH z.toNat)=true):=zH (by have:=HB.out;simp only [dO,Bool.and_eq_true]at this;exact this.2)
  refine (kE z (decH z.toNat) 0 hzb (by rw [cM,HB.out];rfl) (by rw [dP,HB.out];rfl) _).mono ?_
  rintro e w2 ⟨rfl,hx2⟩
  have HHE:Hid (aV l i=if lenA l - i < ap (decH z.toNat)then 2 else 0):=zH (by rw [aV,HE.out,if_pos rfl,HZ.out,HB.out,if_pos rfl])
  have HHH:Hid (aV l i=0→aJ l i=decH z.toNat):=zH (fun h=>by rw [aJ,if_pos h,HZ.out])
  replace hx:=hx.trans hx2
  have bl2:V.heap.size < w2.heap.size:=Nat.lt_of_lt_of_le bl hx.size
  generalize decH z.toNat=h at*
  clear hx2
  go_wp2_with fail
  have hxa:=(zo w2).alloc (.cells #[.int .i64 h.k,.int .i64 h.f,.int .i64 h.r,.bool h.m,.int .i64 h.c] 85)
  have hb8:=aN w2 #[.int .i64 h.k,.int .i64 h.f,.int .i64 h.r,.bool h.m,.int .i64 h.c] 85 _ rfl
  have hx8:=hx.trans hxa
  clear bl2
  generalize w2.alloc (.cells #[.int .i64 h.k,.int .i64 h.f,.int .i64 h.r,.bool h.m,.int .i64 h.c] 85)=W8 at*
  generalize w2.heap.size=X8 at*
  obtain ⟨n,hn⟩:∃n,ap h=n:=⟨_,rfl⟩
  obtain ⟨m,hm⟩:∃m,lenA l=m:=⟨_,rfl⟩
  have HN:=zH hn
  have HMM:=zH hm
  rw [hm]at hok hll
  clear hn hm
  refine (cH h n HN.out _).mono ?_
  rintro e w3 ⟨rfl,hx3⟩
  go_wp2_with fail
  refine (xv p l m HMM.out _ (HP.out.ext (hx0.trans (hx8.trans hx3)))).mono ?_
  rintro e w4 ⟨rfl,hx4⟩
  have hx5:=hx8.trans (hx3.trans hx4)
  have hb9:=((hx3.trans hx4).block (aA hb8)).trans hb8
  have q0:=r0 _ hx5
  have q1:=r1 _ hx5
  have q2:=r2 _ hx5
  have q3:=r3 _ hx5
  have q4:=r4 _ hx5
  have q5:=fr _ hx5
  have p0:w4.cell? ⟨X8,0,none⟩=some (.int .i64 h.k):=by simp [World.cell?,hb9]
  have p1:w4.cell? ⟨X8,1,none⟩=some (.int .i64 h.f):=by simp [World.cell?,hb9]
  have p2:w4.cell? ⟨X8,2,none⟩=some (.int .i64 h.r):=by simp [World.cell?,hb9]
  have p3:w4.cell? ⟨X8,3,none⟩=some (.bool h.m):=by simp [World.cell?,hb9]
  have p4:w4.cell? ⟨X8,4,none⟩=some (.int .i64 h.c):=by simp [World.cell?,hb9]
  have hsub:wrap64 (m - i)=m - i:=by unfold wrap64;omega
  clear r0 r1 r2 r3 r4 fr hb8 hb9 hx3 hx4 hx8 hxa
  by_cases hc:m - i < n
  ·have hd:decide (m - i < n)=true:=by simpa using hc
   have HR:Hid (aV l i=2):=zH (by rw [HHE.out,HMM.out,HN.out,if_pos hc])
   have HH:=zH (cV HR.out dM)
   clear hc
   go_wp2_with fail
   ((try simp only [Exit.inBlock,Exit.then]);refine bodyPost_ret (v:= .tuple #[.agg #[.int .i64 0,.int .i64 0,.int .i64 0,.bool false,.int .i64 0],.int .i64 2]) (by simp only [results,Tryz.results172];go_simp) rfl ?_)
   refine ⟨?_,ext5 (hx0.trans hx5) _ _ _ _ _⟩
   rw [HH.out,HR.out]
   rfl
  ·have hd:decide (m - i < n)=false:=by simpa using hc
   have HR:Hid (aV l i=0):=zH (by rw [HHE.out,HMM.out,HN.out,if_neg hc])
   have HH:=zH (HHH.out HR.out)
   clear hc
   go_wp2_with fail
   ((try simp only [Exit.inBlock,Exit.then]);refine bodyPost_ret (v:= .tuple #[.agg #[.int .i64 h.k,.int .i64 h.f,.int .i64 h.r,.bool h.m,.int .i64 h.c],.int .i64 0]) (by simp only [results,Tryz.results172];go_simp) rfl ?_)
   refine ⟨?_,ext5 (hx0.trans hx5) _ _ _ _ _⟩
   rw [HH.out,HR.out]
end Go.Proofs.YtphpppjfogpohaaGreat
namespace Go.Proofs.YtphpppjfogpohaaGreat
open Go.RowKit Go.Shelf
theorem qH (h:Hd) (w:World):Calls Tryz.prog 138 #[.agg #[.int .i64 h.k,.int .i64 h.f,.int .i64 h.r,.bool h.m,.int .i64 h.c]] w fun e w'=>e= .returned (.bool (cx h))∧Ext w w':=by
 obtain ⟨k,f,r,m,c⟩:=h
 simp only
 go_enter Tryz.func138,Tryz.ntmps138
 go_wp2
 all_goals go_ret
 all_goals exact ⟨aD (by unfold cx;simp [*];try omega),(zo _).alloc _⟩
theorem lH (h:Hd) (b:Bool) (hb:cx h=b) (w:World):Calls Tryz.prog 138 #[.agg #[.int .i64 h.k,.int .i64 h.f,.int .i64 h.r,.bool h.m,.int .i64 h.c]] w fun e w'=>e= .returned (.bool b)∧Ext w w':=by
 rw [←hb];exact qH h w
theorem o7 (h:Hd) (V:World):Calls Tryz.prog 115 #[.agg #[.int .i64 h.k,.int .i64 h.f,.int .i64 h.r,.bool h.m,.int .i64 h.c]] V fun e w'=>e= .returned (.int .i64 (ap h))∧Ext V w':=by
 have hb5:=aN V #[.int .i64 h.k,.int .i64 h.f,.int .i64 h.r,.bool h.m,.int .i64 h.c] 85 _ rfl
 have HX:=zH ((zo V).alloc (.cells #[.int .i64 h.k,.int .i64 h.f,.int .i64 h.r,.bool h.m,.int .i64 h.c] 85))
 have HB5:=zH hb5
 obtain ⟨b,hb⟩:∃b,cx h=b:=⟨_,rfl⟩
 have HM:=zH hb
 clear hb5 hb
 go_enter Tryz.func115,Tryz.ntmps115
 go_wp2_with fail
 refine (lH h b HM.out _).mono ?_
 rintro e w1 ⟨rfl,hx⟩
 have hb1:=(hx.block (aA HB5.out)).trans HB5.out
 have g1:w1.cell? ⟨V.heap.size,1,none⟩=some (.int .i64 h.f):=by simp [World.cell?,hb1]
 have g2:w1.cell? ⟨V.heap.size,2,none⟩=some (.int .i64 h.r):=by simp [World.cell?,hb1]
 have HX1:=zH (HX.out.trans hx)
 clear hx hb1
 cases b
 ·have HS:Hid (ap h=0):=zH (by rw [ap,HM.out];rfl)
  go_wp2_with fail
  go_ret
  exact ⟨ak HS.out.symm,HX1.out⟩
 ·have hm:=HM.out
  simp only [cx,decide_eq_true_eq]at hm
  have HS:Hid (ap h=1+h.f+h.r):=zH (by rw [ap,HM.out];rfl)
  have e1:wrap64 (1+h.f)=1+h.f:=IntWalk.wrap64_in _ ⟨by omega,by omega⟩
  have e2:wrap64 (1+h.f+h.r)=1+h.f+h.r:=IntWalk.wrap64_in _ ⟨by omega,by omega⟩
  have HE2:=zH (HS.out.trans e2.symm)
  clear hm e2
  go_wp2_with fail
  go_ret
  exact ⟨ak HE2.out.symm,HX1.out⟩
theorem cN (h:Hd) (n:Int) (hn:ap h=n) (w:World):Calls Tryz.prog 115 #[.agg #[.int .i64 h.k,.int .i64 h.f,.int .i64 h.r,.bool h.m,.int .i64 h.c]] w fun e w'=>e= .returned (.int .i64 n)∧Ext w w':=by
 rw [←hn];exact o7 h w
theorem qI (w:Nat) (hw:w < 18446744073709551616) (V:World):Calls Tryz.prog 114 #[.int .u64 (w:Int)] V fun e w'=>e= .returned (.tuple #[.agg #[.int .i64 (cM w).k,.int .i64 (cM w).f,.int .i64 (cM w).r,.bool (cM w).m,.int .i64 (cM w).c],.int .i64 (dP w)])∧Ext V w':=by
 have hd:decH w=⟨(w:Int)/8 % 32,(w:Int)/256 % 65536,(w:Int)/16777216 % 65536,((w:Int)/4 % 2==1),(w:Int)/1099511627776⟩:=by
  rw [mq]
  congr 1
  omega
 have HD:=zH hd
 have hx2:Ext V ((V.alloc (.cells #[.int .i64 0,.int .i64 0,.int .i64 0,.bool false,.int .i64 0] 85)).alloc (.cells #[.int .i64 ((w:Int)/8 % 32),.int .i64 ((w:Int)/256 % 65536),.int .i64 ((w:Int)/16777216 % 65536),.bool ((w:Int)/4 % 2==1),.int .i64 ((w:Int)/1099511627776)] 85)):=((zo V).alloc _).alloc _
 have HX2:=zH hx2
 clear hd hx2
 by_cases h4:w % 4=3
 rotate_left
 ·have d4:((w:Int) % 4 !=3)=true:=by rw [bne_iff_ne];omega
  have HB:Hid (dO w=false):=zH (by simp [dO,h4])
  have HR:Hid (cM w=⟨0,0,0,false,0⟩∧dP w=3):=zH (by rw [cM,dP,HB.out];exact ⟨rfl,rfl⟩)
  clear h4
  rw [HR.out.1,HR.out.2]
  go_enter Tryz.func114,Tryz.ntmps114
  go_wp2_with fail
  ((try simp only [Exit.inBlock,Exit.then]);refine bodyPost_ret (v:= .tuple #[.agg #[.int .i64 0,.int .i64 0,.int .i64 0,.bool false,.int .i64 0],.int .i64 3]) (by simp only [results,Tryz.results114];go_simp) rfl ?_)
  exact ⟨rfl,((zo V).alloc _).alloc _⟩
 have d4:((w:Int) % 4 !=3)=false:=by simp;omega
 obtain ⟨b,hb⟩:∃b,cx (decH w)=b:=⟨_,rfl⟩
 have HB:Hid (dO w=b):=zH (by rw [dO,hb];simp [h4])
 have HM:=zH (HD.out ▸ hb)
 have hbr:=bN (o2:= .cells #[.int .i64 ((w:Int)/8 % 32),.int .i64 ((w:Int)/256 % 65536),.int .i64 ((w:Int)/16777216 % 65536),.bool ((w:Int)/4 % 2==1),.int .i64 ((w:Int)/1099511627776)] 85) (aN V #[.int .i64 0,.int .i64 0,.int .i64 0,.bool false,.int .i64 0] 85 _ rfl)
 have HBR:=zH hbr
 have hbh:=aN (V.alloc (.cells #[.int .i64 0,.int .i64 0,.int .i64 0,.bool false,.int .i64 0] 85)) #[.int .i64 ((w:Int)/8 % 32),.int .i64 ((w:Int)/256 % 65536),.int .i64 ((w:Int)/16777216 % 65536),.bool ((w:Int)/4 % 2==1),.int .i64 ((w:Int)/1099511627776)] 85 (V.heap.size+1) sM
 have HBH:=zH hbh
 clear h4 hb hbr hbh
 go_enter Tryz.func114,Tryz.ntmps114
 go_wp2_with fail
 generalize (w:Int)/8 % 32=k at*
 generalize (w:Int)/256 % 65536=f at*
 generalize (w:Int)/16777216 % 65536=r at*
 generalize ((w:Int)/4 % 2==1)=m at*
 generalize (w:Int)/1099511627776=c at*
 generalize (V.alloc (.cells #[.int .i64 0,.int .i64 0,.int .i64 0,.bool false,.int .i64 0] 85)).alloc (.cells #[.int .i64 k,.int .i64 f,.int .i64 r,.bool m,.int .i64 c] 85)=W at*
 refine (lH ⟨k,f,r,m,c⟩ b HM.out W).mono ?_
 rintro e w1 ⟨rfl,hx⟩
 have HX1:=zH (HX2.out.trans hx)
 have h1:=(hx.block (aA HBR.out)).trans HBR.out
 have h2:=(hx.block (aA HBH.out)).trans HBH.out
 have q0:w1.cell? ⟨V.heap.size,0,none⟩=some (.int .i64 0):=by simp [World.cell?,h1]
 have q1:w1.cell? ⟨V.heap.size,1,none⟩=some (.int .i64 0):=by simp [World.cell?,h1]
 have q2:w1.cell? ⟨V.heap.size,2,none⟩=some (.int .i64 0):=by simp [World.cell?,h1]
 have q3:w1.cell? ⟨V.heap.size,3,none⟩=some (.bool false):=by simp [World.cell?,h1]
 have q4:w1.cell? ⟨V.heap.size,4,none⟩=some (.int .i64 0):=by simp [World.cell?,h1]
 have fr:∀o,w1.frozen? ⟨V.heap.size,o,none⟩=false:=fun o=>frozen_of_row _ _ _ _ _ h1
 cases b
 ·have HR:Hid (cM w=⟨0,0,0,false,0⟩∧dP w=3):=zH (by rw [cM,dP,HB.out];exact ⟨rfl,rfl⟩)
  clear hx h1 h2
  go_wp2_with fail
  ((try simp only [Exit.inBlock,Exit.then]);refine bodyPost_ret (v:= .tuple #[.agg #[.int .i64 0,.int .i64 0,.int .i64 0,.bool false,.int .i64 0],.int .i64 3]) (by simp only [results,Tryz.results114];go_simp) rfl ?_)
  rw [HR.out.1,HR.out.2]
  exact ⟨rfl,ext5 HX1.out _ _ _ _ _⟩
 ·have HR:Hid (cM w=⟨k,f,r,m,c⟩∧dP w=0):=zH (by rw [cM,dP,HB.out];exact ⟨HD.out,rfl⟩)
  have p0:w1.cell? ⟨V.heap.size+1,0,none⟩=some (.int .i64 k):=by simp [World.cell?,h2]
  have p1:w1.cell? ⟨V.heap.size+1,1,none⟩=some (.int .i64 f):=by simp [World.cell?,h2]
  have p2:w1.cell? ⟨V.heap.size+1,2,none⟩=some (.int .i64 r):=by simp [World.cell?,h2]
  have p3:w1.cell? ⟨V.heap.size+1,3,none⟩=some (.bool m):=by simp [World.cell?,h2]
  have p4:w1.cell? ⟨V.heap.size+1,4,none⟩=some (.int .i64 c):=by simp [World.cell?,h2]
  clear hx h1 h2
  go_wp2_with fail
  ((try simp only [Exit.inBlock,Exit.then]);refine bodyPost_ret (v:= .tuple #[.agg #[.int .i64 k,.int .i64 f,.int .i64 r,.bool m,.int .i64 c],.int .i64 0]) (by simp only [results,Tryz.results114];go_simp) rfl ?_)
  rw [HR.out.1,HR.out.2]
  exact ⟨rfl,ext5 HX1.out _ _ _ _ _⟩
theorem rm (z:Int) (h:Hd) (er:Int) (h0:0≤z∧z < 18446744073709551616) (h1:cM z.toNat=h) (h2:dP z.toNat=er) (V:World):Calls Tryz.prog 114 #[.int .u64 z] V fun e w'=>e= .returned (.tuple #[.agg #[.int .i64 h.k,.int .i64 h.f,.int .i64 h.r,.bool h.m,.int .i64 h.c],.int .i64 er])∧Ext V w':=by
 have:=qI z.toNat oM V
 rw [←h1,←h2]
 rwa [Int.toNat_of_nonneg h0.1]at this
theorem lI (h:Hd):0≤ap h∧ap h≤8193:=by
 unfold ap
 split
 ·rename_i h1
  simp only [cx,decide_eq_true_eq]at h1
  omega
 ·omega
theorem jd (A:Option Addr) (cap:Nat) (ws:List Int) (i:Int) (V:World) (hl:WordsAt V A ws) (hlen:ws.length≤98304) (hbd:∀z∈ws,0≤z∧z < 18446744073709551616) (hi: -9223372036854775808≤i∧i≤9223372036854775807):
  Calls Tryz.prog 68 #[.slice A ws.length cap,.int .i64 i] V fun e w'=>e= .returned (.tuple #[.agg #[.int .i64 (aJ (some ws) i).k,.int .i64 (aJ (some ws) i).f,.int .i64 (aJ (some ws) i).r,.bool (aJ (some ws) i).m,.int .i64 (aJ (some ws) i).c],.int .i64 (aV (some ws) i)])∧Ext V w':=by
 have HL:=zH hl
 have hx0:=(zo V).alloc (.cells #[.int .i64 0,.int .i64 0,.int .i64 0,.bool false,.int .i64 0] 85)
 have hbr:=aN V #[.int .i64 0,.int .i64 0,.int .i64 0,.bool false,.int .i64 0] 85 _ rfl
 have HX0:=zH hx0
 have HBR:=zH hbr
 clear hl hbr hx0
 by_cases hin:0≤i∧i < ws.length
 rotate_left
 ·have hat:atA (some ws) i=2:=by simp only [atA];rw [if_pos oM]
  have HR:Hid (aV (some ws) i=2):=zH (by rw [aV,hat];rfl)
  have HH:=zH (cV HR.out dM)
  rw [HH.out,HR.out]
  by_cases h1:i < 0
  ·have d1:decide (i < 0)=true:=by simpa using h1
   clear hin hat
   go_enter Tryz.func68,Tryz.ntmps68
   go_wp2_with fail
   ((try simp only [Exit.inBlock,Exit.then]);refine bodyPost_ret (v:= .tuple #[.agg #[.int .i64 0,.int .i64 0,.int .i64 0,.bool false,.int .i64 0],.int .i64 2]) (by simp only [results,Tryz.results68];go_simp) rfl ?_)
   exact ⟨rfl,HX0.out⟩
  ·have d1:decide (i < 0)=false:=by simpa using h1
   have d2:decide ((ws.length:Int)≤i)=true:=by simp;omega
   clear hin hat h1
   go_enter Tryz.func68,Tryz.ntmps68
   go_wp2_with fail
   ((try simp only [Exit.inBlock,Exit.then]);refine bodyPost_ret (v:= .tuple #[.agg #[.int .i64 0,.int .i64 0,.int .i64 0,.bool false,.int .i64 0],.int .i64 2]) (by simp only [results,Tryz.results68];go_simp) rfl ?_)
   exact ⟨rfl,HX0.out⟩
 obtain ⟨h1,h2⟩:=hin
 have hat:atA (some ws) i=0:=by simp only [atA];rw [if_neg oM]
 obtain ⟨j,rfl⟩:=Int.eq_ofNat_of_zero_le h1
 have hj:j < ws.length:=by omega
 obtain ⟨z,hz⟩:∃z,ws.getD j 0=z:=⟨_,rfl⟩
 have hzb:0≤z∧z < 18446744073709551616:=by rw [←hz];exact hbd _ (aH hj)
 have hrd:rdA (some ws) (j:Int)=z:=by rw [rdA,if_pos hat];simpa using hz
 obtain ⟨lb,off,rfl,hc⟩:=HL.out.get oM
 have c0:=cF hc hj
 rw [hz]at c0
 obtain ⟨h,hh⟩:∃h,cM z.toNat=h:=⟨_,rfl⟩
 obtain ⟨er,her⟩:∃e,dP z.toNat=e:=⟨_,rfl⟩
 obtain ⟨n,hn⟩:∃n,ap h=n:=⟨_,rfl⟩
 have hnb:=lI h
 rw [hn]at hnb
 have HE:Hid (aV (some ws) (j:Int)=if er=0 then (if (ws.length:Int) - j < n then 2 else 0)else 3):=zH (by
  rw [aV,hat,hrd]
  simp only [if_true]
  rw [←her,←hn,←hh]
  cases hb:dO z.toNat
  ·simp [dP,hb]
  ·simp only [dP,cM,hb,lenA,if_true,Option.getD_some]
   rfl)
 have HH:Hid (aJ (some ws) (j:Int)=if aV (some ws) (j:Int)=0 then h else hd0):=zH (by
  rw [aJ]
  split
  ·rename_i h0
   rw [hrd,←hh,cM]
   have:dO z.toNat=true:=by
    cases hb:dO z.toNat
    ·rw [aV,hat,hrd,hb]at h0;simp at h0
    ·rfl
   rw [this];rfl
  ·rfl)
 have HD:=zH hh
 have HER:=zH her
 have HN:=zH hn
 have HZB:=zH hzb
 have ib1:(j:Int) < (ws.length:Int):=by omega
 have ib2:decide (ws.length≤j)=false:=by simp;omega
 have hlb:=oO c0
 have ib3:decide ((j:Int) < 0)=false:=by simp
 clear hc hz hzb hrd hat hh her hn hbd h1 h2
 go_enter Tryz.func68,Tryz.ntmps68
 go_wp2_with fail
 generalize V.alloc (.cells #[.int .i64 0,.int .i64 0,.int .i64 0,.bool false,.int .i64 0] 85)=W at*
 refine (rm z h er HZB.out HD.out HER.out W).mono ?_
 rintro e w1 ⟨rfl,hx⟩
 have HX1:=zH (HX0.out.trans hx)
 have HB1:=zH ((hx.block (aA HBR.out)).trans HBR.out)
 have hlb1:=aA HB1.out
 clear hx HX0 HBR c0 hlb
 have q0:w1.cell? ⟨V.heap.size,0,none⟩=some (.int .i64 0):=by simp [World.cell?,HB1.out]
 have q1:w1.cell? ⟨V.heap.size,1,none⟩=some (.int .i64 0):=by simp [World.cell?,HB1.out]
 have q2:w1.cell? ⟨V.heap.size,2,none⟩=some (.int .i64 0):=by simp [World.cell?,HB1.out]
 have q3:w1.cell? ⟨V.heap.size,3,none⟩=some (.bool false):=by simp [World.cell?,HB1.out]
 have q4:w1.cell? ⟨V.heap.size,4,none⟩=some (.int .i64 0):=by simp [World.cell?,HB1.out]
 have fr:∀o,w1.frozen? ⟨V.heap.size,o,none⟩=false:=fun o=>frozen_of_row _ _ _ _ _ HB1.out
 by_cases h0:er=0
 rotate_left
 ·have hne:(er !=0)=true:=by simpa using h0
  have he3:er=3:=by
   have:=HER.out
   unfold dP at this
   split at this
   ·exact absurd this.symm h0
   ·exact this.symm
  subst he3
  have HR:Hid (aV (some ws) (j:Int)=3):=zH (by rw [HE.out];rfl)
  have HHH:=zH (cV HR.out dM)
  clear h0 HE
  go_wp2_with fail
  ((try simp only [Exit.inBlock,Exit.then]);refine bodyPost_ret (v:= .tuple #[.agg #[.int .i64 0,.int .i64 0,.int .i64 0,.bool false,.int .i64 0],.int .i64 3]) (by simp only [results,Tryz.results68];go_simp) rfl ?_)
  rw [HHH.out,HR.out]
  exact ⟨rfl,(ext5 HX1.out _ _ _ _ _).alloc _⟩
 subst h0
 have HE2:Hid (aV (some ws) (j:Int)=if (ws.length:Int) - j < n then 2 else 0):=zH (HE.out.trans (if_pos rfl))
 have hbh:=aN w1 #[.int .i64 h.k,.int .i64 h.f,.int .i64 h.r,.bool h.m,.int .i64 h.c] 85 _ rfl
 have HBH:=zH hbh
 have HX2:=zH (HX1.out.alloc (.cells #[.int .i64 h.k,.int .i64 h.f,.int .i64 h.r,.bool h.m,.int .i64 h.c] 85))
 have HB2:=zH (bN (o2:= .cells #[.int .i64 h.k,.int .i64 h.f,.int .i64 h.r,.bool h.m,.int .i64 h.c] 85) HB1.out)
 clear HE hbh HX1 HB1 q0 q1 q2 q3 q4 fr
 go_wp2_with fail
 generalize w1.alloc (.cells #[.int .i64 h.k,.int .i64 h.f,.int .i64 h.r,.bool h.m,.int .i64 h.c] 85)=w2 at*
 generalize w1.heap.size=X at*
 refine (cN h n HN.out w2).mono ?_
 rintro e w3 ⟨rfl,hx⟩
 have HX3:=zH (HX2.out.trans hx)
 have HB3:=zH ((hx.block (aA HB2.out)).trans HB2.out)
 have hb4:=(hx.block (aA HBH.out)).trans HBH.out
 clear hx
 have q0:w3.cell? ⟨V.heap.size,0,none⟩=some (.int .i64 0):=by simp [World.cell?,HB3.out]
 have q1:w3.cell? ⟨V.heap.size,1,none⟩=some (.int .i64 0):=by simp [World.cell?,HB3.out]
 have q2:w3.cell? ⟨V.heap.size,2,none⟩=some (.int .i64 0):=by simp [World.cell?,HB3.out]
 have q3:w3.cell? ⟨V.heap.size,3,none⟩=some (.bool false):=by simp [World.cell?,HB3.out]
 have q4:w3.cell? ⟨V.heap.size,4,none⟩=some (.int .i64 0):=by simp [World.cell?,HB3.out]
 have fr:∀o,w3.frozen? ⟨V.heap.size,o,none⟩=false:=fun o=>frozen_of_row _ _ _ _ _ HB3.out
 have p0:w3.cell? ⟨X,0,none⟩=some (.int .i64 h.k):=by simp [World.cell?,hb4]
 have p1:w3.cell? ⟨X,1,none⟩=some (.int .i64 h.f):=by simp [World.cell?,hb4]
 have p2:w3.cell? ⟨X,2,none⟩=some (.int .i64 h.r):=by simp [World.cell?,hb4]
 have p3:w3.cell? ⟨X,3,none⟩=some (.bool h.m):=by simp [World.cell?,hb4]
 have p4:w3.cell? ⟨X,4,none⟩=some (.int .i64 h.c):=by simp [World.cell?,hb4]
 have hw:wrap64 ((j:Int)+n)=(j:Int)+n:=IntWalk.wrap64_in _ ⟨by omega,by omega⟩
 clear hb4 HBH HB2 HX2
 by_cases hs:(ws.length:Int) - j < n
 ·have d5:decide ((ws.length:Int) < (j:Int)+n)=true:=by simp;omega
  have HR:Hid (aV (some ws) (j:Int)=2):=zH (HE2.out.trans (if_pos hs))
  have HHH:=zH (cV HR.out dM)
  clear hs HE2
  go_wp2_with fail
  ((try simp only [Exit.inBlock,Exit.then]);refine bodyPost_ret (v:= .tuple #[.agg #[.int .i64 0,.int .i64 0,.int .i64 0,.bool false,.int .i64 0],.int .i64 2]) (by simp only [results,Tryz.results68];go_simp) rfl ?_)
  rw [HHH.out,HR.out]
  exact ⟨rfl,ext5 HX3.out _ _ _ _ _⟩
 ·have d5:decide ((ws.length:Int) < (j:Int)+n)=false:=by simp;omega
  have HR:Hid (aV (some ws) (j:Int)=0):=zH (HE2.out.trans (if_neg hs))
  have HHH:Hid (aJ (some ws) (j:Int)=h):=zH (HH.out.trans (if_pos HR.out))
  clear hs HE2
  go_wp2_with fail
  ((try simp only [Exit.inBlock,Exit.then]);refine bodyPost_ret (v:= .tuple #[.agg #[.int .i64 h.k,.int .i64 h.f,.int .i64 h.r,.bool h.m,.int .i64 h.c],.int .i64 0]) (by simp only [results,Tryz.results68];go_simp) rfl ?_)
  rw [HHH.out,HR.out]
  exact ⟨rfl,ext5 HX3.out _ _ _ _ _⟩
theorem wC {w:World} {B g cap n:Nat} {xs:List Int} (h:Own 61 1 u64C w B (.slice (some ⟨g,0,none⟩) n cap) xs) (hn:xs.length=n) (k:Nat) (z:Int):
  Own 61 1 u64C (w.setCell ⟨g,k,none⟩ (.int .u64 z)) B (.slice (some ⟨g,0,none⟩) n cap) (xs.set k z):=by
 unfold Own at h⊢
 rw [hn]at h
 rw [List.length_set,hn,←sd]
 exact (World.ownsRow.stored h k (.int .u64 z)).1
structure ArO (Bo:Nat) (w:World) (b:Nat) (A:Option Addr) (cap:Nat) (ws:List Int):Prop where
 blk:w.heap[b]?=some (.cells #[.bool true,.slice A ws.length cap] 237 (0,0))
 own:Own 61 1 u64C w Bo (.slice A ws.length cap) ws
 base:Bo≤b
 len:ws.length≤98304
 bd:∀z∈ws,0≤z∧z < 18446744073709551616
theorem ArO.ext {Bo:Nat} {w w':World} {b:Nat} {A:Option Addr} {cap:Nat} {ws:List Int} (h:ArO Bo w b A cap ws) (hx:Ext w w'):ArO Bo w' b A cap ws:=⟨(hx.block (aA h.blk)).trans h.blk,h.own.ext hx,h.base,h.len,h.bd⟩
theorem ArO.arB {Bo:Nat} {w:World} {b:Nat} {A:Option Addr} {cap:Nat} {ws:List Int} (h:ArO Bo w b A cap ws):ArB w b A cap ws:=⟨h.blk,(ag h.own dA dM).1,h.len,h.bd⟩
theorem ArO.p {Bo:Nat} {w:World} {b:Nat} {A:Option Addr} {cap:Nat} {ws:List Int} (h:ArO Bo w b A cap ws):ArP w (some ⟨b,0,none⟩) (some ws):=h.arB.p
theorem xw (A:Option Addr) (cap:Nat) (ws:List Int) (V:World) (h:WordsAt V A ws) (hlen:ws.length≤98304) (hbd:∀z∈ws,0≤z∧z < 18446744073709551616):
  Calls Tryz.prog 170 #[.slice A ws.length cap] V fun e w'=>(∃b A cap,e= .returned (.tuple #[.pointer (some ⟨b,0,none⟩),.int .i64 0])∧ArO V.heap.size w' b A cap ws)∧Ext V w':=by
 have d1:decide ((98304:Int) < (ws.length:Int))=false:=by simp;omega
 have HL:=zH hlen
 have HB:=zH hbd
 have HH:=zH h
 clear h hlen hbd
 generalize hn:ws.length=n at*
 have HN:=zH hn
 go_enter Tryz.func170,Tryz.ntmps170
 go_wp2_with fail
 rw [←HN.out]
 refine (gL A cap ws V (by have:=HL.out;have:=HN.out;omega) HH.out).mono ?_
 rintro e w1 ⟨A1,cap1,rfl,hown,hx⟩
 have HO:=zH hown
 have HX:=zH hx
 clear hown hx
 go_wp2_with fail
 go_ret2
 rw [←HN.out]
 exact ⟨⟨w1.heap.size,A1,cap1,rfl,⟨World.alloc_heap_new _ _,HO.out.ext ((zo _).alloc _),HX.out.size,by have:=HL.out;have:=HN.out;omega,HB.out⟩⟩,HX.out.alloc _⟩
end Go.Proofs.YtphpppjfogpohaaGreat
