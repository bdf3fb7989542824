/- Merged by program (merge.py) out of: HdC, HdD, ArA, ObA, RfA, RfB, ArC, ArD, ArE, ObB. -/
import Derived.Test.YtemmjmplhknemaaMp16
import Derived.Test.YtemmjmplhknemaaMp7
import Derived.Test.YtemmjmplhknemaaMp1
set_option linter.unusedSimpArgs false
set_option linter.unusedVariables false
set_option maxRecDepth 100000
set_option maxHeartbeats 16000000
namespace Go.Proofs.Ytemmjmplhknemaa
open Go.RowKit
theorem henc_any (h:Hd) (V:World):Calls Try.prog 67 #[.agg #[.int .i64 h.k,.int .i64 h.f,.int .i64 h.r,.bool h.m,.int .i64 h.c]] V fun e w'=>e= .returned (.tuple #[.int .u64 (hwordZ h),.int .i64 (herrZ h)])∧Ext V w':=by
 have hW:Ext V (V.alloc (.cells #[.int .i64 h.k,.int .i64 h.f,.int .i64 h.r,.bool h.m,.int .i64 h.c] 99)):=(Ext.refl V).alloc _
 have i0:=fun k hk w=>index_parts k hk w
 go_enter Try.func67,Try.ntmps67
 go_wp2_with fail
 generalize V.alloc (.cells #[.int .i64 h.k,.int .i64 h.f,.int .i64 h.r,.bool h.m,.int .i64 h.c] 99)=W at*
 refine (numbers_any h _).mono ?_
 rintro e w1 ⟨rfl,hx⟩
 go_wp2_with fail
 have hb:(w1.alloc (.cells #[.int .i64 (nz h 0),.int .i64 (nz h 1),.int .i64 (nz h 2),.int .i64 (nz h 3),.int .i64 (nz h 4)] 133)).heap[w1.heap.size]?=some (.cells #[.int .i64 (nz h 0),.int .i64 (nz h 1),.int .i64 (nz h 2),.int .i64 (nz h 3),.int .i64 (nz h 4)] 133 (0,0)):=World.alloc_heap_new _ _
 have hxa:=(Ext.refl w1).alloc (.cells #[.int .i64 (nz h 0),.int .i64 (nz h 1),.int .i64 (nz h 2),.int .i64 (nz h 3),.int .i64 (nz h 4)] 133)
 have hxV:=hW.trans (hx.trans hxa)
 generalize w1.alloc (.cells #[.int .i64 (nz h 0),.int .i64 (nz h 1),.int .i64 (nz h 2),.int .i64 (nz h 3),.int .i64 (nz h 4)] 133)=W2 at*
 generalize w1.heap.size=X5 at*
 refine (hparts_any _).mono ?_
 rintro e w3 ⟨rfl,hx3⟩
 have HB:=zH ((hx3.block (lt_of_heap hb)).trans hb)
 have HXV:=zH (hxV.trans hx3)
 have HC:Hid (∀k,k < 5→∀w',Ext w3 w'→w'.cell? ⟨X5,k,none⟩=some (.int .i64 (nz h k))):=zH (fun k hk w' hw'=>hw'.cell (by
  have:k=0∨k=1∨k=2∨k=3∨k=4:=by omega
  rcases this with rfl | rfl | rfl | rfl | rfl <;>simp [World.cell?,HB.out]))
 clear hW hx hb hxa hxV hx3 HB
 go_wp2_with fail
 go_loopw [4,11] (fun u i wr=>∃k:Nat,k≤5∧i= .int .i64 k∧u= .int .u64 (encP h k:Nat)∧Hid (fineTo h k)∧Hid (Ext w3 wr)) (fun _ i _=>5 - (intOf i).toNat)
 case atStart=>exact ⟨0,by omega,rfl,rfl,zH (fun i hi=>by omega),zH (Ext.refl _)⟩
 case round=>
  obtain ⟨k,hk,rfl,rfl,hf,hxr⟩:=hrel
  by_cases hlt:k < 5
  rotate_left
  ·obtain rfl:k=5:=by omega
   have hm:=(fine_may h).1 hf.out
   go_wp2_with fail
   go_ret2
   refine ⟨?_,HXV.out.trans hxr.out⟩
   rw [encP_all,show hwordZ h=hwordN h by rw [hwordZ,hm];rfl,show herrZ h=0 by rw [herrZ,hm];rfl]
   rfl
  have ib1:(k:Int) < 5:=by omega
  have j0:=i0 k hlt
  have HCK:=zH (HC.out k hlt)
  obtain ⟨s1,s2,s3,s4,s5⟩:=p_step k hlt
  have HS:=zH (show fineTo h k→(0≤nz h k∧nz h k≤pMost k)→fineTo h (k+1)from fun h1 h2 i hi=>by
   rcases Nat.lt_or_ge i k with h' | h'
   ·exact h1 i h'
   ·obtain rfl:i=k:=by omega
    exact h2)
  have HN:=zH (fun hn=>may_not h hlt hn)
  have HE:Hid (encP h (k+1)=encP h k+2 ^ pAt k*(nz h k).toNat):=zH rfl
  have HL:=zH (encP_lt h k (by omega) hf.out)
  clear i0
  generalize nz h k=z at*
  generalize encP h k=ew at*
  generalize pAt k=at_ at*
  generalize pN k=pn at*
  generalize pMost k=pm at*
  have s5':=zH s5
  clear s5
  go_wp2_with fail
  have hxb:=hxr.out.alloc (.cells #[.int .i64 (at_:Int),.int .i64 (pn:Int),.int .i64 (pm:Int)] 135)
  have l0:∀u:ExtOf (wr.alloc (.cells #[.int .i64 (at_:Int),.int .i64 (pn:Int),.int .i64 (pm:Int)] 135)),u.1.cell? ⟨X5,k,none⟩=some (.int .i64 z):=fun u=>HCK.out _ (hxb.trans u.2)
  have l1:∀u:ExtOf (wr.alloc (.cells #[.int .i64 (at_:Int),.int .i64 (pn:Int),.int .i64 (pm:Int)] 135)),u.1.cell? ⟨wr.heap.size,0,none⟩=some (.int .i64 (at_:Int)):=fun u=>boxed wr _ _ 0 _ rfl _ u.2
  have l2:∀u:ExtOf (wr.alloc (.cells #[.int .i64 (at_:Int),.int .i64 (pn:Int),.int .i64 (pm:Int)] 135)),u.1.cell? ⟨wr.heap.size,1,none⟩=some (.int .i64 (pn:Int)):=fun u=>boxed wr _ _ 1 _ rfl _ u.2
  have l3:∀u:ExtOf (wr.alloc (.cells #[.int .i64 (at_:Int),.int .i64 (pn:Int),.int .i64 (pm:Int)] 135)),u.1.cell? ⟨wr.heap.size,2,none⟩=some (.int .i64 (pm:Int)):=fun u=>boxed wr _ _ 2 _ rfl _ u.2
  generalize wr.alloc (.cells #[.int .i64 (at_:Int),.int .i64 (pn:Int),.int .i64 (pm:Int)] 135)=W7 at*
  generalize wr.heap.size=X7 at*
  have hx0:=Ext.refl W7
  by_cases c1:z < 0
  ·have d1:decide (z < 0)=true:=by simpa using c1
   have HM:=zH (HN.out (by omega))
   clear HS HN HE HL c1
   (refine wp_region_ext (W:=W7) (by kernel_rfl) (by kernel_rfl) (by with_reducible assumption) ?_;(repeat (go_big_quiet_step (fail)));refine wpQuiet_nil ?_;intro w1 hx)
   go_wp2_with fail
   go_ret2
   refine ⟨?_,HXV.out.trans (hxb.trans hx)⟩
   rw [show hwordZ h=0 by rw [hwordZ,HM.out];rfl,show herrZ h=1 by rw [herrZ,HM.out];rfl]
   rfl
  have d1:decide (z < 0)=false:=by simpa using c1
  by_cases c2:(pm:Int) < z
  ·have d2:decide ((pm:Int) < z)=true:=by simpa using c2
   have HM:=zH (HN.out (by omega))
   clear HS HN HE HL c1 c2
   (refine wp_region_ext (W:=W7) (by kernel_rfl) (by kernel_rfl) (by with_reducible assumption) ?_;(repeat (go_big_quiet_step (fail)));refine wpQuiet_nil ?_;intro w1 hx)
   go_wp2_with fail
   go_ret2
   refine ⟨?_,HXV.out.trans (hxb.trans hx)⟩
   rw [show hwordZ h=0 by rw [hwordZ,HM.out];rfl,show herrZ h=1 by rw [herrZ,HM.out];rfl]
   rfl
  have d2:decide ((pm:Int) < z)=false:=by simpa using c2
  have HF2:=zH (HS.out hf.out ⟨by omega,by omega⟩)
  obtain ⟨x,rfl⟩:=Int.eq_ofNat_of_zero_le (show 0≤z by omega)
  have hxp:x < 2 ^ pn:=by have:=s5'.out;omega
  have d3:decide (pm < x)=false:=by simp;omega
  clear HS HN c1 c2
  (refine wp_region_ext (W:=W7) (by kernel_rfl) (by kernel_rfl) (by with_reducible assumption) ?_;(repeat (go_big_quiet_step (fail)));refine wpQuiet_nil ?_;intro w1 hx)
  go_wp2_with fail
  have HPT:=zH (fun w=>put_is ew at_ pn x s2 s3 s4 HL.out hxp w)
  have hcv:((x:Int) % 18446744073709551616)=(x:Int):=by
   have h1:2 ^ pn≤2 ^ 63:=Nat.pow_le_pow_right (by omega) (by omega)
   generalize 2 ^ pn=m at hxp h1
   omega
  clear hxp d1 d2 d3
  (refine wp_region_seg (W:=W7) [] [(0,true),(1,true),(2,true),(3,true),(4,true),(5,true),(6,true),(7,true),(8,false),(9,false),(10,true),(11,true),(12,true),(13,true)] [] (by kernel_rfl) (by kernel_rfl) (by intro c a d v w h;cases d <;>first | exact h | (cases h;done) | cases h.1.1 | cases h.1) (by with_reducible assumption) ?_;simp only [opsOf,List.map_cons,List.map_nil,List.getD_cons_zero,List.getD_cons_succ])
  ((first | refine seg_cons ?_ | refine seg_last ?_);(repeat (go_big_quiet_step (first | (go_at_call 79;with_reducible exact Calls.ext_of (HPT.out _)))));refine wpQuiet_nil ?_;intro w1 hx)
  go_wp2_with fail
  exact ⟨⟨k+1,by omega,by go_num,by rw [HE.out,Int.toNat_natCast];simp,HF2,zH (hxb.trans hx)⟩,by simp [intOf];omega⟩
theorem henc_is (h:Hd) (u er:Int) (h1:hwordZ h=u) (h2:herrZ h=er) (V:World):Calls Try.prog 67 #[.agg #[.int .i64 h.k,.int .i64 h.f,.int .i64 h.r,.bool h.m,.int .i64 h.c]] V fun e w'=>e= .returned (.tuple #[.int .u64 u,.int .i64 er])∧Ext V w':=by
 rw [←h1,←h2];exact henc_any h V
def hsize (h:Hd):Int:=if hmayB h then 1+h.f+h.r else 0
theorem hsize_any (h:Hd) (V:World):Calls Try.prog 56 #[.agg #[.int .i64 h.k,.int .i64 h.f,.int .i64 h.r,.bool h.m,.int .i64 h.c]] V fun e w'=>e= .returned (.int .i64 (hsize h))∧Ext V w':=by
 have hW:Ext V (V.alloc (.cells #[.int .i64 h.k,.int .i64 h.f,.int .i64 h.r,.bool h.m,.int .i64 h.c] 99)):=(Ext.refl V).alloc _
 have k1:=fun w'=>boxed V #[.int .i64 h.k,.int .i64 h.f,.int .i64 h.r,.bool h.m,.int .i64 h.c] 99 1 (.int .i64 h.f) rfl w'
 have k2:=fun w'=>boxed V #[.int .i64 h.k,.int .i64 h.f,.int .i64 h.r,.bool h.m,.int .i64 h.c] 99 2 (.int .i64 h.r) rfl w'
 obtain ⟨b,hb⟩:∃b,hmayB h=b:=⟨_,rfl⟩
 have HB:=zH hb
 clear hb
 go_enter Try.func56,Try.ntmps56
 go_wp2_with fail
 generalize V.alloc (.cells #[.int .i64 h.k,.int .i64 h.f,.int .i64 h.r,.bool h.m,.int .i64 h.c] 99)=W at*
 cases b
 ·refine (henc_is h 0 1 (by rw [hwordZ,HB.out];rfl) (by rw [herrZ,HB.out];rfl) _).mono ?_
  rintro e w1 ⟨rfl,hx⟩
  go_wp2_with fail
  go_ret
  exact ⟨ret_int (by rw [hsize,HB.out];rfl),hW.trans hx⟩
 ·refine (henc_is h (hwordN h) 0 (by rw [hwordZ,HB.out];rfl) (by rw [herrZ,HB.out];rfl) _).mono ?_
  rintro e w1 ⟨rfl,hx⟩
  go_wp2_with fail
  go_ret
  have hm:=HB.out
  simp only [hmayB,decide_eq_true_eq]at hm
  refine ⟨ret_int ?_,hW.trans hx⟩
  rw [hsize,HB.out]
  show wrap64 (wrap64 (1+h.f)+h.r)=1+h.f+h.r
  unfold wrap64
  omega
def dz (w k:Nat):Nat:=w/2 ^ pAt k % 2 ^ pN k
def dcell (w k i:Nat):Value:= .int .i64 (if i < k then (dz w i:Int)else 0)
def dcells (w k:Nat):Array Value:= #[dcell w k 0,dcell w k 1,dcell w k 2,dcell w k 3,dcell w k 4]
theorem dcells_get (w k i:Nat) (hi:i < 5):(dcells w k)[i]?=some (dcell w k i):=by
 have:i=0∨i=1∨i=2∨i=3∨i=4:=by omega
 rcases this with rfl | rfl | rfl | rfl | rfl <;>rfl
theorem dcells_set (w k:Nat) (hk:k < 5):(dcells w k).setIfInBounds k (.int .i64 (dz w k))=dcells w (k+1):=by
 have:k=0∨k=1∨k=2∨k=3∨k=4:=by omega
 rcases this with rfl | rfl | rfl | rfl | rfl <;>simp [dcells,dcell]
def decH (w:Nat):Hd:=⟨(w/8 % 32:Nat),(w/256 % 65536:Nat),(w/16777216 % 65536:Nat),decide (w/4 % 2=1),(w/1099511627776 % 16777216:Nat)⟩
def hdecB (w:Nat):Bool:=decide (w % 4=3) && hmayB (decH w)
def hdecH (w:Nat):Hd:=if hdecB w then decH w else ⟨0,0,0,false,0⟩
def hdecE (w:Nat):Int:=if hdecB w then 0 else 3
theorem dec_eq (w:Nat) (hw:w < 18446744073709551616):hwordN (decH w)=w↔w % 4=3:=by
 have hm:(if decide (w/4 % 2=1)then 1 else 0:Nat)=w/4 % 2:=by
  by_cases h:w/4 % 2=1
  ·simp [h]
  ·simp [h];omega
 have e:hwordN (decH w)=3+4*(if decide (w/4 % 2=1)then 1 else 0:Nat)+8*(w/8 % 32)+256*(w/256 % 65536)+16777216*(w/16777216 % 65536)+1099511627776*(w/1099511627776 % 16777216):=rfl
 rw [e,hm]
 omega
theorem dz_all (w:Nat) (hw:w < 18446744073709551616):dz w 0=w/4 % 2∧dz w 1=w/8 % 32∧dz w 2=w/256 % 65536∧dz w 3=w/16777216 % 65536∧dz w 4=w/1099511627776 % 16777216:=by
 exact ⟨rfl,rfl,rfl,rfl,rfl⟩
theorem dz_small (w k:Nat) (hk:k < 5):dz w k < 9223372036854775808:=by
 obtain ⟨-, -,h, -⟩:=p_step k hk
 have h1:dz w k < 2 ^ pN k:=Nat.mod_lt _ (Nat.two_pow_pos _)
 have h2:2 ^ pN k≤2 ^ 63:=Nat.pow_le_pow_right (by omega) (by omega)
 omega
theorem decH_cast (w:Nat):decH w=⟨(w:Int)/8 % 32,(w:Int)/256 % 65536,(w:Int)/16777216 % 65536,((w:Int)/4 % 2==1),(w:Int)/1099511627776 % 16777216⟩:=by
 have h:decide (w/4 % 2=1)=((w:Int)/4 % 2==1):=by
  rw [Bool.eq_iff_iff]
  simp only [decide_eq_true_eq,beq_iff_eq]
  omega
 simp [decH,h]
theorem hdec_any (w:Nat) (hw:w < 18446744073709551616) (V:World):Calls Try.prog 65 #[.int .u64 (w:Int)] V fun e w'=>e= .returned (.tuple #[.agg #[.int .i64 (hdecH w).k,.int .i64 (hdecH w).f,.int .i64 (hdecH w).r,.bool (hdecH w).m,.int .i64 (hdecH w).c],.int .i64 (hdecE w)])∧Ext V w':=by
 have i0:=fun k hk w=>index_parts k hk w
 have hbr:=blk_old (o2:= .cells #[.int .i64 0,.int .i64 0,.int .i64 0,.int .i64 0,.int .i64 0] 133) (blk_new V #[.int .i64 0,.int .i64 0,.int .i64 0,.bool false,.int .i64 0] 99 _ rfl)
 have hb4:=blk_new (V.alloc (.cells #[.int .i64 0,.int .i64 0,.int .i64 0,.bool false,.int .i64 0] 99)) #[.int .i64 0,.int .i64 0,.int .i64 0,.int .i64 0,.int .i64 0] 133 (V.heap.size+1) (by simp)
 have hW:Ext V ((V.alloc (.cells #[.int .i64 0,.int .i64 0,.int .i64 0,.bool false,.int .i64 0] 99)).alloc (.cells #[.int .i64 0,.int .i64 0,.int .i64 0,.int .i64 0,.int .i64 0] 133)):=((Ext.refl V).alloc _).alloc _
 go_enter Try.func65,Try.ntmps65
 go_wp2_with fail
 generalize (V.alloc (.cells #[.int .i64 0,.int .i64 0,.int .i64 0,.bool false,.int .i64 0] 99)).alloc (.cells #[.int .i64 0,.int .i64 0,.int .i64 0,.int .i64 0,.int .i64 0] 133)=W at*
 have HBR:=zH hbr
 refine (hparts_any _).mono ?_
 rintro e w1 ⟨rfl,hx1⟩
 have HX1:=zH (hW.trans hx1)
 have HB1:=zH (show w1.heap[V.heap.size+1]?=some (.cells (dcells w 0) 133 (0,0))from (hx1.block (lt_of_heap hb4)).trans hb4)
 have HR1:=zH ((hx1.block (lt_of_heap hbr)).trans hbr)
 clear hbr hb4 hW hx1 HBR
 go_wp2_with fail
 go_loopw [13] (fun i wr=>∃k:Nat,k≤5∧i= .int .i64 k∧Hid (wr.heap[V.heap.size+1]?=some (.cells (dcells w k) 133 (0,0)))∧Hid (wr.heap[V.heap.size]?=some (.cells #[.int .i64 0,.int .i64 0,.int .i64 0,.bool false,.int .i64 0] 99 (0,0)))∧Hid (Ext V wr)) (fun i _=>5 - (intOf i).toNat)
 case atStart=>exact ⟨0,by omega,rfl,HB1,HR1,HX1⟩
 case round=>
  obtain ⟨k,hk,rfl,hb,hr,hx⟩:=hrel
  clear HB1 HR1 HX1
  by_cases hlt:k < 5
  rotate_left
  ·obtain rfl:k=5:=by omega
   have hg:∀i,i < 5→wr.cell? ⟨V.heap.size+1,i,none⟩=some (dcell w 5 i):=fun i hi=>by
    have:=dcells_get w 5 i hi
    simp [World.cell?,hb.out,this]
   have g0:=hg 0 (by omega)
   have g1:=hg 1 (by omega)
   have g2:=hg 2 (by omega)
   have g3:=hg 3 (by omega)
   have g4:=hg 4 (by omega)
   obtain ⟨z0,z1,z2,z3,z4⟩:=dz_all w hw
   simp only [dcell,Nat.reduceLT,if_true,z0,z1,z2,z3,z4]at g0 g1 g2 g3 g4
   clear hg z0 z1 z2 z3 z4 i0
   go_wp2_with fail
   have HC:=zH (decH_cast w)
   have HQ:=zH (dec_eq w hw)
   have r0:∀w',Ext wr w'→w'.cell? ⟨V.heap.size,0,none⟩=some (.int .i64 0):=fun w' h=>h.cell (by simp [World.cell?,hr.out])
   have r1:∀w',Ext wr w'→w'.cell? ⟨V.heap.size,1,none⟩=some (.int .i64 0):=fun w' h=>h.cell (by simp [World.cell?,hr.out])
   have r2:∀w',Ext wr w'→w'.cell? ⟨V.heap.size,2,none⟩=some (.int .i64 0):=fun w' h=>h.cell (by simp [World.cell?,hr.out])
   have r3:∀w',Ext wr w'→w'.cell? ⟨V.heap.size,3,none⟩=some (.bool false):=fun w' h=>h.cell (by simp [World.cell?,hr.out])
   have r4:∀w',Ext wr w'→w'.cell? ⟨V.heap.size,4,none⟩=some (.int .i64 0):=fun w' h=>h.cell (by simp [World.cell?,hr.out])
   have fr:∀w',Ext wr w'→∀o,w'.frozen? ⟨V.heap.size,o,none⟩=false:=fun w' h o=>frozen_of_row _ _ _ _ _ ((h.block (lt_of_heap hr.out)).trans hr.out)
   have bl:=lt_of_heap hr.out
   clear hb g0 g1 g2 g3 g4
   have HXA:=zH (fun o=>(Ext.refl wr).alloc o)
   generalize (w:Int)/8 % 32=zk at*
   generalize (w:Int)/256 % 65536=zf at*
   generalize (w:Int)/16777216 % 65536=zr at*
   generalize ((w:Int)/4 % 2==1)=zm at*
   generalize (w:Int)/1099511627776 % 16777216=zc at*
   have hb9:=blk_new wr #[.int .i64 zk,.int .i64 zf,.int .i64 zr,.bool zm,.int .i64 zc] 99 _ rfl
   have hx9:=HXA.out (.cells #[.int .i64 zk,.int .i64 zf,.int .i64 zr,.bool zm,.int .i64 zc] 99)
   obtain ⟨b,hbm⟩:∃b,hmayB (decH w)=b:=⟨_,rfl⟩
   have HBM:=zH hbm
   have Z:=henc_any ⟨zk,zf,zr,zm,zc⟩ (wr.alloc (.cells #[.int .i64 zk,.int .i64 zf,.int .i64 zr,.bool zm,.int .i64 zc] 99))
   rw [←HC.out,hwordZ,herrZ,hbm]at Z
   clear hbm
   generalize wr.alloc (.cells #[.int .i64 zk,.int .i64 zf,.int .i64 zr,.bool zm,.int .i64 zc] 99)=W9 at*
   generalize wr.heap.size=X9 at*
   rw [HC.out]at Z
   cases b
   ·refine Z.mono ?_
    clear Z
    rintro e w9 ⟨rfl,hx10⟩
    have hxx:=hx9.trans hx10
    simp only [Bool.false_eq_true,if_false]
    have q0:=r0 _ hxx
    have q1:=r1 _ hxx
    have q2:=r2 _ hxx
    have q3:=r3 _ hxx
    have q4:=r4 _ hxx
    have q5:=fr _ hxx
    clear r0 r1 r2 r3 r4 fr hb9
    go_wp2_with fail
    ((try simp only [Exit.inBlock,Exit.then]);refine bodyPost_ret (v:= .tuple #[.agg #[.int .i64 0,.int .i64 0,.int .i64 0,.bool false,.int .i64 0],.int .i64 3]) (by simp only [results,Try.results65];go_simp) rfl ?_)
    refine ⟨?_,(((((hx.out.trans hxx).setCell (by simp) _).setCell (by simp) _).setCell (by simp) _).setCell (by simp) _).setCell (by simp) _⟩
    have e:hdecB w=false:=by rw [hdecB,HBM.out,Bool.and_false]
    rw [hdecH,hdecE,e]
    rfl
   ·refine Z.mono ?_
    clear Z
    rintro e w9 ⟨rfl,hx10⟩
    have hxx:=hx9.trans hx10
    simp only [if_true]
    have q0:=r0 _ hxx
    have q1:=r1 _ hxx
    have q2:=r2 _ hxx
    have q3:=r3 _ hxx
    have q4:=r4 _ hxx
    have q5:=fr _ hxx
    have hb10:=(hx10.block (lt_of_heap hb9)).trans hb9
    have p0:w9.cell? ⟨X9,0,none⟩=some (.int .i64 zk):=by simp [World.cell?,hb10]
    have p1:w9.cell? ⟨X9,1,none⟩=some (.int .i64 zf):=by simp [World.cell?,hb10]
    have p2:w9.cell? ⟨X9,2,none⟩=some (.int .i64 zr):=by simp [World.cell?,hb10]
    have p3:w9.cell? ⟨X9,3,none⟩=some (.bool zm):=by simp [World.cell?,hb10]
    have p4:w9.cell? ⟨X9,4,none⟩=some (.int .i64 zc):=by simp [World.cell?,hb10]
    clear r0 r1 r2 r3 r4 fr hb9 hb10
    by_cases h3:w % 4=3
    ·have hne : (((hwordN ⟨zk, zf, zr, zm, zc⟩ : Nat) : Int) != (w : Int)) = false := by
      have:=HQ.out.2 h3
      rw [HC.out]at this
      rw [this]
      simp
     generalize hwordN ⟨zk,zf,zr,zm,zc⟩=hwn at*
     go_wp2_with fail
     ((try simp only [Exit.inBlock,Exit.then]);refine bodyPost_ret (v:= .tuple #[.agg #[.int .i64 zk,.int .i64 zf,.int .i64 zr,.bool zm,.int .i64 zc],.int .i64 0]) (by simp only [results,Try.results65];go_simp) rfl ?_)
     refine ⟨?_,(((((hx.out.trans hxx).setCell (by simp) _).setCell (by simp) _).setCell (by simp) _).setCell (by simp) _).setCell (by simp) _⟩
     have e:hdecB w=true:=by rw [hdecB,HBM.out,h3];rfl
     rw [hdecH,hdecE,e,if_pos rfl,if_pos rfl,HC.out]
    ·have hne : (((hwordN ⟨zk, zf, zr, zm, zc⟩ : Nat) : Int) != (w : Int)) = true := by
      have this:¬(hwordN (decH w)=w):=fun h=>h3 (HQ.out.1 h)
      rw [HC.out]at this
      simp only [bne_iff_ne,ne_eq]
      omega
     generalize hwordN ⟨zk,zf,zr,zm,zc⟩=hwn at*
     go_wp2_with fail
     ((try simp only [Exit.inBlock,Exit.then]);refine bodyPost_ret (v:= .tuple #[.agg #[.int .i64 0,.int .i64 0,.int .i64 0,.bool false,.int .i64 0],.int .i64 3]) (by simp only [results,Try.results65];go_simp) rfl ?_)
     refine ⟨?_,(((((hx.out.trans hxx).setCell (by simp) _).setCell (by simp) _).setCell (by simp) _).setCell (by simp) _).setCell (by simp) _⟩
     have e:hdecB w=false:=by rw [hdecB,decide_eq_false h3,Bool.false_and]
     rw [hdecH,hdecE,e]
     rfl
  have ib1:(k:Int) < 5:=by omega
  have j0:=i0 k hlt
  obtain ⟨s1,s2,s3,s4,s5⟩:=p_step k hlt
  have HST:=zH (dcells_set w k hlt)
  have hd:dz w k=w/2 ^ pAt k % 2 ^ pN k:=rfl
  have ck:wr.cell? ⟨V.heap.size+1,k,none⟩=some (dcell w k k):=by
   have:=dcells_get w k k hlt
   simp [World.cell?,hb.out,this]
  have fk:wr.frozen? ⟨V.heap.size+1,k,none⟩=false:=frozen_of_row _ _ _ _ _ hb.out
  have hgt:=get_is w (pAt k) (pN k) s2 s3 s4 hw
  rw [←hd]at hgt
  clear i0 hd
  generalize pAt k=at_ at*
  generalize pN k=pn at*
  generalize pMost k=pm at*
  clear s1 s2 s3 s4 s5
  go_wp2_with fail
  refine (hgt _).mono ?_
  rintro e w4 ⟨rfl,hx4⟩
  have hxa:=(Ext.refl wr).alloc (.cells #[.int .i64 (at_:Int),.int .i64 (pn:Int),.int .i64 (pm:Int)] 135)
  have hxw:=hxa.trans hx4
  have c4:=hxw.cell ck
  have HB4:=zH ((hxw.block (lt_of_heap hb.out)).trans hb.out)
  have HR4:=zH ((hxw.block (lt_of_heap hr.out)).trans hr.out)
  have f4:w4.frozen? ⟨V.heap.size+1,k,none⟩=false:=frozen_of_row _ _ _ _ _ HB4.out
  have HX4:=zH (hx.out.trans hxw)
  have hdl:dz w k < 18446744073709551616:=by
   have:dz w k≤w:=Nat.le_trans (Nat.mod_le _ _) (Nat.div_le_self _ _)
   omega
  have HDL:Hid (dz w k < 9223372036854775808):=zH (dz_small w k hlt)
  clear hgt ck fk hxa hx4 hb hr hx hxw hdl
  generalize dz w k=dk at*
  have hdl:=HDL.out
  go_wp2_with fail
  have h5:=HB4.out
  have hsame:=heap_setCell_same w4 (V.heap.size+1) k _ _ (.int .i64 (dk:Int)) h5
  rw [HST.out]at hsame
  exact ⟨⟨k+1,by omega,by go_num,zH hsame,zH ((Below.heap_setCell w4 ⟨V.heap.size+1,k,none⟩ _ V.heap.size (by simp)).trans HR4.out),zH (HX4.out.setCell (by simp) _)⟩,by simp [intOf];omega⟩
structure ArB (w:World) (b:Nat) (A:Option Addr) (cap:Nat) (ws:List Int):Prop where
 blk:w.heap[b]?=some (.cells #[.bool true,.slice A ws.length cap] 112 (0,0))
 row:WordsAt w A ws
 len:ws.length≤98304
 bd:∀z∈ws,0≤z∧z < 18446744073709551616
theorem ArB.ext {w w':World} {b:Nat} {A:Option Addr} {cap:Nat} {ws:List Int} (h:ArB w b A cap ws) (hx:Ext w w'):ArB w' b A cap ws:=⟨(hx.block (lt_of_heap h.blk)).trans h.blk,h.row.ext hx,h.len,h.bd⟩
def ArP (w:World) (p:Option Addr) (l:Option (List Int)):Prop:=(p=none∧l=none)∨∃b A cap ws,p=some ⟨b,0,none⟩∧l=some ws∧ArB w b A cap ws
theorem ArP.ext {w w':World} {p:Option Addr} {l:Option (List Int)} (h:ArP w p l) (hx:Ext w w'):ArP w' p l:=by
 rcases h with h | ⟨b,A,cap,ws,h1,h2,h3⟩
 ·exact .inl h
 ·exact .inr ⟨b,A,cap,ws,h1,h2,h3.ext hx⟩
theorem ArP.nil (w:World):ArP w none none:= .inl ⟨rfl,rfl⟩
theorem ArB.p {w:World} {b:Nat} {A:Option Addr} {cap:Nat} {ws:List Int} (h:ArB w b A cap ws):ArP w (some ⟨b,0,none⟩) (some ws):= .inr ⟨b,A,cap,ws,rfl,rfl,h⟩
def lenA (l:Option (List Int)):Int:=(l.getD []).length
def atA (l:Option (List Int)) (i:Int):Int:=match l with | none=>10 | some ws=>if i < 0∨(ws.length:Int)≤i then 2 else 0
def rdA (l:Option (List Int)) (i:Int):Int:=if atA l i=0 then (l.getD []).getD i.toNat 0 else 0
theorem adead_any (p:Option Addr) (l:Option (List Int)) (V:World) (h:ArP V p l):Calls Try.prog 77 #[.pointer p] V fun e w'=>e= .returned (.bool l.isNone)∧Ext V w':=by
 rcases h with ⟨rfl,rfl⟩ | ⟨b,A,cap,ws,rfl,rfl,hb⟩
 ·go_enter Try.func77,Try.ntmps77
  go_wp2_with fail
  go_ret
  exact ⟨rfl,Ext.refl _⟩
 ·have c0:V.cell? ⟨b,0,none⟩=some (.bool true):=by simp [World.cell?,hb.blk]
  clear hb
  go_enter Try.func77,Try.ntmps77
  go_wp2_with fail
  go_ret
  exact ⟨rfl,Ext.refl _⟩
theorem alen_any (p:Option Addr) (l:Option (List Int)) (V:World) (h:ArP V p l):Calls Try.prog 66 #[.pointer p] V fun e w'=>e= .returned (.int .i64 (lenA l))∧Ext V w':=by
 have h0:=h
 rcases h with ⟨rfl,rfl⟩ | ⟨b,A,cap,ws,rfl,rfl,hb⟩
 ·clear h0
  have hW:=Ext.refl V
  go_enter Try.func66,Try.ntmps66
  go_wp2_with fail
  refine (adead_any none none V (ArP.nil V)).mono ?_
  rintro e w1 ⟨rfl,hx⟩
  go_wp2_with fail
  go_ret
  exact ⟨rfl,hx⟩
 ·have HB:=zH hb
  clear hb h0
  go_enter Try.func66,Try.ntmps66
  go_wp2_with fail
  refine (adead_any _ _ V HB.out.p).mono ?_
  rintro e w1 ⟨rfl,hx⟩
  have c1:w1.cell? ⟨b,1,none⟩=some (.slice A ws.length cap):=hx.cell (by simp [World.cell?,HB.out.blk])
  go_wp2_with fail
  go_ret
  exact ⟨rfl,hx⟩
theorem aat_any (p:Option Addr) (l:Option (List Int)) (i:Int) (V:World) (h:ArP V p l):Calls Try.prog 74 #[.pointer p,.int .i64 i] V fun e w'=>e= .returned (.int .i64 (atA l i))∧Ext V w':=by
 rcases h with ⟨rfl,rfl⟩ | ⟨b,A,cap,ws,rfl,rfl,hb⟩
 ·have hW:=Ext.refl V
  go_enter Try.func74,Try.ntmps74
  go_wp2_with fail
  refine (adead_any none none V (ArP.nil V)).mono ?_
  rintro e w1 ⟨rfl,hx⟩
  go_wp2_with fail
  go_ret
  exact ⟨rfl,hx⟩
 ·have HB:=zH hb
  clear hb
  go_enter Try.func74,Try.ntmps74
  go_wp2_with fail
  refine (adead_any _ _ V HB.out.p).mono ?_
  rintro e w1 ⟨rfl,hx⟩
  have c1:w1.cell? ⟨b,1,none⟩=some (.slice A ws.length cap):=hx.cell (by simp [World.cell?,HB.out.blk])
  by_cases h1:i < 0
  ·have d1:decide (i < 0)=true:=by simpa using h1
   have HR:Hid (atA (some ws) i=2):=zH (by simp [atA,h1])
   clear h1
   go_wp2_with fail
   go_ret
   exact ⟨ret_int HR.out.symm,hx⟩
  have d1:decide (i < 0)=false:=by simpa using h1
  by_cases h2:(ws.length:Int)≤i
  ·have d2:decide ((ws.length:Int)≤i)=true:=by simpa using h2
   have HR:Hid (atA (some ws) i=2):=zH (by simp [atA,h2])
   clear h1 h2
   go_wp2_with fail
   go_ret
   exact ⟨ret_int HR.out.symm,hx⟩
  have d2:decide ((ws.length:Int)≤i)=false:=by simpa using h2
  have HR:Hid (atA (some ws) i=0):=zH (by simp [atA,h1,h2])
  clear h1 h2
  go_wp2_with fail
  go_ret
  exact ⟨ret_int HR.out.symm,hx⟩
theorem aat_is (p:Option Addr) (l:Option (List Int)) (i er:Int) (h0:atA l i=er) (V:World) (h:ArP V p l):Calls Try.prog 74 #[.pointer p,.int .i64 i] V fun e w'=>e= .returned (.int .i64 er)∧Ext V w':=by
 rw [←h0];exact aat_any p l i V h
theorem atA_zero {l:Option (List Int)} {i:Int} (h:atA l i=0):∃ws,l=some ws∧0≤i∧i < ws.length:=by
 cases l with
 | none=>simp [atA]at h
 | some ws=>
  refine ⟨ws,rfl,?_⟩
  simp only [atA]at h
  split at h
  ·cases h
  ·omega
theorem aread_any (p:Option Addr) (l:Option (List Int)) (i:Int) (V:World) (h:ArP V p l):Calls Try.prog 64 #[.pointer p,.int .i64 i] V fun e w'=>e= .returned (.tuple #[.int .u64 (rdA l i),.int .i64 (atA l i)])∧Ext V w':=by
 obtain ⟨er,her⟩:∃er,atA l i=er:=⟨_,rfl⟩
 have HE:=zH her
 have HP:=zH h
 clear h
 by_cases h0:er=0
 ·subst h0
  obtain ⟨ws,rfl,h1,h2⟩:=atA_zero her
  rcases HP.out with ⟨_,h⟩ | ⟨b,A,cap,ws',rfl,hl,hb⟩
  ·cases h
  injection hl with hl
  subst hl
  obtain ⟨j,rfl⟩:=Int.eq_ofNat_of_zero_le h1
  have hj:j < ws.length:=by omega
  obtain ⟨lb,off,rfl,hc⟩:=hb.row.get (by omega)
  have d0:=words_cell hc hj
  have HR:Hid (rdA (some ws) (j:Int)=ws.getD j 0):=zH (by rw [rdA,HE.out];simp)
  have HB:=zH hb
  have ib1:(j:Int) < (ws.length:Int):=by omega
  clear hc hb her h1 h2
  generalize ws.getD j 0=z at*
  go_enter Try.func64,Try.ntmps64
  go_wp2_with fail
  refine (aat_is _ _ _ 0 HE.out V HP.out).mono ?_
  rintro e w1 ⟨rfl,hx⟩
  have c1:w1.cell? ⟨b,1,none⟩=some (.slice (some ⟨lb,off,none⟩) ws.length cap):=hx.cell (by simp [World.cell?,HB.out.blk])
  have c2:=hx.cell d0
  go_wp2_with fail
  go_ret2
  exact ⟨by rw [HR.out,HE.out];rfl,hx⟩
 ·have hne:(er !=0)=true:=by simpa using h0
  have HR:Hid (rdA l i=0):=zH (by rw [rdA,if_neg (by rw [her];exact h0)])
  clear her h0
  go_enter Try.func64,Try.ntmps64
  go_wp2_with fail
  refine (aat_is _ _ _ er HE.out V HP.out).mono ?_
  rintro e w1 ⟨rfl,hx⟩
  go_wp2_with fail
  go_ret2
  exact ⟨by rw [HR.out,HE.out];rfl,hx⟩
theorem aread_is (p:Option Addr) (l:Option (List Int)) (i z er:Int) (h1:rdA l i=z) (h2:atA l i=er) (V:World) (h:ArP V p l):Calls Try.prog 64 #[.pointer p,.int .i64 i] V fun e w'=>e= .returned (.tuple #[.int .u64 z,.int .i64 er])∧Ext V w':=by
 rw [←h1,←h2];exact aread_any p l i V h
def hd0:Hd:=⟨0,0,0,false,0⟩
def headE (l:Option (List Int)) (i:Int):Int:=if atA l i=0 then (if hdecB (rdA l i).toNat then (if lenA l - i < hsize (decH (rdA l i).toNat)then 2 else 0)else 3)else atA l i
def headH (l:Option (List Int)) (i:Int):Hd:=if headE l i=0 then decH (rdA l i).toNat else hd0
theorem ext5 {V w:World} (h:Ext V w) (u0 u1 u2 u3 u4:Value):Ext V (((((w.setCell ⟨V.heap.size,0,none⟩ u0).setCell ⟨V.heap.size,1,none⟩ u1).setCell ⟨V.heap.size,2,none⟩ u2).setCell ⟨V.heap.size,3,none⟩ u3).setCell ⟨V.heap.size,4,none⟩ u4):=
 ((((h.setCell (by simp) _).setCell (by simp) _).setCell (by simp) _).setCell (by simp) _).setCell (by simp) _
theorem headH_bad {l:Option (List Int)} {i er:Int} (h:headE l i=er) (hne:er≠0):headH l i=hd0:=by rw [headH,h,if_neg hne]
theorem hdec_is (z:Int) (h:Hd) (er:Int) (h0:0≤z∧z < 18446744073709551616) (h1:hdecH z.toNat=h) (h2:hdecE z.toNat=er) (V:World):Calls Try.prog 65 #[.int .u64 z] V fun e w'=>e= .returned (.tuple #[.agg #[.int .i64 h.k,.int .i64 h.f,.int .i64 h.r,.bool h.m,.int .i64 h.c],.int .i64 er])∧Ext V w':=by
 have:=hdec_any z.toNat (by omega) V
 rw [←h1,←h2]
 rwa [Int.toNat_of_nonneg h0.1]at this
theorem hsize_is (h:Hd) (n:Int) (h1:hsize h=n) (V:World):Calls Try.prog 56 #[.agg #[.int .i64 h.k,.int .i64 h.f,.int .i64 h.r,.bool h.m,.int .i64 h.c]] V fun e w'=>e= .returned (.int .i64 n)∧Ext V w':=by
 rw [←h1];exact hsize_any h V
theorem alen_is (p:Option Addr) (l:Option (List Int)) (n:Int) (h1:lenA l=n) (V:World) (h:ArP V p l):Calls Try.prog 66 #[.pointer p] V fun e w'=>e= .returned (.int .i64 n)∧Ext V w':=by
 rw [←h1];exact alen_any p l V h
theorem ohead_any (p:Option Addr) (l:Option (List Int)) (i:Int) (V:World) (h:ArP V p l) (hi: -9223372036854775808≤i∧i≤9223372036854775807):Calls Try.prog 53 #[.pointer p,.int .i64 i] V fun e w'=>e= .returned (.tuple #[.agg #[.int .i64 (headH l i).k,.int .i64 (headH l i).f,.int .i64 (headH l i).r,.bool (headH l i).m,.int .i64 (headH l i).c],.int .i64 (headE l i)])∧Ext V w':=by
 have HP:=zH h
 obtain ⟨er,her⟩:∃er,atA l i=er:=⟨_,rfl⟩
 obtain ⟨z,hz⟩:∃z,rdA l i=z:=⟨_,rfl⟩
 have HE:=zH her
 have HZ:=zH hz
 have hx0:=(Ext.refl V).alloc (.cells #[.int .i64 0,.int .i64 0,.int .i64 0,.bool false,.int .i64 0] 99)
 have hbr:=blk_new V #[.int .i64 0,.int .i64 0,.int .i64 0,.bool false,.int .i64 0] 99 _ rfl
 clear h her hz
 go_enter Try.func53,Try.ntmps53
 go_wp2_with fail
 generalize V.alloc (.cells #[.int .i64 0,.int .i64 0,.int .i64 0,.bool false,.int .i64 0] 99)=W at*
 have r0:∀w',Ext W w'→w'.cell? ⟨V.heap.size,0,none⟩=some (.int .i64 0):=fun w' h=>h.cell (by simp [World.cell?,hbr])
 have r1:∀w',Ext W w'→w'.cell? ⟨V.heap.size,1,none⟩=some (.int .i64 0):=fun w' h=>h.cell (by simp [World.cell?,hbr])
 have r2:∀w',Ext W w'→w'.cell? ⟨V.heap.size,2,none⟩=some (.int .i64 0):=fun w' h=>h.cell (by simp [World.cell?,hbr])
 have r3:∀w',Ext W w'→w'.cell? ⟨V.heap.size,3,none⟩=some (.bool false):=fun w' h=>h.cell (by simp [World.cell?,hbr])
 have r4:∀w',Ext W w'→w'.cell? ⟨V.heap.size,4,none⟩=some (.int .i64 0):=fun w' h=>h.cell (by simp [World.cell?,hbr])
 have fr:∀w',Ext W w'→∀o,w'.frozen? ⟨V.heap.size,o,none⟩=false:=fun w' h o=>frozen_of_row _ _ _ _ _ ((h.block (lt_of_heap hbr)).trans hbr)
 have bl:=lt_of_heap hbr
 clear hbr
 refine (aread_is p l i z er HZ.out HE.out _ (HP.out.ext hx0)).mono ?_
 rintro e w1 ⟨rfl,hx⟩
 by_cases h0:er=0
 rotate_left
 ·have hne:(er !=0)=true:=by simpa using h0
  have HR:Hid (headE l i=er):=zH (by rw [headE,HE.out,if_neg h0])
  have HH:=zH (headH_bad HR.out h0)
  have q0:=r0 _ hx
  have q1:=r1 _ hx
  have q2:=r2 _ hx
  have q3:=r3 _ hx
  have q4:=r4 _ hx
  have q5:=fr _ hx
  clear r0 r1 r2 r3 r4 fr h0
  go_wp2_with fail
  ((try simp only [Exit.inBlock,Exit.then]);refine bodyPost_ret (v:= .tuple #[.agg #[.int .i64 0,.int .i64 0,.int .i64 0,.bool false,.int .i64 0],.int .i64 er]) (by simp only [results,Try.results53];go_simp) rfl ?_)
  refine ⟨?_,(((((hx0.trans hx).setCell (by simp) _).setCell (by simp) _).setCell (by simp) _).setCell (by simp) _).setCell (by simp) _⟩
  rw [HH.out,HR.out]
  rfl
 subst h0
 have hzb:0≤z∧z < 18446744073709551616:=by
  obtain ⟨ws,rfl,h1,h2⟩:=atA_zero HE.out
  rcases HP.out with ⟨_,h⟩ | ⟨b,A,cap,ws',rfl,hl,hb⟩
  ·cases h
  injection hl with hl
  subst hl
  have:=HZ.out
  rw [rdA,if_pos HE.out]at this
  have h3:ws.getD i.toNat 0=z:=this
  rw [←h3]
  exact hb.bd _ (getD_mem (show i.toNat < ws.length by omega))
 obtain ⟨b,hb⟩:∃b,hdecB z.toNat=b:=⟨_,rfl⟩
 have HB:=zH hb
 clear hb
 go_wp2_with fail
 cases b
 ·refine (hdec_is z hd0 3 hzb (by rw [hdecH,HB.out];rfl) (by rw [hdecE,HB.out];rfl) _).mono ?_
  rintro e w2 ⟨rfl,hx2⟩
  have HR:Hid (headE l i=3):=zH (by rw [headE,HE.out,if_pos rfl,HZ.out,HB.out];rfl)
  have HH:=zH (headH_bad HR.out (by decide))
  replace hx:=hx.trans hx2
  have q0:=r0 _ hx
  have q1:=r1 _ hx
  have q2:=r2 _ hx
  have q3:=r3 _ hx
  have q4:=r4 _ hx
  have q5:=fr _ hx
  have bl2:V.heap.size < w2.heap.size:=Nat.lt_of_lt_of_le bl hx.size
  clear r0 r1 r2 r3 r4 fr
  go_wp2_with fail
  ((try simp only [Exit.inBlock,Exit.then]);refine bodyPost_ret (v:= .tuple #[.agg #[.int .i64 0,.int .i64 0,.int .i64 0,.bool false,.int .i64 0],.int .i64 3]) (by simp only [results,Try.results53];go_simp) rfl ?_)
  refine ⟨?_,?_⟩
  ·rw [HH.out,HR.out]
   rfl
  ·exact (ext5 (hx0.trans hx) _ _ _ _ _).alloc _
 ·have hok : 0 ≤ i ∧ i < lenA l := by
   obtain ⟨ws,rfl,h1,h2⟩:=atA_zero HE.out
   exact ⟨h1,h2⟩
  have hll:lenA l≤98304:=by
   rcases HP.out with ⟨_,rfl⟩ | ⟨b,A,cap,ws',rfl,rfl,hb⟩
   ·simp [lenA]
   ·have:=hb.len;simp [lenA];omega
  have HM:Hid (hmayB (decH z.toNat)=true):=zH (by have:=HB.out;simp only [hdecB,Bool.and_eq_true]at this;exact this.2)
  refine (hdec_is z (decH z.toNat) 0 hzb (by rw [hdecH,HB.out];rfl) (by rw [hdecE,HB.out];rfl) _).mono ?_
  rintro e w2 ⟨rfl,hx2⟩
  have HHE:Hid (headE l i=if lenA l - i < hsize (decH z.toNat)then 2 else 0):=zH (by rw [headE,HE.out,if_pos rfl,HZ.out,HB.out,if_pos rfl])
  have HHH:Hid (headE l i=0→headH l i=decH z.toNat):=zH (fun h=>by rw [headH,if_pos h,HZ.out])
  replace hx:=hx.trans hx2
  have bl2:V.heap.size < w2.heap.size:=Nat.lt_of_lt_of_le bl hx.size
  generalize decH z.toNat=h at*
  clear hx2
  go_wp2_with fail
  have hxa:=(Ext.refl w2).alloc (.cells #[.int .i64 h.k,.int .i64 h.f,.int .i64 h.r,.bool h.m,.int .i64 h.c] 99)
  have hb8:=blk_new w2 #[.int .i64 h.k,.int .i64 h.f,.int .i64 h.r,.bool h.m,.int .i64 h.c] 99 _ rfl
  have hx8:=hx.trans hxa
  clear bl2
  generalize w2.alloc (.cells #[.int .i64 h.k,.int .i64 h.f,.int .i64 h.r,.bool h.m,.int .i64 h.c] 99)=W8 at*
  generalize w2.heap.size=X8 at*
  obtain ⟨n,hn⟩:∃n,hsize h=n:=⟨_,rfl⟩
  obtain ⟨m,hm⟩:∃m,lenA l=m:=⟨_,rfl⟩
  have HN:=zH hn
  have HMM:=zH hm
  rw [hm]at hok hll
  clear hn hm
  refine (hsize_is h n HN.out _).mono ?_
  rintro e w3 ⟨rfl,hx3⟩
  go_wp2_with fail
  refine (alen_is p l m HMM.out _ (HP.out.ext (hx0.trans (hx8.trans hx3)))).mono ?_
  rintro e w4 ⟨rfl,hx4⟩
  have hx5:=hx8.trans (hx3.trans hx4)
  have hb9:=((hx3.trans hx4).block (lt_of_heap hb8)).trans hb8
  have q0:=r0 _ hx5
  have q1:=r1 _ hx5
  have q2:=r2 _ hx5
  have q3:=r3 _ hx5
  have q4:=r4 _ hx5
  have q5:=fr _ hx5
  have p0:w4.cell? ⟨X8,0,none⟩=some (.int .i64 h.k):=by simp [World.cell?,hb9]
  have p1:w4.cell? ⟨X8,1,none⟩=some (.int .i64 h.f):=by simp [World.cell?,hb9]
  have p2:w4.cell? ⟨X8,2,none⟩=some (.int .i64 h.r):=by simp [World.cell?,hb9]
  have p3:w4.cell? ⟨X8,3,none⟩=some (.bool h.m):=by simp [World.cell?,hb9]
  have p4:w4.cell? ⟨X8,4,none⟩=some (.int .i64 h.c):=by simp [World.cell?,hb9]
  have hsub:wrap64 (m - i)=m - i:=by unfold wrap64;omega
  clear r0 r1 r2 r3 r4 fr hb8 hb9 hx3 hx4 hx8 hxa
  by_cases hc:m - i < n
  ·have hd:decide (m - i < n)=true:=by simpa using hc
   have HR:Hid (headE l i=2):=zH (by rw [HHE.out,HMM.out,HN.out,if_pos hc])
   have HH:=zH (headH_bad HR.out (by decide))
   clear hc
   go_wp2_with fail
   ((try simp only [Exit.inBlock,Exit.then]);refine bodyPost_ret (v:= .tuple #[.agg #[.int .i64 0,.int .i64 0,.int .i64 0,.bool false,.int .i64 0],.int .i64 2]) (by simp only [results,Try.results53];go_simp) rfl ?_)
   refine ⟨?_,ext5 (hx0.trans hx5) _ _ _ _ _⟩
   rw [HH.out,HR.out]
   rfl
  ·have hd:decide (m - i < n)=false:=by simpa using hc
   have HR:Hid (headE l i=0):=zH (by rw [HHE.out,HMM.out,HN.out,if_neg hc])
   have HH:=zH (HHH.out HR.out)
   clear hc
   go_wp2_with fail
   ((try simp only [Exit.inBlock,Exit.then]);refine bodyPost_ret (v:= .tuple #[.agg #[.int .i64 h.k,.int .i64 h.f,.int .i64 h.r,.bool h.m,.int .i64 h.c],.int .i64 0]) (by simp only [results,Try.results53];go_simp) rfl ?_)
   refine ⟨?_,ext5 (hx0.trans hx5) _ _ _ _ _⟩
   rw [HH.out,HR.out]
end Go.Proofs.Ytemmjmplhknemaa
namespace Go.Proofs.Ytemmjmplhknemaa
open Go.RowKit Go.Shelf
structure ArO (Bo:Nat) (w:World) (b:Nat) (A:Option Addr) (cap:Nat) (ws:List Int):Prop where
 blk:w.heap[b]?=some (.cells #[.bool true,.slice A ws.length cap] 112 (0,0))
 own:Own 54 1 u64C w Bo (.slice A ws.length cap) ws
 base:Bo≤b
 len:ws.length≤98304
 bd:∀z∈ws,0≤z∧z < 18446744073709551616
theorem ArO.ext {Bo:Nat} {w w':World} {b:Nat} {A:Option Addr} {cap:Nat} {ws:List Int} (h:ArO Bo w b A cap ws) (hx:Ext w w'):ArO Bo w' b A cap ws:=⟨(hx.block (lt_of_heap h.blk)).trans h.blk,h.own.ext hx,h.base,h.len,h.bd⟩
theorem ArO.arB {Bo:Nat} {w:World} {b:Nat} {A:Option Addr} {cap:Nat} {ws:List Int} (h:ArO Bo w b A cap ws):ArB w b A cap ws:=⟨h.blk,(own_row h.own u64Cells (by decide)).1,h.len,h.bd⟩
theorem ArO.p {Bo:Nat} {w:World} {b:Nat} {A:Option Addr} {cap:Nat} {ws:List Int} (h:ArO Bo w b A cap ws):ArP w (some ⟨b,0,none⟩) (some ws):=h.arB.p
theorem aof_any (A:Option Addr) (cap:Nat) (ws:List Int) (V:World) (h:WordsAt V A ws) (hlen:ws.length≤98304) (hbd:∀z∈ws,0≤z∧z < 18446744073709551616):
  Calls Try.prog 51 #[.slice A ws.length cap] V fun e w'=>(∃b A cap,e= .returned (.tuple #[.pointer (some ⟨b,0,none⟩),.int .i64 0])∧ArO V.heap.size w' b A cap ws)∧Ext V w':=by
 have d1:decide ((98304:Int) < (ws.length:Int))=false:=by simp;omega
 have HL:=zH hlen
 have HB:=zH hbd
 have HH:=zH h
 clear h hlen hbd
 generalize hn:ws.length=n at*
 have HN:=zH hn
 go_enter Try.func51,Try.ntmps51
 go_wp2_with fail
 rw [←HN.out]
 refine (cloneU_any A cap ws V (by have:=HL.out;have:=HN.out;omega) HH.out).mono ?_
 rintro e w1 ⟨A1,cap1,rfl,hown,hx⟩
 have HO:=zH hown
 have HX:=zH hx
 clear hown hx
 go_wp2_with fail
 go_ret2
 rw [←HN.out]
 exact ⟨⟨w1.heap.size,A1,cap1,rfl,⟨World.alloc_heap_new _ _,HO.out.ext ((Ext.refl _).alloc _),HX.out.size,by have:=HL.out;have:=HN.out;omega,HB.out⟩⟩,HX.out.alloc _⟩
end Go.Proofs.Ytemmjmplhknemaa
