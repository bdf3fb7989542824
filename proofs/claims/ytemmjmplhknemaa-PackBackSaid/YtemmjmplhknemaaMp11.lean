/- Merged by program (merge.py) out of: Iter, JoinW, JoinX, GapsW, Law03A, ExtA, ExtB, ExtC, ExtD, ExtE, LedA, Law03B, StD, StDa. -/
import Derived.Deep.Cut
import Derived.Shelf.Abstract
import Derived.Lib.SliceRun
import Derived.Test.YtemmjmplhknemaaMp6
import Derived.Test.YtemmjmplhknemaaMp9
import Derived.Test.YtemmjmplhknemaaMp10
import Derived.Test.YtemmjmplhknemaaMp7
import Derived.Test.YtemmjmplhknemaaMp4
set_option linter.unusedSimpArgs false
set_option linter.unusedVariables false
set_option maxRecDepth 100000
set_option maxHeartbeats 16000000
namespace Go.Proofs.Ytemmjmplhknemaa
open Go.RowKit
theorem rows_any (A:Option Addr) (n cap:Nat) (w:World):
  Calls Try.prog 81 #[.slice A n cap] w fun e w'=>e= .returned (.func (.func 85) #[] #[.pointer (some ⟨w.heap.size,0,none⟩)])∧w'=w.alloc (.cells #[.slice A n cap] 25):=by
 go_enter Try.func81,Try.ntmps81
 go_wp2_with fail
 go_ret
 exact ⟨rfl,rfl⟩
structure ItSt (B0 B1 O Bout:Nat) (v:Value) (zs:List (Int×Int)) (o:Int×Int) (wr:World):Prop where
 opn:wr.heap[O]?=some (.cells #[.int .i64 o.1,.int .i64 o.2] 62 (0,0))
 own:OwnS wr B0 v zs
 led:∀b,Led wr Bout b→B1≤b∧b < wr.heap.size
 size:B1≤wr.heap.size
structure ItFix (n0 B0 B1 O Bout:Nat) (v:Value):Prop where
 o0:n0≤O
 o1:O < B1
 b0:n0≤B0
 g1:∀g,v.ownBlock=some g→g < B1
 out:Bout < n0
section
variable {n0 B0 B1 O Bout : Nat} {v : Value} {zs : List (Int × Int)} {o : Int × Int} {wr w' : World}
theorem ItSt.ext (h:ItSt B0 B1 O Bout v zs o wr) (F:ItFix n0 B0 B1 O Bout v) (hx:Ext wr w'):ItSt B0 B1 O Bout v zs o w':=by
 have h1:=h.size
 have h2:=Ext.size hx
 have h3:=F.o0
 have h4:=F.o1
 have h5:=F.out
 refine ⟨(hx.block (by omega)).trans h.opn,h.own.ext hx,fun b hb=> ?_,by omega⟩
 have:=h.led b ((led_ext hx (by omega)).1 hb)
 omega
theorem ItSt.round {nV:Nat} (h:ItSt B0 B1 O Bout v zs o wr) (F:ItFix n0 B0 B1 O Bout v) (hk:Kp nV n0 Bout wr w'):ItSt B0 B1 O Bout v zs o w':=by
 have h1:=h.size
 have h2:=hk.below.size
 have h3:=F.o0
 have h4:=F.o1
 have h5:=F.out
 have h6:=F.b0
 refine ⟨hk.cells O _ h3 h.opn rfl (fun hl=>by have:=h.led O hl;omega),h.own.same fun g cs t r hg hc=>hk.cells g _ ?_ hc rfl (fun hl=>by have:=h.led g hl;have:=F.g1 g hg;omega),fun b hb=> ?_,by omega⟩
 ·have:=(World.ownsRow.lt h.own g hg).1
  omega
 ·rcases hk.led b hb with h7 | h7
  ·have:=h.led b h7;omega
  ·omega
theorem ItSt.cells (h:ItSt B0 B1 O Bout v zs o wr):wr.cell? ⟨O,0,none⟩=some (.int .i64 o.1)∧wr.cell? ⟨O,1,none⟩=some (.int .i64 o.2)∧wr.frozen? ⟨O,0,none⟩=false∧wr.frozen? ⟨O,1,none⟩=false:=by
 have:=h.opn
 refine ⟨?_,?_,?_,?_⟩ <;>simp [World.cell?,World.frozen?,this]
theorem ItSt.ab (h:ItSt B0 B1 O Bout v zs o wr) (F:ItFix n0 B0 B1 O Bout v) {n1:Nat} (hn:n1≤O) (i:Nat) (u:Value):Ab n1 Bout wr (wr.setCell ⟨O,i,none⟩ u):=
 Ab.set hn ⟨_,_,_,h.opn⟩ fun hl=>by have:=h.led O hl;have:=F.o1;omega
theorem ItSt.set (h:ItSt B0 B1 O Bout v zs o wr) (F:ItFix n0 B0 B1 O Bout v) (i:Nat) (u:Value) (o':Int×Int) (hu:(#[.int .i64 o.1,.int .i64 o.2]:Array Value).setIfInBounds i u= #[.int .i64 o'.1,.int .i64 o'.2])
  (hO:v.ownBlock≠some O):ItSt B0 B1 O Bout v zs o' (wr.setCell ⟨O,i,none⟩ u):=by
 have h3:=F.o0
 have h5:=F.out
 refine ⟨?_,h.own.same fun g cs t r hg hc=> ?_,fun b hb=> ?_,by have:=h.size;simpa using this⟩
 ·rw [heap_setCell_same wr O i _ _ _ h.opn,hu]
 ·rw [Below.heap_setCell wr ⟨O,i,none⟩ u g (fun e=>hO ((show g=O from e) ▸ hg))];exact hc
 ·have:=h.led b ((led_set (by omega)).1 hb)
  simpa using this
end
theorem rows1_stops (nV Bl Bout:Nat) (A:Option Addr) (cap:Nat) (xs:List (Int×Int)) (w:World) (hlen:xs.length≤1000000) (hV:nV≤w.heap.size) (hBl:Bl < w.heap.size) (hcl:w.cell? ⟨Bl,0,none⟩=some (.slice A xs.length cap))
  (hl:SpansAt w A xs) (hBo:Bout < w.heap.size) (hco:w.cell? ⟨Bout,0,none⟩=some (.slice none 0 0)):
  IterStops Try.prog 85 #[.pointer (some ⟨Bl,0,none⟩)] (fun x:Int×Int=> #[.agg #[.int .i64 (x.1),.int .i64 (x.2)]]) nV Bout (fun ys=>ys=joinL xs) (fun pre=>pre <+:joinL xs) (fun pre=>pre <+:joinL xs) w:=by
 intro l J Jx U hW hJ hJx hY h0
 refine callsIn_wide.2 ?_
 show Calls Try.prog 85 #[.func (.yield l) #[] #[],.pointer (some ⟨Bl,0,none⟩)] U _
 have HY:=zH hY
 have HJ:=zH hJ
 have HJX:=zH hJx
 have H0:=zH h0
 have c0:U.cell? ⟨Bl,0,none⟩=some (.slice A xs.length cap):=(hW.cell (p:=⟨Bl,0,none⟩) hBl).trans hcl
 have co:U.cell? ⟨Bout,0,none⟩=some (.slice none 0 0):=(hW.cell (p:=⟨Bout,0,none⟩) hBo).trans hco
 have HL:=zH (hl.ext hW)
 have HO:=zH co
 have hsz:=hW.size
 have hblt:Bl < U.heap.size:=by omega
 have HS:=zH (sortS_sorted xs)
 have HZ:=zH (show joinL xs=joinZ (sortS xs)from rfl)
 have hzl:(sortS xs).length≤1000000:=by rw [sortS_length];exact hlen
 clear hY hJ hJx h0 hcl hco hl co hW
 generalize hz:sortS xs=zs at HS HZ hzl
 have HQ:=zH hz
 clear hz
 go_enter Try.func85,Try.ntmps85
 go_wp2_with fail
 refine (sort_any A cap xs _ hlen (HL.out.ext ((Ext.refl _).alloc _))).mono ?_
 intro e W1 hret
 rw [HQ.out]at hret
 obtain ⟨v,rfl,hown,hb1⟩:=hret
 have HX1:Ext (U.alloc (.cells #[.int .i64 0,.int .i64 0] 62)) W1:=hb1
 simp only [World.size_alloc]at hown
 have hx01:Ext U W1:=((Ext.refl _).alloc _).trans HX1
 have hs1:=Ext.size HX1
 simp only [World.size_alloc]at hs1
 have hF0:ItFix w.heap.size (U.heap.size+1) W1.heap.size U.heap.size Bout v:=⟨hsz,by omega,by omega,fun g hg=>(World.ownsRow.lt hown g hg).2,by omega⟩
 have hvO:v.ownBlock≠some U.heap.size:=fun h=>by have:=(World.ownsRow.lt hown _ h).1;omega
 have hIT0:ItSt (U.heap.size+1) W1.heap.size U.heap.size Bout v zs (0,0) W1:=by
  refine ⟨(HX1.block (by simp)).trans (World.alloc_heap_new _ _),hown,fun b hb=> ?_,Nat.le_refl _⟩
  obtain ⟨n,c,hnc⟩:=(led_ext hx01 (by omega)).1 hb
  rw [HO.out]at hnc
  cases hnc
 obtain ⟨A1,cap1,rfl,_,_⟩:=hown.form spanCells (by decide)
 have HF:=zH hF0
 have HVO:=zH hvO
 have HIT:=zH hIT0
 have HJ1:=zH (HJ.out _ _ _ H0.out (Ab.ext hx01 (Nat.le_refl _)))
 clear hown hb1 hvO H0 HL HO HQ HX1 hF0 hIT0
 go_wp2_with fail
 go_loopw [9] (fun i wr=>∃k:Nat,k≤zs.length∧i= .int .i64 k∧Hid (ItSt (U.heap.size+1) W1.heap.size U.heap.size Bout (.slice A1 zs.length cap1) zs (foldJ (zs.take k)).2 wr)∧Hid (J (foldJ (zs.take k)).1 wr)) (fun i _=>zs.length - (intOf i).toNat)
 case atStart=>exact ⟨0,by omega,rfl,HIT,HJ1⟩
 case round=>
  obtain ⟨k,hk,rfl,hit,hj⟩:=hrel
  clear HIT HJ1
  have HI:=zH (invJ zs HS.out k hk)
  have hsw:=hit.out.size
  by_cases hlt:k < zs.length
  rotate_left
  ·obtain rfl:k=zs.length:=by omega
   obtain ⟨o1,o2,o3,o4⟩:=hit.out.cells
   have HJZ:=zH (show joinZ zs=flushJ (foldJ (zs.take zs.length))by rw [List.take_length];rfl)
   generalize foldJ (zs.take zs.length)=st at*
   obtain ⟨em,ao,so⟩:=st
   simp only at o1 o2
   by_cases h0:0 < so
   ·have h0':decide (0 < so)=true:=by simpa using h0
    have HE:=zH (show flushJ (em,ao,so)=em++ [(ao,so)]by simp [flushJ,h0])
    have hml:em++ [(ao,so)] <+:joinL xs:=by
     rw [HZ.out,HJZ.out,HE.out]
     exact List.prefix_refl _
    obtain ⟨fn,tmps,assign,body,hy,hR⟩:=HY.out em (ao,so) wr hj.out hml
    dsimp only at hy
    have hro:Fence.wide.round=none:=rfl
    clear hml
    go_upto_region 11 with (fail)
    refine (wpIn_wide (n:=4)).1 ?_
    gi_wp2
    refine hR.mono ?_
    clear hy hR
    rintro e W3 (⟨rfl,hJ3,hk3⟩ | ⟨rfl,hJx3⟩)
    ·gi_wp2
     go_wp2_with fail
     go_end0
     exact ⟨⟨_,rfl⟩,.inl ⟨em++ [(ao,so)],by rw [HZ.out,HJZ.out,HE.out],hJ3⟩⟩
    ·gi_wp2
     go_wp2_with fail
     go_end0
     exact ⟨⟨_,rfl⟩,.inr ⟨em++ [(ao,so)],by rw [HZ.out,HJZ.out,HE.out];exact List.prefix_refl _,hJx3⟩⟩
   ·have h0':decide (0 < so)=false:=by simpa using h0
    have HE:=zH (show flushJ (em,ao,so)=em by simp [flushJ,h0])
    have HJ0:=zH hj.out
    go_wp2_with fail
    go_end0
    refine ⟨⟨_,rfl⟩,.inl ?_⟩
    rw [HZ.out,HJZ.out,HE.out]
    exact HJ0.out
  obtain ⟨_,_,e0,hrow,_,_⟩:=hit.out.own.form spanCells (by decide)
  obtain ⟨rfl,_,rfl⟩:_∧_∧_:=by simpa only [Value.slice.injEq]using e0
  obtain ⟨lb,off,rfl,hc⟩:=hrow.get (by omega)
  obtain ⟨c1,c2⟩:=spans_cell hc hlt
  obtain ⟨o1,o2,o3,o4⟩:=hit.out.cells
  have HT:=zH (foldJ_take hlt)
  have HPX:=zH (fold_prefix zs (k+1))
  have HX:=zH (rfl:zs.getD k (0,0)=zs.getD k (0,0))
  rw [HT.out]at HPX
  clear HX e0 hrow hc
  generalize zs.getD k (0,0)=x at*
  obtain ⟨a,s⟩:=x
  generalize foldJ (zs.take k)=st at*
  obtain ⟨em,ao,so⟩:=st
  simp only at c1 c2 o1 o2
  have ib1:(k:Int) < (zs.length:Int):=by omega
  have hOlt:U.heap.size < wr.heap.size:=by omega
  go_wp2_with fail
  cases hm:mayB a s
  ·refine (may_is a s _ hm _).mono ?_
   rintro e w1 ⟨rfl,hx1⟩
   have hx2:Ext wr w1:=((Ext.refl _).alloc _).trans hx1
   have HE:=zH (show stepJ (em,ao,so) (a,s)=(em,ao,so)by simp [stepJ,hm])
   go_wp2_with fail
   go_roundw
   case rel=>exact ⟨k+1,by omega,by go_num,by rw [HT.out,HE.out];exact hit.out.ext HF.out hx2,by rw [HT.out,HE.out];exact HJ.out _ _ _ hj.out (Ab.ext hx2 (by omega))⟩
   case measure=>simp [intOf];omega
  obtain ⟨q1,q2,q3,q4⟩:=may_bd hm
  refine (may_is a s _ hm _).mono ?_
  rintro e W ⟨rfl,hx1⟩
  have hx2:Ext wr W:=((Ext.refl _).alloc _).trans hx1
  have k0:=boxed wr #[.int .i64 a,.int .i64 s] 62 0 (.int .i64 a) rfl W hx1
  have k1:=boxed wr #[.int .i64 a,.int .i64 s] 62 1 (.int .i64 s) rfl W hx1
  have HIT:=zH (hit.out.ext HF.out hx2)
  have HJW:=zH (HJ.out _ _ _ hj.out (Ab.ext hx2 (by omega)))
  have hsx:wr.heap.size < W.heap.size:=by have:=Ext.size hx1;simp at this;omega
  have hbx:W.heap[wr.heap.size]?=some (.cells #[.int .i64 a,.int .i64 s] 62 (0,0)):=(hx1.block (by simp)).trans (World.alloc_heap_new _ _)
  have HLD:=zH (fun (hl:Led W Bout wr.heap.size)=>by
   have h1:=(led_ext hx2 (by have:=HF.out.out;omega)).1 hl
   have:=hit.out.led _ h1
   omega:¬Led W Bout wr.heap.size)
  obtain ⟨o1,o2,o3,o4⟩:=HIT.out.cells
  have HBX:=zH hbx
  clear hx1 hit hj hbx c1 c2
  generalize wr.heap.size=X at*
  have hs0:Ext W W:=Ext.refl W
  have l0:∀u:ExtOf W,u.1.cell? ⟨X,0,none⟩=some (.int .i64 a):=fun u=>u.2.cell k0
  have l1:∀u:ExtOf W,u.1.cell? ⟨X,1,none⟩=some (.int .i64 s):=fun u=>u.2.cell k1
  have l2:∀u:ExtOf W,u.1.cell? ⟨U.heap.size,0,none⟩=some (.int .i64 ao):=fun u=>u.2.cell o1
  have l3:∀u:ExtOf W,u.1.cell? ⟨U.heap.size,1,none⟩=some (.int .i64 so):=fun u=>u.2.cell o2
  go_wp2_with fail
  by_cases h0:0 < so
  ·have hmo:=HI.out.may h0
   have hmo':=may_bd hmo
   simp only at hmo hmo'
   obtain ⟨r1,r2,r3,r4⟩:=hmo'
   have h0':decide (0 < so)=true:=by simpa using h0
   by_cases hj:a≤ao+so
   ·have hj':decide (a≤ao+so)=true:=by simpa using hj
    have HE:=zH (show stepJ (em,ao,so) (a,s)=(em,(ao,max (ao+so) (a+s) - ao))by simp [stepJ,hm,h0,hj])
    (refine wp_region_ext (W:=W) (by kernel_rfl) (by kernel_rfl) (by with_reducible assumption) ?_;(repeat (go_big_quiet_step (first | (go_at_call 80;with_reducible exact Calls.ext_of (end_is ao so hmo _)))));refine wpQuiet_nil ?_;intro w1 hx)
    go_wp2_with fail
    (refine wp_region_ext_tail (W:=W) 9 (by kernel_rfl) (by kernel_rfl) (by with_reducible assumption) ?_;simp only [List.take_succ_cons,List.take_zero,List.drop_succ_cons,List.drop_zero];(repeat (go_big_quiet_step (first | (go_at_call 80;with_reducible exact Calls.ext_of (end_is ao so hmo _)) | (go_at_call 80;with_reducible exact Calls.ext_of (end_is a s hm _)))));refine wpQuiet_nil ?_;intro w1 hx)
    have it1:=HIT.out.ext HF.out hx
    obtain ⟨p1,p2,p3,p4⟩:=it1.cells
    have IT1:=zH it1
    have hx3:=zH hx
    clear it1
    go_wp2_with fail
    go_roundw
    case rel=>
     refine ⟨k+1,by omega,by go_num,?_,?_⟩
     ·rw [HT.out,HE.out]
      exact IT1.out.set HF.out 1 _ _ (by simp;split <;>omega) HVO.out
     ·rw [HT.out,HE.out]
      exact HJ.out _ _ _ (HJ.out _ _ _ HJW.out (Ab.ext hx3.out (by have:=Ext.size hx2;omega))) (IT1.out.ab HF.out (Nat.le_refl _) 1 _)
    case measure=>simp [intOf];omega
   ·have hj':decide (a≤ao+so)=false:=by simpa using hj
    have HE:=zH (show stepJ (em,ao,so) (a,s)=(em++ [(ao,so)],(a,s))by simp only [stepJ,hm,if_true];rw [if_neg (fun h=>hj h.2),if_pos h0])
    (refine wp_region_ext (W:=W) (by kernel_rfl) (by kernel_rfl) (by with_reducible assumption) ?_;(repeat (go_big_quiet_step (first | (go_at_call 80;with_reducible exact Calls.ext_of (end_is ao so hmo _)))));refine wpQuiet_nil ?_;intro w1 hx)
    have it1:=HIT.out.ext HF.out hx
    obtain ⟨p1,p2,p3,p4⟩:=it1.cells
    have hxx:=Ext.cell hx k0
    have hxy:=Ext.cell hx k1
    have IT1:=zH it1
    have JW1:=zH (HJ.out _ _ _ HJW.out (Ab.ext hx (by have:=Ext.size hx2;omega)))
    clear it1
    go_upto_region 4 with (fail)
    have HPE:=HPX.out
    rw [HE.out]at HPE
    have HPE:=zH HPE
    have hml:em++ [(ao,so)] <+:joinL xs:=by
     rw [HZ.out]
     exact HPE.out
    obtain ⟨fn,tmps,assign,body,hy,hR⟩:=HY.out em (ao,so) w1 JW1.out hml
    dsimp only at hy p1 p2
    have hro:Fence.wide.round=none:=rfl
    clear hml
    refine (wpIn_wide (n:=4)).1 ?_
    gi_wp2
    refine hR.mono ?_
    clear hy hR
    rintro e W3 (⟨rfl,hJ3,hk3⟩ | ⟨rfl,hJx3⟩)
    ·have IT3:=zH (IT1.out.round HF.out hk3)
     obtain ⟨p1,p2,p3,p4⟩:=IT3.out.cells
     have hb3:W3.heap[X]?=some (.cells #[.int .i64 a,.int .i64 s] 62 (0,0)):=
      hk3.cells X _ (by have:=HF.out.o0;omega) ((hx.block (by omega)).trans HBX.out) rfl (fun hl=>HLD.out ((led_ext hx (by have:=HF.out.out;have:=Ext.size hx2;omega)).1 hl))
     have g0:W3.cell? ⟨X,0,none⟩=some (.int .i64 a):=by simp [World.cell?,hb3]
     have g1:W3.cell? ⟨X,1,none⟩=some (.int .i64 s):=by simp [World.cell?,hb3]
     have J3:=zH hJ3
     clear hb3 hk3 hJ3
     gi_wp2
     go_wp2_with fail
     go_roundw
     case rel=>
      refine ⟨k+1,by omega,by go_num,?_,?_⟩
      ·rw [HT.out,HE.out]
       exact (IT3.out.set HF.out 0 (.int .i64 a) (a,so) (by simp) HVO.out).set HF.out 1 (.int .i64 s) (a,s) (by simp) HVO.out
      ·rw [HT.out,HE.out]
       exact HJ.out _ _ _ (HJ.out _ _ _ J3.out (IT3.out.ab HF.out (Nat.le_refl _) 0 _)) ((IT3.out.set HF.out 0 (.int .i64 a) (a,so) (by simp) HVO.out).ab HF.out (Nat.le_refl _) 1 _)
     case measure=>simp [intOf];omega
    ·gi_wp2
     go_wp2_with fail
     (try simp only [Exit.inBlock,Exit.then])
     refine bodyPost_ret (results_none rfl _ _ _) rfl ?_
     exact ⟨⟨_,rfl⟩,.inr ⟨em++ [(ao,so)],by rw [HZ.out];exact HPE.out,hJx3⟩⟩
  ·have h0':decide (0 < so)=false:=by simpa using h0
   have hz0:so=0:=by have:=HI.out.zero;simp only at this;omega
   have he:em= []:=HI.out.none h0
   have HE:=zH (show stepJ (em,ao,so) (a,s)=(em,(a,s))by simp only [stepJ,hm,if_true];rw [if_neg (fun h=>h0 h.1),if_neg h0])
   clear hz0 he
   (refine wp_region_ext (W:=W) (by kernel_rfl) (by kernel_rfl) (by with_reducible assumption) ?_;(repeat (go_big_quiet_step (fail)));refine wpQuiet_nil ?_;intro w1 hx)
   have it1:=HIT.out.ext HF.out hx
   obtain ⟨p1,p2,p3,p4⟩:=it1.cells
   have hxx:=Ext.cell hx k0
   have hxy:=Ext.cell hx k1
   have IT1:=zH it1
   have hx3:=zH hx
   clear it1
   go_wp2_with fail
   go_roundw
   case rel=>
    refine ⟨k+1,by omega,by go_num,?_,?_⟩
    ·rw [HT.out,HE.out]
     exact (IT1.out.set HF.out 0 (.int .i64 a) (a,so) (by simp) HVO.out).set HF.out 1 (.int .i64 s) (a,s) (by simp) HVO.out
    ·rw [HT.out,HE.out]
     exact HJ.out _ _ _ (HJ.out _ _ _ (HJ.out _ _ _ HJW.out (Ab.ext hx3.out (by have:=Ext.size hx2;omega))) (IT1.out.ab HF.out (Nat.le_refl _) 0 _)) ((IT1.out.set HF.out 0 (.int .i64 a) (a,so) (by simp) HVO.out).ab HF.out (Nat.le_refl _) 1 _)
   case measure=>simp [intOf];omega
attribute [local go_sem] Oper.semAt_some
structure Coll (n0 Bout:Nat) (t:TypeId) (pre:List (Int×Int)) (W:World) (v:Value):Prop where
 box:W.heap[Bout]?=some (.cells #[v] t (0,0))
 own:OwnS W n0 v pre
section
variable {n0 Bout : Nat} {t : TypeId} {pre : List (Int × Int)} {W W' A B : World} {v : Value}
theorem Coll.cell (h:Coll n0 Bout t pre W v):W.cell? ⟨Bout,0,none⟩=some v∧W.frozen? ⟨Bout,0,none⟩=false:=by
 have:=h.box
 constructor <;>simp [World.cell?,World.frozen?,this]
theorem Coll.led (h:Coll n0 Bout t pre W v) (b:Nat):Led W Bout b↔v.ownBlock=some b:=by
 unfold Led
 rw [h.cell.1]
 rcases h.own.2 with ⟨rfl,_⟩ | ⟨g,cap,cur,rfl,_⟩
 ·simp [Value.ownBlock]
 ·simp [Value.ownBlock]
theorem Coll.abI (h:Coll n0 Bout t pre A v) (hB:Bout < n0) (hab:AbI n0 Bout A B):Coll n0 Bout t pre B v:=
 ⟨(hab.below.block Bout hB).trans h.box,h.own.same fun g cs ty r hg hc=>hab.kept g _ hc rfl ((h.led g).2 hg)⟩
theorem Coll.ext (h:Coll n0 Bout t pre W v) (hx:Ext W W'):Coll n0 Bout t pre W' v:=⟨(hx.block (lt_of_heap h.box)).trans h.box,h.own.ext hx⟩
theorem Coll.setOther (h:Coll n0 Bout t pre W v) {k i:Nat} (u:Value) (hk:k < n0) (hne:Bout≠k):Coll n0 Bout t pre (W.setCell ⟨k,i,none⟩ u) v:=
 ⟨(Below.heap_setCell W ⟨k,i,none⟩ u Bout hne).trans h.box,h.own.same fun g cs ty r hg hc=>(Below.heap_setCell W ⟨k,i,none⟩ u g (fun e=>by simp only at e;have:=(World.ownsRow.lt h.own g hg).1;omega)).trans hc⟩
theorem Coll.app (h:Coll n0 Bout t pre W v) (hB:Bout < n0) {nV:Nat} (hV:nV≤Bout) {w1:World} {x:Int×Int} {A1:Option Addr} {r cap1 H:Nat} (hn:n0≤W.heap.size) (hH:W.heap.size≤H)
  (hown:OwnS w1 n0 (.slice A1 r cap1) (pre++ [x])) (hg:W.grownBy w1 v.ownBlock) (hat:(Value.slice A1 r cap1).ownBlock=v.ownBlock∨(Value.slice A1 r cap1).ownBlock=some H):
  (w1.cell? ⟨Bout,0,none⟩=some v∧w1.frozen? ⟨Bout,0,none⟩=false)∧Coll n0 Bout t (pre++ [x]) (w1.setCell ⟨Bout,0,none⟩ (.slice A1 r cap1)) (.slice A1 r cap1)∧
   Kp nV n0 Bout W (w1.setCell ⟨Bout,0,none⟩ (.slice A1 r cap1))∧KeepsFrom n0 W (w1.setCell ⟨Bout,0,none⟩ (.slice A1 r cap1))∧
   ∀k,k < W.heap.size→k≠Bout→v.ownBlock≠some k→(w1.setCell ⟨Bout,0,none⟩ (.slice A1 r cap1)).heap[k]?=W.heap[k]?:=by
 have hlt:=lt_of_heap h.box
 have hbo:v.ownBlock≠some Bout:=fun e=>by have:=(World.ownsRow.lt h.own _ e).1;omega
 have hb1:w1.heap[Bout]?=some (.cells #[v] t (0,0)):=(hg.block Bout hlt (fun e=>hbo e.symm)).trans h.box
 have hbo2:(Value.slice A1 r cap1).ownBlock≠some Bout:=fun e=>by have:=(World.ownsRow.lt hown _ e).1;omega
 have hC:Coll n0 Bout t (pre++ [x]) (w1.setCell ⟨Bout,0,none⟩ (.slice A1 r cap1)) (.slice A1 r cap1):=by
  refine ⟨?_,hown.same fun g cs ty r' hg' hc=> ?_⟩
  ·rw [heap_setCell_same w1 Bout 0 _ _ _ hb1];rfl
  ·rw [Below.heap_setCell w1 ⟨Bout,0,none⟩ _ g (fun e=>hbo2 (by rw [hg'];exact congrArg some e))];exact hc
 refine ⟨⟨by simp [World.cell?,hb1],by simp [World.frozen?,hb1]⟩,hC,⟨?_,fun k o hk ho hc hl=> ?_,fun k hk=> ?_⟩,⟨by simpa using hg.size,fun k o hk ho hc=> ?_⟩,fun k hk hne hov=>(Below.heap_setCell w1 ⟨Bout,0,none⟩ _ k hne).trans (hg.block k hk (fun e=>hov e.symm))⟩
 ·exact ((Below.refl nV W).grown hg (by omega) (fun k e=>by have:=(World.ownsRow.lt h.own k e).1;omega)).setCell (p:=⟨Bout,0,none⟩) hV _
 ·rw [Below.heap_setCell w1 ⟨Bout,0,none⟩ _ k (fun e=>by simp only at e;omega)]
  exact (hg.block k (lt_of_heap ho) (fun e=>hl ((h.led k).2 e.symm))).trans ho
 ·rw [hC.led]at hk
  rcases hat with h1 | h1
  ·exact .inl ((h.led k).2 (by rw [←h1];exact hk))
  ·rw [h1]at hk
   obtain rfl:H=k:=by simpa using hk
   have:=(World.ownsRow.lt hC.own H h1).2
   exact .inr ⟨hH,this⟩
 ·rw [Below.heap_setCell w1 ⟨Bout,0,none⟩ _ k (fun e=>by simp only at e;omega)]
  refine (hg.block k (lt_of_heap ho) (fun e=> ?_)).trans ho
  rcases h.own.2 with ⟨rfl,_⟩ | ⟨g,cap,cur,rfl,_,hgb,_⟩
  ·simp [Value.ownBlock]at e
  ·obtain rfl:k=g:=by simpa [Value.ownBlock]using e
   rw [hgb]at ho;cases ho;cases hc
end
end Go.Proofs.Ytemmjmplhknemaa
namespace Go.Proofs.Ytemmjmplhknemaa
open Go.RowKit Go.Shelf
attribute [local go_sem] Oper.semAt_some
theorem joinL_length (xs:List (Int×Int)):(joinL xs).length≤xs.length:=by
 have:=join_length (sortS xs)
 rw [sortS_length]at this
 exact this
attribute [local go_sem] Oper.semAt_some
theorem join_may {xs:List (Int×Int)} {x:Int×Int} (h:x∈joinL xs):mayB x.1 x.2=true:=by
 have hj:=join_canon xs
 have h1:=hj.pos x h
 obtain ⟨y,_,hy,h2,_⟩:=covered_iff.1 ((hj.mem x.1).1 ⟨x,h,by omega,by omega⟩)
 obtain ⟨z,_,hz,_,h3⟩:=covered_iff.1 ((hj.mem (x.1+x.2 - 1)).1 ⟨x,h,by omega,by omega⟩)
 have:=may_bd hy
 have:=may_bd hz
 simp only [mayB,decide_eq_true_eq]
 omega
def Ahead (b:Int) (l:List (Int×Int)):Prop:=∀x∈l,x.1 < b
theorem foldG_len (a:Int) (l:List (Int×Int)):(foldG a l).1.length≤l.length:=by
 have:∀(l:List (Int×Int)) st,(l.foldl stepG st).1.length≤st.1.length+l.length:=by
  intro l
  induction l with
  | nil=>intro st;simp
  | cons x l ih=>
   intro st
   refine Nat.le_trans (ih _) ?_
   have:(stepG st x).1.length≤st.1.length+1:=by unfold stepG;split <;>simp
   simp only [List.length_cons]
   omega
 simpa [foldG]using this l ([],a)
theorem foldG_bd (a:Int) {s:Int} {xs pre:List (Int×Int)} (hm:mayB a s=true) (h:pre <+:joinL xs):a≤(foldG a pre).2∧(foldG a pre).2≤1099511627776:=by
 have hj:=join_canon xs
 have hinv:=invG a (joinL xs) hj.pos hj.apart pre h
 have:=may_bd hm
 refine ⟨hinv.ge,?_⟩
 rcases hinv.att with h1 | ⟨y,hy,h1⟩
 ·omega
 ·have:=may_bd (join_may (h.subset hy))
  omega
structure GapI (V:World) (n0 Bo Ba T2:Nat) (a s:Int) (st:List (Int×Int)×Int) (W:World):Prop where
 coll:∃v,Coll n0 Bo 25 st.1 W v
 att:W.heap[Ba]?=some (.cells #[.int .i64 st.2] 3 (0,0))
 all:W.heap[T2]?=some (.cells #[.int .i64 a,.int .i64 s] 62 (0,0))
 ext:Ext V W
 size:n0≤W.heap.size
theorem GapI.keep {V:World} {n0 Bo Ba T2:Nat} {a s:Int} {st:List (Int×Int)×Int} {A B:World} (h:GapI V n0 Bo Ba T2 a s st A) (hV:V.heap.size≤n0) (ho:Bo < n0) (ha:Ba < n0) (ht:T2 < n0) (hb:Below n0 A B)
  (hk:∀(k:Nat) (o:Obj),A.heap[k]?=some o→o.isCells=true→Led A Bo k→B.heap[k]?=some o):GapI V n0 Bo Ba T2 a s st B:=
 ⟨h.coll.imp fun v hv=>hv.abI ho ⟨hb,hk⟩,(hb.block Ba ha).trans h.att,(hb.block T2 ht).trans h.all,Below.trans h.ext (Below.mono hb hV),Nat.le_trans h.size hb.size⟩
theorem gaps_no (a s:Int) (A:Option Addr) (cap:Nat) (xs:List (Int×Int)) (V:World) (hm:mayB a s=false):
  Calls Try.prog 69 #[.agg #[.int .i64 (a),.int .i64 (s)],.slice A xs.length cap] V (fun e w'=>∃zs,GapsOf a s xs zs∧RetS V V.heap.size zs e w'):=by
 have HM:=zH hm
 clear hm
 go_enter Try.func69,Try.ntmps69
 go_wp2_with fail
 refine (may_is a s _ HM.out _).mono ?_
 rintro e w1 ⟨rfl,hx1⟩
 have hx2:=((Ext.refl V).alloc (.cells #[.int .i64 a,.int .i64 s] 62)).trans hx1
 clear hx1
 go_wp2_with fail
 go_ret
 exact ⟨[],Canon.nil (fun p hp=>by have:=hp.1;unfold hasB at this;rw [HM.out]at this;cases this),_,rfl,Own.nil _ _ _ _ _,hx2⟩
theorem gaps_yes (a s:Int) (A:Option Addr) (cap:Nat) (xs:List (Int×Int)) (V:World) (hm:mayB a s=true) (hlen:xs.length≤1000000) (hl:SpansAt V A xs):
  Calls Try.prog 69 #[.agg #[.int .i64 (a),.int .i64 (s)],.slice A xs.length cap] V (fun e w'=>∃zs,GapsOf a s xs zs∧RetS V V.heap.size zs e w'):=by
 have HM:=zH hm
 obtain ⟨q1,q2,q3,q4⟩:=may_bd hm
 clear hm
 refine (callsIn_wide (n:=5)).1 ?_
 have hro:Fence.wide.round=none:=rfl
 refine callsIn_of_wp_marks Try.func69 rfl trivial ?_ hro
 simp only [Try.ntmps69,List.size_toArray,List.length_cons,List.length_nil,Nat.reduceAdd,Nat.reduceSub,Array.replicate_succ,Array.replicate_zero,List.push_toArray,List.append_toArray,List.nil_append,List.cons_append]
 have k0:=fun w'=>boxed V #[.int .i64 a,.int .i64 s] 62 0 (.int .i64 a) rfl w'
 have k1:=fun w'=>boxed V #[.int .i64 a,.int .i64 s] 62 1 (.int .i64 s) rfl w'
 gi_wp2_with (first
  | (refine ⟨trivial,?_⟩;gi_at_call 27;refine (callsIn_wide.2 (may_is a s _ HM.out _)).mono ?_;rintro e w1 ⟨rfl,hx1⟩;have b0:=k0 w1 hx1;have hz1:V.heap.size < w1.heap.size:=(by have:=Ext.size hx1;simp at this;omega))
  | (refine ⟨trivial,?_⟩;gi_at_call 81;refine (callsIn_wide.2 (rows_any _ _ _ _)).mono ?_;rintro e w' ⟨rfl,rfl⟩))
 have hw0:Ext V (((w1.alloc (.cells #[.slice none 0 0] 25)).alloc (.cells #[.int .i64 a] 3)).alloc (.cells #[.slice A xs.length cap] 25)):=(((((Ext.refl V).alloc _).trans hx1).alloc _).alloc _).alloc _
 have hws:(((w1.alloc (.cells #[.slice none 0 0] 25)).alloc (.cells #[.int .i64 a] 3)).alloc (.cells #[.slice A xs.length cap] 25)).heap.size=w1.heap.size+3:=by simp
 have hbo:(((w1.alloc (.cells #[.slice none 0 0] 25)).alloc (.cells #[.int .i64 a] 3)).alloc (.cells #[.slice A xs.length cap] 25)).heap[w1.heap.size]?=some (.cells #[.slice none 0 0] 25 (0,0)):=
  (Below.heap_alloc _ _ _ (by simp;omega)).trans ((Below.heap_alloc _ _ _ (by simp)).trans (World.alloc_heap_new _ _))
 have hba:(((w1.alloc (.cells #[.slice none 0 0] 25)).alloc (.cells #[.int .i64 a] 3)).alloc (.cells #[.slice A xs.length cap] 25)).heap[w1.heap.size+1]?=some (.cells #[.int .i64 a] 3 (0,0)):=by
  refine (Below.heap_alloc _ _ _ (by simp)).trans ?_
  have:=World.alloc_heap_new (w1.alloc (.cells #[.slice none 0 0] 25)) (.cells #[.int .i64 a] 3)
  simpa using this
 have hbl:(((w1.alloc (.cells #[.slice none 0 0] 25)).alloc (.cells #[.int .i64 a] 3)).alloc (.cells #[.slice A xs.length cap] 25)).heap[w1.heap.size+2]?=some (.cells #[.slice A xs.length cap] 25 (0,0)):=by
  have:=World.alloc_heap_new ((w1.alloc (.cells #[.slice none 0 0] 25)).alloc (.cells #[.int .i64 a] 3)) (.cells #[.slice A xs.length cap] 25)
  simpa using this
 have hbt:(((w1.alloc (.cells #[.slice none 0 0] 25)).alloc (.cells #[.int .i64 a] 3)).alloc (.cells #[.slice A xs.length cap] 25)).heap[V.heap.size]?=some (.cells #[.int .i64 a,.int .i64 s] 62 (0,0)):=by
  refine (Below.heap_alloc _ _ _ (by simp;omega)).trans ((Below.heap_alloc _ _ _ (by simp;omega)).trans ((Below.heap_alloc _ _ _ hz1).trans ?_))
  exact (hx1.block (by simp)).trans (World.alloc_heap_new _ _)
 generalize ((w1.alloc (.cells #[.slice none 0 0] 25)).alloc (.cells #[.int .i64 a] 3)).alloc (.cells #[.slice A xs.length cap] 25)=w0 at*
 have hws1:=Nat.le_of_eq hws
 have hws2:=Nat.le_of_eq hws.symm
 clear b0 hx1 k0 k1 hws
 generalize w1.heap.size=Bo at*
 have hjl:=joinL_length xs
 have hj:=join_canon xs
 refine wpIn_range (gf:=85) (lb:= #[.pointer (some ⟨Bo+2,0,none⟩)]) rfl (enters_of Try.func85 (by kernel_rfl) rfl)
  (rows1_stops V.heap.size (Bo+2) Bo A cap xs w0 hlen (by omega) (by omega) (by simp [World.cell?,hbl]) (hl.ext hw0) (by omega) (by simp [World.cell?,hbo]))
  (by omega) (fun _=>rfl)
  (fun pre W=>GapI V w0.heap.size Bo (Bo+1) V.heap.size a s (foldG a pre) W∧Ahead (a+s) pre)
  (fun c pre W=>c= .exit 0∧∃pre' x,pre=pre'++ [x]∧a+s≤x.1∧Ahead (a+s) pre'∧GapI V w0.heap.size Bo (Bo+1) V.heap.size a s (foldG a pre') W)
  (fun s A B h hab=>⟨h.1.keep (by omega) (by omega) (by omega) (by omega) hab.below hab.kept,h.2⟩)
  (fun c s A B h hab=>by
   obtain ⟨hc,pre',x,h1,h2,h3,h4⟩:=h
   exact ⟨hc,pre',x,h1,h2,h3,h4.keep (by omega) (by omega) (by omega) (by omega) hab.below hab.kept⟩)
  ⟨⟨⟨_,hbo,Own.nil _ _ _ _ _⟩,hba,hbt,hw0,Nat.le_refl _⟩,by simp [Ahead]⟩
  (fun pre x a' W=>GapI V w0.heap.size Bo (Bo+1) V.heap.size a s (foldG a pre) W∧Ahead (a+s) pre∧∃X,w0.heap.size≤X∧W.heap[X]?=some (.cells #[.int .i64 x.1,.int .i64 x.2] 62 (0,0))∧¬Led W Bo X∧
   a'= {tmps:= #[.agg #[.int .i64 (a),.int .i64 (s)],.slice A xs.length cap,.pointer (some ⟨V.heap.size,0,none⟩),undef,.slice none 0 0,.pointer (some ⟨Bo,0,none⟩),.pointer (some ⟨Bo+1,0,none⟩),.pointer (some ⟨X,0,none⟩),.agg #[.int .i64 (a),.int .i64 (s)],.bool true,.bool false,.pointer (some ⟨V.heap.size,0,none⟩),.int .i64 a,.slice A xs.length cap,.func (.func 85) #[] #[.pointer (some ⟨Bo+2,0,none⟩)],.agg #[.int .i64 (x.1),.int .i64 (x.2)],
    undef,undef,undef,undef,undef,undef,undef,undef,undef,undef,undef,undef,undef,undef,undef,undef,undef,undef,undef,undef,undef,undef,undef,undef,undef,undef,undef,undef,undef,undef,undef,undef,undef,undef,undef,undef],defers:= []})
  ?hax ?assign ?body ?done ?stop
 case hax=>
  rintro pre x a' A B ⟨h1,h2,X,hX,hbX,hld,rfl⟩ hb hk
  refine ⟨h1.keep (by omega) (by omega) (by omega) (by omega) hb (fun k o ho hc _=>hk k o ho hc),h2,X,hX,hk X _ hbX rfl,fun hl=>hld ?_,rfl⟩
  obtain ⟨n,c,hc⟩:=hl
  rw [Below.cell (p:=⟨Bo,0,none⟩) hb (by simp only;omega)]at hc
  exact ⟨n,c,hc⟩
 case assign=>
  rintro l pre x W K ⟨h1,h2⟩ hK
  obtain ⟨v,hv⟩:=h1.coll
  have hsz:=h1.size
  have H1:=zH h1
  have H2:=zH h2
  have HV:=zH hv
  clear h1 h2 hv
  gi_wp2
  refine hK _ _ ⟨H1.out.keep (by omega) (by omega) (by omega) (by omega) ((Below.refl _ W).alloc hsz _) (fun k o ho _ _=>(Below.heap_alloc W _ k (lt_of_heap ho)).trans ho),H2.out,W.heap.size,hsz,World.alloc_heap_new _ _,fun hl=> ?_,rfl⟩ ((KeepsOthers.alloc _ _).from _) (Kp.ext ((Below.refl _ W).alloc (Nat.le_refl _) _) (by omega) (by omega))
  have h3:=(led_ext (Bout:=Bo) ((Ext.refl W).alloc (.cells #[.int .i64 x.1,.int .i64 x.2] 62)) (by omega)).1 hl
  rw [HV.out.led]at h3
  have:=(World.ownsRow.lt HV.out.own _ h3).2
  omega
 case body=>
  rintro l pre x a' W ⟨hI,hp,X,hX,hbX,hld,rfl⟩ hgd
  have hxm:=join_may (hgd.subset (List.mem_append_right pre (List.mem_singleton_self x)))
  have hinv:=invG a (joinL xs) hj.pos hj.apart pre ((List.prefix_append _ _).trans hgd)
  have hat:a≤(foldG a pre).2∧(foldG a pre).2≤1099511627776:=by
   refine ⟨hinv.ge,?_⟩
   rcases hinv.att with h | ⟨y,hy,h⟩
   ·omega
   ·have:=may_bd (join_may (hgd.subset (List.mem_append_left _ hy)))
    omega
  have hpl:pre.length < xs.length:=by have:=hgd.length_le;simp at this;omega
  have hol:(foldG a pre).1.length≤pre.length:=foldG_len a pre
  obtain ⟨v,hv⟩:=hI.coll
  have HSN:=zH (foldG_snoc a pre x)
  have HP:=zH hp
  have HI:=zH hI
  have hca:=hI.att
  have hct:=hI.all
  have hsz:=hI.size
  have hEV:=hI.ext
  have HV:=zH hv
  clear hinv hI hgd hv hp
  generalize hst:foldG a pre=st at*
  obtain ⟨out,at0⟩:=st
  have HST:=zH hst
  clear hst
  obtain ⟨x1,x2⟩:=x
  simp only at hat hca hxm hol hbX
  obtain ⟨p1,p2,p3,p4⟩:=may_bd hxm
  obtain ⟨p5,p6⟩:=hat
  have HXM:=zH hxm
  clear hxm
  have hs0:Ext W W:=Ext.refl W
  have c0:∀w',Ext W w'→w'.cell? ⟨X,0,none⟩=some (.int .i64 x1):=fun w' h=>h.cell (by simp [World.cell?,hbX])
  have c1:∀w',Ext W w'→w'.cell? ⟨X,1,none⟩=some (.int .i64 x2):=fun w' h=>h.cell (by simp [World.cell?,hbX])
  have c2:∀w',Ext W w'→w'.cell? ⟨Bo+1,0,none⟩=some (.int .i64 at0):=fun w' h=>h.cell (by simp [World.cell?,hca])
  have c3:∀w',Ext W w'→w'.cell? ⟨V.heap.size,0,none⟩=some (.int .i64 a):=fun w' h=>h.cell (by simp [World.cell?,hct])
  have c4:∀w',Ext W w'→w'.cell? ⟨V.heap.size,1,none⟩=some (.int .i64 s):=fun w' h=>h.cell (by simp [World.cell?,hct])
  have l0:=fun u:ExtOf W=>c0 u.1 u.2
  have l1:=fun u:ExtOf W=>c1 u.1 u.2
  have l2:=fun u:ExtOf W=>c2 u.1 u.2
  have l3:=fun u:ExtOf W=>c3 u.1 u.2
  have l4:=fun u:ExtOf W=>c4 u.1 u.2
  have HX:=zH hbX
  have HA:=zH hca
  have HT:=zH hct
  clear hbX hca hct
  by_cases hbr:a+s≤x1
  ·have hbr':decide (a+s≤x1)=true:=by simpa using hbr
   gi_wp2
   (refine wpIn_region_ord (W:=W) [(0,true),(1,true),(2,true),(3,false),(4,false)] [] [] (by kernel_rfl) (by kernel_rfl) (by kernel_rfl) (by intro a w h;exact h) (by intro c a d v w h;cases d <;>first | exact h | (cases h;done) | cases h.1.1 | cases h.1) (by with_reducible assumption) ?_;simp only [opsOf,List.map_cons,List.map_nil,List.getD_cons_zero,List.getD_cons_succ];(repeat (go_big_quiet_step (first | (go_at_call 80;with_reducible exact Calls.ext_of (end_is a s HM.out _)))));refine wpQuiet_nil ?_;intro w1 hx;refine mid_nil ?_)
   go_wp2_with fail
   gi_wp2
   exact ⟨keeps_ext hx,rfl,pre,(x1,x2),rfl,hbr,HP.out,by rw [HST.out];exact HI.out.keep (by omega) (by omega) (by omega) (by omega) (Below.mono hx hsz) (fun k o ho _ _=>(hx.block (lt_of_heap ho)).trans ho)⟩
  ·have hbr':decide (a+s≤x1)=false:=by simpa using hbr
   have HP2:Hid (Ahead (a+s) (pre++ [(x1,x2)])):=zH fun y hy=>by
    rw [List.mem_append,List.mem_singleton]at hy
    rcases hy with hy | rfl
    ·exact HP.out y hy
    ·simp only;omega
   gi_wp2
   (refine wpIn_region_ord (W:=W) [(0,true),(1,true),(2,true),(3,false),(4,false)] [] [] (by kernel_rfl) (by kernel_rfl) (by kernel_rfl) (by intro a w h;exact h) (by intro c a d v w h;cases d <;>first | exact h | (cases h;done) | cases h.1.1 | cases h.1) (by with_reducible assumption) ?_;simp only [opsOf,List.map_cons,List.map_nil,List.getD_cons_zero,List.getD_cons_succ];(repeat (go_big_quiet_step (first | (go_at_call 80;with_reducible exact Calls.ext_of (end_is a s HM.out _)))));refine wpQuiet_nil ?_;intro w1 hx;refine mid_nil ?_)
   by_cases ht:at0 < x1
   ·
    have HE:=zH (show stepG (out,at0) (x1,x2)=(out++ [(at0,x1 - at0)],max at0 (x1+x2))by simp [stepG,ht])
    obtain ⟨d1,d2⟩:=(HV.out.ext hx).cell
    have hszw:W.heap.size≤w1.heap.size:=Ext.size hx
    go_wp2_with fail
    gi_wp2_with (gi_at_builtin;refine wpListIn_app_lit rfl (.tmp 25) (.tmp 32) 25 rfl spanInfo spanCells rfl (by exact (HV.out.ext hx).own) [(at0,x1 - at0)] 1 _ rfl (out.length+1) 1 (by simp) rfl w1.heap.size rfl rfl (by omega) (by simp [maxLen];omega) (by omega) ?_;intro A1 cap1 w2 hown1 hgr1 hat1;obtain ⟨⟨d1,d2⟩,hc2,hk2,hf2,ho2⟩:=Coll.app ((HV.out.ext hx).ext ((Ext.refl w1).alloc _)) (by omega) (nV:=V.heap.size) (by omega) (by simp;omega) (by simp) hown1 hgr1 hat1;have HC2:=zH hc2;have HK2:=zH hk2;have HF2:=zH hf2;have HO2:=zH ho2;clear hc2 hk2 hf2 hown1 hgr1 hat1 ho2)
    have hvX:v.ownBlock≠some X:=fun h=>hld ((HV.out.led X).2 h)
    have hlX:=lt_of_heap HX.out
    have KA:Hid (Kp V.heap.size w0.heap.size Bo W (w2.setCell ⟨Bo,0,none⟩ (.slice A1 (out.length+1) cap1))):=zH ((Kp.ext hx (by omega) (by omega)).trans ((Kp.ext ((Below.refl _ w1).alloc (Nat.le_refl _) _) (by omega) (by omega)).trans HK2.out))
    have KF:Hid (KeepsFrom w0.heap.size W (w2.setCell ⟨Bo,0,none⟩ (.slice A1 (out.length+1) cap1))):=zH ((keeps_ext hx).trans (((KeepsOthers.alloc _ _).from _).trans HF2.out))
    have CV:=zH (⟨_,HC2.out⟩:∃v',Coll w0.heap.size Bo 25 (out++ [(at0,x1 - at0)]) (w2.setCell ⟨Bo,0,none⟩ (.slice A1 (out.length+1) cap1)) v')
    have hov:∀k,k < w0.heap.size→v.ownBlock≠some k:=fun k hk h=>by have:=(World.ownsRow.lt HV.out.own k h).1;omega
    have same:∀k,k < W.heap.size→k≠Bo→v.ownBlock≠some k→(w2.setCell ⟨Bo,0,none⟩ (.slice A1 (out.length+1) cap1)).heap[k]?=W.heap[k]?:=fun k h1 h2 h3=>
     (HO2.out k (by simp;omega) h2 h3).trans ((Below.heap_alloc w1 _ k (by omega)).trans (hx.block h1))
    have HX3:=zH ((same X hlX (by omega) hvX).trans HX.out)
    have HA3:=zH ((same (Bo+1) (by omega) (by omega) (hov _ (by omega))).trans HA.out)
    have HT3:=zH ((same V.heap.size (by omega) (by omega) (hov _ (by omega))).trans HT.out)
    clear same hov HC2 HK2 HF2 HO2 d1 d2 hvX hx
    generalize w2.setCell ⟨Bo,0,none⟩ (.slice A1 (out.length+1) cap1)=W3 at*
    clear l0 l1 l2 l3 l4 c0 c1 c2 c3 c4
    have hs3:Ext W3 W3:=Ext.refl W3
    have l0:∀u:ExtOf W3,u.1.cell? ⟨X,0,none⟩=some (.int .i64 x1):=fun u=>u.2.cell (by simp [World.cell?,HX3.out])
    have l1:∀u:ExtOf W3,u.1.cell? ⟨X,1,none⟩=some (.int .i64 x2):=fun u=>u.2.cell (by simp [World.cell?,HX3.out])
    have l2:∀u:ExtOf W3,u.1.cell? ⟨Bo+1,0,none⟩=some (.int .i64 at0):=fun u=>u.2.cell (by simp [World.cell?,HA3.out])
    have hsz3:w0.heap.size≤W3.heap.size:=by have:=KA.out.below.size;omega
    (refine wpIn_region_ord (W:=W3) [(0,true),(1,true),(2,false),(3,false)] [] [4] (by kernel_rfl) (by kernel_rfl) (by kernel_rfl) (by intro a w h;exact h) (by intro c a d v w h;cases d <;>first | exact h | (cases h;done) | cases h.1.1 | cases h.1) (by with_reducible assumption) ?_;simp only [opsOf,List.map_cons,List.map_nil,List.getD_cons_zero,List.getD_cons_succ];(repeat (go_big_quiet_step (first | (go_at_call 80;with_reducible exact Calls.ext_of (end_is x1 x2 HXM.out _)))));refine wpQuiet_nil ?_;intro w1 hx;refine mid_nil ?_)
    have ha4:=(hx.block (lt_of_heap HA3.out)).trans HA3.out
    have e1:w1.cell? ⟨Bo+1,0,none⟩=some (.int .i64 at0):=by simp [World.cell?,ha4]
    have e2:w1.frozen? ⟨Bo+1,0,none⟩=false:=by simp [World.frozen?,ha4]
    have HA4:=zH ha4
    have HX4:=zH hx
    clear ha4 hx
    go_wp2_with fail
    all_goals (try gi_wp2)
    all_goals
     have hk:∀u,Kp V.heap.size w0.heap.size Bo W (w1.setCell ⟨Bo+1,0,none⟩ u):=fun u=>KA.out.trans ((Kp.ext HX4.out (by omega) (by omega)).trans (Kp.setLow (by omega) (by omega) (by omega)))
     refine ⟨KF.out.trans ((keeps_ext HX4.out).trans ((KeepsOthers.setCell _ _ _).from _)),hk _,?_,HP2.out⟩
     rw [HSN.out,HE.out]
     obtain ⟨v3,hv3⟩:=CV.out
     refine ⟨⟨v3,(hv3.ext HX4.out).setOther _ (by omega) (by omega)⟩,?_,?_,Below.trans hEV (hk _).below,by have:=(hk (.int .i64 0)).below.size;simp at this⊢;omega⟩
     ·rw [heap_setCell_same w1 (Bo+1) 0 _ _ _ HA4.out]
      refine congrArg (fun z=>some (Obj.cells #[Value.int IntKind.i64 z] 3 (0,0))) ?_
      first | (simp only;omega) | (simp only;split <;>omega) | omega | (split <;>omega)
     ·exact (Below.heap_setCell w1 ⟨Bo+1,0,none⟩ _ V.heap.size (by simp only;omega)).trans ((HX4.out.block (lt_of_heap HT3.out)).trans HT3.out)
   ·have HE:=zH (show stepG (out,at0) (x1,x2)=(out,max at0 (x1+x2))by simp [stepG,ht])
    have hlX:=lt_of_heap HX.out
    go_wp2_with fail
    gi_wp2
    have KA:Hid (Kp V.heap.size w0.heap.size Bo W w1):=zH (Kp.ext hx (by omega) (by omega))
    have KF:Hid (KeepsFrom w0.heap.size W w1):=zH (keeps_ext hx)
    have CV:=zH (⟨_,HV.out.ext hx⟩:∃v',Coll w0.heap.size Bo 25 out w1 v')
    have HX3:=zH ((hx.block hlX).trans HX.out)
    have HA3:=zH ((hx.block (show Bo+1 < W.heap.size by omega)).trans HA.out)
    have HT3:=zH ((hx.block (show V.heap.size < W.heap.size by omega)).trans HT.out)
    clear hx
    generalize w1=W3 at*
    clear l0 l1 l2 l3 l4 c0 c1 c2 c3 c4
    have hs3:Ext W3 W3:=Ext.refl W3
    have l0:∀u:ExtOf W3,u.1.cell? ⟨X,0,none⟩=some (.int .i64 x1):=fun u=>u.2.cell (by simp [World.cell?,HX3.out])
    have l1:∀u:ExtOf W3,u.1.cell? ⟨X,1,none⟩=some (.int .i64 x2):=fun u=>u.2.cell (by simp [World.cell?,HX3.out])
    have l2:∀u:ExtOf W3,u.1.cell? ⟨Bo+1,0,none⟩=some (.int .i64 at0):=fun u=>u.2.cell (by simp [World.cell?,HA3.out])
    have hsz3:w0.heap.size≤W3.heap.size:=by have:=KA.out.below.size;omega
    (refine wpIn_region_ord (W:=W3) [(0,true),(1,true),(2,false),(3,false)] [] [4] (by kernel_rfl) (by kernel_rfl) (by kernel_rfl) (by intro a w h;exact h) (by intro c a d v w h;cases d <;>first | exact h | (cases h;done) | cases h.1.1 | cases h.1) (by with_reducible assumption) ?_;simp only [opsOf,List.map_cons,List.map_nil,List.getD_cons_zero,List.getD_cons_succ];(repeat (go_big_quiet_step (first | (go_at_call 80;with_reducible exact Calls.ext_of (end_is x1 x2 HXM.out _)))));refine wpQuiet_nil ?_;intro w1 hx;refine mid_nil ?_)
    have ha4:=(hx.block (lt_of_heap HA3.out)).trans HA3.out
    have e1:w1.cell? ⟨Bo+1,0,none⟩=some (.int .i64 at0):=by simp [World.cell?,ha4]
    have e2:w1.frozen? ⟨Bo+1,0,none⟩=false:=by simp [World.frozen?,ha4]
    have HA4:=zH ha4
    have HX4:=zH hx
    clear ha4 hx
    go_wp2_with fail
    all_goals (try gi_wp2)
    all_goals
     have hk:∀u,Kp V.heap.size w0.heap.size Bo W (w1.setCell ⟨Bo+1,0,none⟩ u):=fun u=>KA.out.trans ((Kp.ext HX4.out (by omega) (by omega)).trans (Kp.setLow (by omega) (by omega) (by omega)))
     refine ⟨KF.out.trans ((keeps_ext HX4.out).trans ((KeepsOthers.setCell _ _ _).from _)),hk _,?_,HP2.out⟩
     rw [HSN.out,HE.out]
     obtain ⟨v3,hv3⟩:=CV.out
     refine ⟨⟨v3,(hv3.ext HX4.out).setOther _ (by omega) (by omega)⟩,?_,?_,Below.trans hEV (hk _).below,by have:=(hk (.int .i64 0)).below.size;simp at this⊢;omega⟩
     ·rw [heap_setCell_same w1 (Bo+1) 0 _ _ _ HA4.out]
      refine congrArg (fun z=>some (Obj.cells #[Value.int IntKind.i64 z] 3 (0,0))) ?_
      first | (simp only;omega) | (simp only;split <;>omega) | omega | (split <;>omega)
     ·exact (Below.heap_setCell w1 ⟨Bo+1,0,none⟩ _ V.heap.size (by simp only;omega)).trans ((HX4.out.block (lt_of_heap HT3.out)).trans HT3.out)
 case done=>
  rintro D ys W hD rfl ⟨hI,hp⟩ hK
  have hgx:joinL xs <+:joinL xs:=List.prefix_refl _
  have hG:=gaps_all HM.out hj hgx hp (.inl rfl)
  have hat:=foldG_bd a HM.out hgx
  have hpl:=hjl
  obtain ⟨v,hv⟩:=hI.coll
  have hsz:=hI.size
  have hEV:=hI.ext
  have hca:=hI.att
  have hct:=hI.all
  have HV:=zH hv
  have HG:=zH hG
  have HK:=zH hK
  have hol:=Nat.le_trans (foldG_len a (joinL xs)) hpl
  clear hI hv hG hK hgx
  generalize foldG a (joinL xs)=st at*
  obtain ⟨out,at0⟩:=st
  simp only at hat hca hol
  obtain ⟨p5,p6⟩:=hat
  have hs0:Ext W W:=Ext.refl W
  have l2:∀u:ExtOf W,u.1.cell? ⟨Bo+1,0,none⟩=some (.int .i64 at0):=fun u=>u.2.cell (by simp [World.cell?,hca])
  have l3:∀u:ExtOf W,u.1.cell? ⟨V.heap.size,0,none⟩=some (.int .i64 a):=fun u=>u.2.cell (by simp [World.cell?,hct])
  have l4:∀u:ExtOf W,u.1.cell? ⟨V.heap.size,1,none⟩=some (.int .i64 s):=fun u=>u.2.cell (by simp [World.cell?,hct])
  have l5:∀u:ExtOf W,u.1.cell? ⟨Bo,0,none⟩=some v:=fun u=>u.2.cell HV.out.cell.1
  clear hca hct
  gi_wp2
  refine (wpIn_wide (n:=5)).2 ?_
  (refine wp_region_noPanic ?_;refine wp_region_ord (W:=W) [(0,true),(1,true),(2,false),(3,false)] [] [] (by kernel_rfl) (by kernel_rfl) (by intro c a d v w h;exact h) (by with_reducible assumption) ?_;simp only [opsOf,List.map_cons,List.map_nil,List.getD_cons_zero,List.getD_cons_succ];(repeat (go_big_quiet_step (first | (go_at_call 80;with_reducible exact Calls.ext_of (end_is a s HM.out _)))));refine wpQuiet_nil ?_;intro w1 hx;refine mid_nil ?_;refine NoPanic.normal ?_)
  by_cases hr:at0 < a+s
  ·have HE:=zH (show restG a s (out,at0)=out++ [(at0,a+s - at0)]by simp [restG,hr])
   go_wp2_with fail
   gi_wp2
   refine (wpIn_wide (n:=5)).2 ?_
   (refine wp_region_noPanic ?_;refine wp_region_ord (W:=W) [(0,true),(1,true),(2,true),(4,true),(3,false),(5,false),(6,false)] [7] [8,9] (by kernel_rfl) (by kernel_rfl) (by intro c a d v w h;exact h) (by with_reducible assumption) ?_;simp only [opsOf,List.map_cons,List.map_nil,List.getD_cons_zero,List.getD_cons_succ];(repeat (go_big_quiet_step (first | (go_at_call 80;with_reducible exact Calls.ext_of (end_is a s HM.out _)))));refine wpQuiet_nil ?_;intro w1 hx;(repeat (refine mid_step (by rfl) ?_;intro K hK;go_simp;refine hK _ _ zG ?_;clear hK K));refine mid_nil ?_)
   have hszw:W.heap.size≤w1.heap.size:=Ext.size hx
   go_wp2_with (at_builtin;refine wpList_app_lit rfl (.tmp 42) (.tmp 49) 25 rfl spanInfo spanCells rfl (by exact (HV.out.ext hx).own) [(at0,a+s - at0)] 1 _ rfl (out.length+1) 1 (by simp) rfl w1.heap.size rfl rfl (by omega) (by simp [maxLen];omega) (by omega) ?_;intro A1 cap1 w2 hown1 hgr1 hat1;obtain ⟨⟨d1,d2⟩,hc2,hk2,hf2, -⟩:=Coll.app ((HV.out.ext hx).ext ((Ext.refl w1).alloc _)) (by omega) (nV:=V.heap.size) (by omega) (by simp;omega) (by simp) hown1 hgr1 hat1;have HC2:=zH hc2;have HK2:=zH hk2;have HF2:=zH hf2;clear hc2 hk2 hf2 hown1 hgr1 hat1)
   obtain ⟨d1,d2⟩:=HC2.out.cell
   have hD2:=HF2.out.same D _ hD ((Below.heap_alloc w1 _ D (by have:=lt_of_heap HK.out;omega)).trans ((hx.block (lt_of_heap HK.out)).trans HK.out)) rfl
   have hkk:Below V.heap.size W (w2.setCell ⟨Bo,0,none⟩ (.slice A1 (out.length+1) cap1)):=((Kp.ext hx (nV:=V.heap.size) (n0:=w0.heap.size) (Bout:=Bo) (by omega) (by omega)).trans ((Kp.ext ((Below.refl _ w1).alloc (Nat.le_refl _) _) (by omega) (by omega)).trans HK2.out)).below
   have HKK:=zH hkk
   have HD2:=zH hD2
   clear hkk hD2
   generalize w2.setCell ⟨Bo,0,none⟩ (.slice A1 (out.length+1) cap1)=W3 at*
   refine NoPanic.normal ?_
   gi_wp2
   refine ⟨by simp,.inl ⟨_,_,rfl,run_takeDeferred HD2.out,?_⟩⟩
   have hab:AbI w0.heap.size Bo W3 (W3.putObj D (.deferred none)):=AbI.putObj hD HD2.out rfl
   refine ⟨_,results_tmp rfl _ _ _,_,HG.out,_,rfl,?_,Below.trans hEV (Below.trans HKK.out (Below.mono hab.below (by omega)))⟩
   rw [HE.out]
   exact (HC2.out.abI (by omega) hab).own.mono (by omega)
  ·have HE:=zH (show restG a s (out,at0)=out by simp [restG,hr])
   obtain ⟨d1,d2⟩:=(HV.out.ext hx).cell
   have hD2:=(hx.block (lt_of_heap HK.out)).trans HK.out
   have HD2:=zH hD2
   have hC1:=zH (HV.out.ext hx)
   clear hD2
   go_wp2_with fail
   gi_wp2
   refine ⟨by simp,.inl ⟨_,_,rfl,run_takeDeferred HD2.out,?_⟩⟩
   have hab:AbI w0.heap.size Bo w1 (w1.putObj D (.deferred none)):=AbI.putObj hD HD2.out rfl
   refine ⟨_,results_tmp rfl _ _ _,_,HG.out,_,rfl,?_,Below.trans (hEV.trans hx) (Below.mono hab.below (by omega))⟩
   rw [HE.out]
   exact (hC1.out.abI (by omega) hab).own.mono (by omega)
 case stop=>
  rintro D c pre W hD hpre ⟨rfl,pre',x,rfl,hxx,hp,hI⟩ hK
  have hgx:pre' <+:joinL xs:=(List.prefix_append _ _).trans hpre
  have hG:=gaps_all HM.out hj hgx hp (.inr ⟨x,hpre,hxx⟩)
  have hat:=foldG_bd a HM.out hgx
  have hpl:=Nat.le_trans hgx.length_le hjl
  clear hpre hp hxx
  obtain ⟨v,hv⟩:=hI.coll
  have hsz:=hI.size
  have hEV:=hI.ext
  have hca:=hI.att
  have hct:=hI.all
  have HV:=zH hv
  have HG:=zH hG
  have HK:=zH hK
  have hol:=Nat.le_trans (foldG_len a pre') hpl
  clear hI hv hG hK hgx
  generalize foldG a pre'=st at*
  obtain ⟨out,at0⟩:=st
  simp only at hat hca hol
  obtain ⟨p5,p6⟩:=hat
  have hs0:Ext W W:=Ext.refl W
  have l2:∀u:ExtOf W,u.1.cell? ⟨Bo+1,0,none⟩=some (.int .i64 at0):=fun u=>u.2.cell (by simp [World.cell?,hca])
  have l3:∀u:ExtOf W,u.1.cell? ⟨V.heap.size,0,none⟩=some (.int .i64 a):=fun u=>u.2.cell (by simp [World.cell?,hct])
  have l4:∀u:ExtOf W,u.1.cell? ⟨V.heap.size,1,none⟩=some (.int .i64 s):=fun u=>u.2.cell (by simp [World.cell?,hct])
  have l5:∀u:ExtOf W,u.1.cell? ⟨Bo,0,none⟩=some v:=fun u=>u.2.cell HV.out.cell.1
  clear hca hct
  gi_wp2
  refine (wpIn_wide (n:=5)).2 ?_
  (refine wp_region_noPanic ?_;refine wp_region_ord (W:=W) [(0,true),(1,true),(2,false),(3,false)] [] [] (by kernel_rfl) (by kernel_rfl) (by intro c a d v w h;exact h) (by with_reducible assumption) ?_;simp only [opsOf,List.map_cons,List.map_nil,List.getD_cons_zero,List.getD_cons_succ];(repeat (go_big_quiet_step (first | (go_at_call 80;with_reducible exact Calls.ext_of (end_is a s HM.out _)))));refine wpQuiet_nil ?_;intro w1 hx;refine mid_nil ?_;refine NoPanic.normal ?_)
  by_cases hr:at0 < a+s
  ·have HE:=zH (show restG a s (out,at0)=out++ [(at0,a+s - at0)]by simp [restG,hr])
   go_wp2_with fail
   gi_wp2
   refine (wpIn_wide (n:=5)).2 ?_
   (refine wp_region_noPanic ?_;refine wp_region_ord (W:=W) [(0,true),(1,true),(2,true),(4,true),(3,false),(5,false),(6,false)] [7] [8,9] (by kernel_rfl) (by kernel_rfl) (by intro c a d v w h;exact h) (by with_reducible assumption) ?_;simp only [opsOf,List.map_cons,List.map_nil,List.getD_cons_zero,List.getD_cons_succ];(repeat (go_big_quiet_step (first | (go_at_call 80;with_reducible exact Calls.ext_of (end_is a s HM.out _)))));refine wpQuiet_nil ?_;intro w1 hx;(repeat (refine mid_step (by rfl) ?_;intro K hK;go_simp;refine hK _ _ zG ?_;clear hK K));refine mid_nil ?_)
   have hszw:W.heap.size≤w1.heap.size:=Ext.size hx
   go_wp2_with (at_builtin;refine wpList_app_lit rfl (.tmp 42) (.tmp 49) 25 rfl spanInfo spanCells rfl (by exact (HV.out.ext hx).own) [(at0,a+s - at0)] 1 _ rfl (out.length+1) 1 (by simp) rfl w1.heap.size rfl rfl (by omega) (by simp [maxLen];omega) (by omega) ?_;intro A1 cap1 w2 hown1 hgr1 hat1;obtain ⟨⟨d1,d2⟩,hc2,hk2,hf2, -⟩:=Coll.app ((HV.out.ext hx).ext ((Ext.refl w1).alloc _)) (by omega) (nV:=V.heap.size) (by omega) (by simp;omega) (by simp) hown1 hgr1 hat1;have HC2:=zH hc2;have HK2:=zH hk2;have HF2:=zH hf2;clear hc2 hk2 hf2 hown1 hgr1 hat1)
   obtain ⟨d1,d2⟩:=HC2.out.cell
   have hD2:=HF2.out.same D _ hD ((Below.heap_alloc w1 _ D (by have:=lt_of_heap HK.out;omega)).trans ((hx.block (lt_of_heap HK.out)).trans HK.out)) rfl
   have hkk:Below V.heap.size W (w2.setCell ⟨Bo,0,none⟩ (.slice A1 (out.length+1) cap1)):=((Kp.ext hx (nV:=V.heap.size) (n0:=w0.heap.size) (Bout:=Bo) (by omega) (by omega)).trans ((Kp.ext ((Below.refl _ w1).alloc (Nat.le_refl _) _) (by omega) (by omega)).trans HK2.out)).below
   have HKK:=zH hkk
   have HD2:=zH hD2
   clear hkk hD2
   generalize w2.setCell ⟨Bo,0,none⟩ (.slice A1 (out.length+1) cap1)=W3 at*
   refine NoPanic.normal ?_
   gi_wp2
   refine ⟨by simp,.inl ⟨_,_,rfl,run_takeDeferred HD2.out,?_⟩⟩
   have hab:AbI w0.heap.size Bo W3 (W3.putObj D (.deferred none)):=AbI.putObj hD HD2.out rfl
   refine ⟨_,results_tmp rfl _ _ _,_,HG.out,_,rfl,?_,Below.trans hEV (Below.trans HKK.out (Below.mono hab.below (by omega)))⟩
   rw [HE.out]
   exact (HC2.out.abI (by omega) hab).own.mono (by omega)
  ·have HE:=zH (show restG a s (out,at0)=out by simp [restG,hr])
   obtain ⟨d1,d2⟩:=(HV.out.ext hx).cell
   have hD2:=(hx.block (lt_of_heap HK.out)).trans HK.out
   have HD2:=zH hD2
   have hC1:=zH (HV.out.ext hx)
   clear hD2
   go_wp2_with fail
   gi_wp2
   refine ⟨by simp,.inl ⟨_,_,rfl,run_takeDeferred HD2.out,?_⟩⟩
   have hab:AbI w0.heap.size Bo w1 (w1.putObj D (.deferred none)):=AbI.putObj hD HD2.out rfl
   refine ⟨_,results_tmp rfl _ _ _,_,HG.out,_,rfl,?_,Below.trans (hEV.trans hx) (Below.mono hab.below (by omega))⟩
   rw [HE.out]
   exact (hC1.out.abI (by omega) hab).own.mono (by omega)
theorem gaps_any (a s:Int) (A:Option Addr) (cap:Nat) (xs:List (Int×Int)) (V:World) (hlen:xs.length≤1000000) (hl:SpansAt V A xs):
  Calls Try.prog 69 #[.agg #[.int .i64 (a),.int .i64 (s)],.slice A xs.length cap] V (fun e w'=>∃zs,GapsOf a s xs zs∧RetS V V.heap.size zs e w'):=by
 cases hm:mayB a s
 ·exact gaps_no a s A cap xs V hm
 ·exact gaps_yes a s A cap xs V hm hlen hl
end Go.Proofs.Ytemmjmplhknemaa
namespace Go.Proofs.Ytemmjmplhknemaa
open Go.RowKit
theorem within_is (a s c d:Int) (b:Bool) (h:withinB a s c d=b) (w:World):Calls Try.prog 68 #[.agg #[.int .i64 (a),.int .i64 (s)],.agg #[.int .i64 (c),.int .i64 (d)]] w fun e w'=>e= .returned (.bool b)∧Ext w w':=by
 rw [←h];exact within_any a s c d w
end Go.Proofs.Ytemmjmplhknemaa
namespace Go.Proofs.Ytemmjmplhknemaa
open Go.RowKit Go.Shelf
theorem equal_any (A A2:Option Addr) (cap cap2:Nat) (xs ys:List (Int×Int)) (W:World) (hlen:xs.length≤9223372036854775807) (hlen2:ys.length≤9223372036854775807) (hl:SpansAt W A xs) (hl2:SpansAt W A2 ys):
  Calls Try.prog 30 #[.slice A xs.length cap,.slice A2 ys.length cap2] W fun e w'=>e= .returned (.bool (decide (xs=ys)))∧Ext W w':=by
 have HL:=zH hl
 have HL2:=zH hl2
 clear hl hl2
 by_cases hne:xs.length=ys.length
 rotate_left
 ·have h1:((xs.length:Int) !=(ys.length:Int))=true:=by rw [bne_iff_ne];omega
  have h2:decide (xs=ys)=false:=by simp;intro e;subst e;exact hne rfl
  have HR:=zH h2
  clear h2 hne
  go_enter Try.func30,Try.ntmps30
  go_wp2_with fail
  go_ret
  exact ⟨ret_bool (by rw [HR.out]),Ext.refl _⟩
 have HN:=zH hne
 have h1:((xs.length:Int) !=(ys.length:Int))=false:=by rw [←HN.out];simp
 clear hne
 go_enter Try.func30,Try.ntmps30
 go_wp2_with fail
 go_loopw [5,13] (fun _ i wr=>∃k:Nat,k≤xs.length∧i= .int .i64 k∧Ext W wr∧Hid (∀i,i < k→xs.getD i (0,0)=ys.getD i (0,0))) (fun _ i _=>xs.length - (intOf i).toNat)
 case atStart=>exact ⟨0,by omega,rfl,Ext.refl _,zH (by omega)⟩
 case round=>
  obtain ⟨k,hk,rfl,hxr,hq⟩:=hrel
  by_cases hlt:k < xs.length
  rotate_left
  ·have HR:=zH (same_of HN.out (fun i hi=>hq.out i (by omega)))
   clear hq
   go_wp2_with fail
   go_ret
   exact ⟨ret_bool (by simp [HR.out]),hxr⟩
  have hlt2:k < ys.length:=by have:=HN.out;omega
  obtain ⟨lb,off,rfl,hc⟩:=HL.out.get (by omega)
  obtain ⟨lb2,off2,rfl,hc2⟩:=HL2.out.get (by omega)
  obtain ⟨e1,e2⟩:=spans_cell hc hlt
  obtain ⟨e3,e4⟩:=spans_cell hc2 hlt2
  have c1:=hxr.cell e1
  have c2:=hxr.cell e2
  have c3:=hxr.cell e3
  have c4:=hxr.cell e4
  have HS:=zH (fun (h:xs.getD k (0,0)=ys.getD k (0,0))=>(fun i (hi:i < k+1)=>by
   rcases Nat.lt_or_ge i k with h' | h'
   ·exact hq.out i h'
   ·obtain rfl:i=k:=by omega
    exact h:∀i,i < k+1→xs.getD i (0,0)=ys.getD i (0,0)))
  have HD:=zH (fun (h:xs.getD k (0,0)≠ys.getD k (0,0))=>(fun e:xs=ys=>h (by rw [e]):xs≠ys))
  clear e1 e2 e3 e4 hc hc2 HL HL2 hq HN
  generalize xs.getD k (0,0)=x at*
  generalize ys.getD k (0,0)=y at*
  obtain ⟨a,s⟩:=x
  obtain ⟨c,d⟩:=y
  simp only at c1 c2 c3 c4
  have ib1:(k:Int) < (xs.length:Int):=by omega
  have ib2:(k:Int) < (ys.length:Int):=by omega
  have ib3:(0:Int)≤(k:Int):=by omega
  by_cases he:a=c∧s=d
  ·obtain ⟨rfl,rfl⟩:=he
   go_wp2_with fail
   go_quiet (fail)
   go_wp2_with fail
   go_roundw
   case rel=>exact ⟨k+1,by omega,by go_num,hxr.drewN _,zH (HS.out (by first | rfl | trivial))⟩
   case measure=>simp [intOf];omega
  ·have HE:=zH (HD.out (by intro e;injection e with e1 e2;exact he ⟨e1,e2⟩))
   have hb:(a==c)=false∨(a=c∧(s==d)=false):=by
    by_cases h1:a=c
    ·exact .inr ⟨h1,by rw [beq_eq_false_iff_ne];exact fun h=>he ⟨h1,h⟩⟩
    ·exact .inl (by rw [beq_eq_false_iff_ne];exact h1)
   clear he HD HS
   rcases hb with hb | ⟨rfl,hb⟩
   all_goals
    go_wp2_with fail
    go_quiet (fail)
    go_wp2_with fail
    go_ret
    exact ⟨ret_bool (decide_eq_false HE.out).symm,hxr.drewN _⟩
theorem all_within {a s:Int} {xs:List (Int×Int)} (h:∀i,i < xs.length→withinB (xs.getD i (0,0)).1 (xs.getD i (0,0)).2 a s=true):xs.all (fun x=>withinB x.1 x.2 a s)=true:=by
 rw [List.all_eq_true]
 intro x hx
 obtain ⟨i,hi,rfl⟩:=List.getElem_of_mem hx
 simpa [List.getElem?_eq_getElem hi]using h i hi
theorem within_may {a s c d:Int} (h:withinB a s c d=true):mayB a s=true:=by
 cases hm:mayB a s
 ·rw [within_no1 hm]at h;cases h
 ·rfl
end Go.Proofs.Ytemmjmplhknemaa
namespace Go.Proofs.Ytemmjmplhknemaa
open Go.RowKit
theorem refsame_is (A A2:Option Addr) (cap cap2:Nat) (xs ys:List (Int×Int)) (n m:Nat) (b:Bool) (W:World) (hn:xs.length=n) (hm:ys.length=m) (hb:decide (xs=ys)=b) (hlen:n≤1000000) (hlen2:m≤1000000) (hl:SpansAt W A xs) (hl2:SpansAt W A2 ys):
  Calls Try.prog 16 #[.slice A n cap,.slice A2 m cap2] W fun e w'=>e= .returned (.bool b)∧Ext W w':=by
 subst hn hm hb
 exact refsame_any A A2 cap cap2 xs ys W (by omega) (by omega) hl hl2
theorem gaps_len {a s:Int} {xs zs:List (Int×Int)} (h:GapsOf a s xs zs):zs.length≤xs.length+1:=by
 by_cases hm:mayB a s=true
 rotate_left
 ·have : zs = [] := by
   cases zs with
   | nil=>rfl
   | cons z zs=>
    have h1:=h.pos z (by simp)
    have:=((h.mem z.1).1 ⟨z,by simp,by omega,by omega⟩).1
    unfold hasB at this
    simp [hm]at this
  subst this;simp
 have hj:=join_canon xs
 obtain ⟨pre,h1,h2,h3⟩:∃pre,pre <+:joinL xs∧(∀x∈pre,x.1 < a+s)∧(pre=joinL xs∨∃x,pre++ [x] <+:joinL xs∧a+s≤x.1):=by
  suffices ∀l:List (Int×Int),∃pre,pre <+:l∧(∀x∈pre,x.1 < a+s)∧(pre=l∨∃x,pre++ [x] <+:l∧a+s≤x.1)from this _
  intro l
  induction l with
  | nil=>exact ⟨[],List.prefix_refl _,by simp,.inl rfl⟩
  | cons y l ih=>
   by_cases hy:y.1 < a+s
   ·obtain ⟨pre,h1,h2,h3⟩:=ih
    refine ⟨y::pre,by simpa using h1,fun x hx=> ?_,?_⟩
    ·rw [List.mem_cons]at hx
     rcases hx with rfl | hx
     ·exact hy
     ·exact h2 x hx
    ·rcases h3 with rfl | ⟨x,hx,hx2⟩
     ·exact .inl rfl
     ·exact .inr ⟨x,by simpa using hx,hx2⟩
   ·exact ⟨[],List.nil_prefix,by simp,.inr ⟨y,by simp,by omega⟩⟩
 have hg:=gaps_all hm hj h1 h2 h3
 have e:=Canon.unique h hg
 rw [e]
 have h4:=foldG_len a pre
 have h5:=h1.length_le
 have h6:=joinL_length xs
 unfold restG
 split <;>simp <;>omega
end Go.Proofs.Ytemmjmplhknemaa
namespace Go.Proofs.Ytemmjmplhknemaa
open Go.RowKit Go.Shelf
structure StD where
 c0:Int
 c1:Int
 c2:Int
 c3:Int
 snd:Bool
 wA:Option Addr
 ws:List Int
 wc:Nat
 top:Int
 tA:Option Addr
 tb:List (Int×Int)
 tc:Nat
 fA:Option Addr
 fr:List (Int×Int)
 fc:Nat
 sA:Option Addr
 sl:List (Bool×Int×Int)
 sc:Nat
structure StAt (W:World) (s:StD):Prop where
 w:WordsAt W s.wA s.ws
 t:SpansAt W s.tA s.tb
 f:SpansAt W s.fA s.fr
 s:SlotsAt W s.sA s.sl
theorem StAt.ext {W W':World} {s:StD} (h:StAt W s) (hx:Ext W W'):StAt W' s:=⟨h.w.ext hx,h.t.ext hx,h.f.ext hx,h.s.ext hx⟩
structure StLe (s:StD):Prop where
 w:s.ws.length≤98304
 t:s.tb.length≤98304
 f:s.fr.length≤98304
 s:s.sl.length≤98304
def eqvS (a b:StD):Bool:=decide (a.c0=b.c0∧a.c1=b.c1∧a.c2=b.c2∧a.c3=b.c3) && decide (a.snd=b.snd) && decide (a.top=b.top) && decide (a.ws=b.ws) && decide (a.tb=b.tb) && decide (a.fr=b.fr) && decide (a.sl=b.sl)
theorem eqvS_iff {a b:StD}:eqvS a b=true↔(a.c0=b.c0∧a.c1=b.c1∧a.c2=b.c2∧a.c3=b.c3)∧a.snd=b.snd∧a.top=b.top∧a.ws=b.ws∧a.tb=b.tb∧a.fr=b.fr∧a.sl=b.sl:=by
 simp [eqvS,and_assoc]
structure StOwn (B:Nat) (W:World) (s:StD):Prop where
 w:Own 54 1 u64C W B (.slice s.wA s.ws.length s.wc) s.ws
 t:Own 62 2 spanC W B (.slice s.tA s.tb.length s.tc) s.tb
 f:Own 62 2 spanC W B (.slice s.fA s.fr.length s.fc) s.fr
 s:Own 56 3 slotC W B (.slice s.sA s.sl.length s.sc) s.sl
theorem StOwn.at {B:Nat} {W:World} {s:StD} (h:StOwn B W s):StAt W s:=⟨(own_row h.w u64Cells (by decide)).1,(own_row h.t spanCells (by decide)).1,(own_row h.f spanCells (by decide)).1,(own_row h.s slotCells (by decide)).1⟩
theorem StOwn.ext {B:Nat} {W W':World} {s:StD} (h:StOwn B W s) (hx:Ext W W'):StOwn B W' s:=⟨h.w.ext hx,h.t.ext hx,h.f.ext hx,h.s.ext hx⟩
end Go.Proofs.Ytemmjmplhknemaa
