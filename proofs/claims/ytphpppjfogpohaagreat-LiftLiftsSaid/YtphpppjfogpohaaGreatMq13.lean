/- Merged by program (merge.py) out of: Iter, JoinW, JoinX, GapsW, Law03A, ExtA, ExtB, ExtC. -/
import Derived.Test.YtphpppjfogpohaaGreatMq0
import Derived.Deep.Cut
import Derived.Shelf.Abstract
import Derived.Lib.SliceRun
import Derived.Test.YtphpppjfogpohaaGreatMq6
import Derived.Test.YtphpppjfogpohaaGreatMq9
import Derived.Test.YtphpppjfogpohaaGreatMq11
import Derived.Test.YtphpppjfogpohaaGreatMq7
import Derived.Test.YtphpppjfogpohaaGreatMq4
set_option linter.unusedSimpArgs false
set_option linter.unusedVariables false
set_option maxRecDepth 100000
set_option maxHeartbeats 16000000
namespace Go.Proofs.YtphpppjfogpohaaGreat
open Go.RowKit
theorem vz (A:Option Addr) (n cap:Nat) (w:World):
  Calls Tryz.prog 228 #[.slice A n cap] w fun e w'=>e= .returned (.func (.func 234) #[] #[.pointer (some ⟨w.heap.size,0,none⟩)])∧w'=w.alloc (.cells #[.slice A n cap] 31):=by
 go_enter Tryz.func228,Tryz.ntmps228
 go_wp2_with fail
 go_ret
 exact ⟨rfl,rfl⟩
structure ItSt (B0 B1 O Bout:Nat) (v:Value) (zs:List (Int×Int)) (o:Int×Int) (wr:World):Prop where
 opn:wr.heap[O]?=some (.cells #[.int .i64 o.1,.int .i64 o.2] 63 (0,0))
 own:OwnS wr B0 v zs
 led:∀b,Led wr Bout b→B1≤b∧b < wr.heap.size
 size:B1≤wr.heap.size
structure ItFix (n0 B0 B1 O Bout:Nat) (v:Value):Prop where
 o0:n0≤O
 o1:O < B1
 b0:n0≤B0
 g1:∀g,v.ownBlock=some g→g < B1
 out:Bout < n0
section
variable {n0 B0 B1 O Bout : Nat} {v : Value} {zs : List (Int × Int)} {o : Int × Int} {wr w' : World}
theorem ItSt.ext (h:ItSt B0 B1 O Bout v zs o wr) (F:ItFix n0 B0 B1 O Bout v) (hx:Ext wr w'):ItSt B0 B1 O Bout v zs o w':=by
 have h1:=h.size
 have h2:=AG hx
 have h3:=F.o0
 have h4:=F.o1
 have h5:=F.out
 refine ⟨(hx.block oM).trans h.opn,h.own.ext hx,fun b hb=> ?_,by omega⟩
 have:=h.led b ((du hx oM).1 hb)
 omega
theorem ItSt.round {nV:Nat} (h:ItSt B0 B1 O Bout v zs o wr) (F:ItFix n0 B0 B1 O Bout v) (hk:Kp nV n0 Bout wr w'):ItSt B0 B1 O Bout v zs o w':=by
 have h1:=h.size
 have h2:=hk.below.size
 have h3:=F.o0
 have h4:=F.o1
 have h5:=F.out
 have h6:=F.b0
 refine ⟨hk.cells O _ h3 h.opn rfl (fun hl=>by have:=h.led O hl;omega),h.own.same fun g cs t r hg hc=>hk.cells g _ ?_ hc rfl (fun hl=>by have:=h.led g hl;have:=F.g1 g hg;omega),fun b hb=> ?_,by omega⟩
 ·have:=(World.ownsRow.lt h.own g hg).1
  omega
 ·rcases hk.led b hb with h7 | h7
  ·have:=h.led b h7;omega
  ·omega
theorem ItSt.cells (h:ItSt B0 B1 O Bout v zs o wr):wr.cell? ⟨O,0,none⟩=some (.int .i64 o.1)∧wr.cell? ⟨O,1,none⟩=some (.int .i64 o.2)∧wr.frozen? ⟨O,0,none⟩=false∧wr.frozen? ⟨O,1,none⟩=false:=by
 have:=h.opn
 refine ⟨?_,?_,?_,?_⟩ <;>simp [World.cell?,World.frozen?,this]
theorem ItSt.ab (h:ItSt B0 B1 O Bout v zs o wr) (F:ItFix n0 B0 B1 O Bout v) {n1:Nat} (hn:n1≤O) (i:Nat) (u:Value):Ab n1 Bout wr (wr.setCell ⟨O,i,none⟩ u):=
 Ab.set hn ⟨_,_,_,h.opn⟩ fun hl=>by have:=h.led O hl;have:=F.o1;omega
theorem ItSt.set (h:ItSt B0 B1 O Bout v zs o wr) (F:ItFix n0 B0 B1 O Bout v) (i:Nat) (u:Value) (o':Int×Int) (hu:(#[.int .i64 o.1,.int .i64 o.2]:Array Value).setIfInBounds i u= #[.int .i64 o'.1,.int .i64 o'.2])
  (hO:v.ownBlock≠some O):ItSt B0 B1 O Bout v zs o' (wr.setCell ⟨O,i,none⟩ u):=by
 have h3:=F.o0
 have h5:=F.out
 refine ⟨?_,h.own.same fun g cs t r hg hc=> ?_,fun b hb=> ?_,by have:=h.size;simpa using this⟩
 ·rw [heap_setCell_same wr O i _ _ _ h.opn,hu]
 ·rw [Below.heap_setCell wr ⟨O,i,none⟩ u g (fun e=>hO ((show g=O from e) ▸ hg))];exact hc
 ·have:=h.led b ((xp oM).1 hb)
  simpa using this
end
theorem pu (nV Bl Bout:Nat) (A:Option Addr) (cap:Nat) (xs:List (Int×Int)) (w:World) (hlen:xs.length≤1000000) (hV:nV≤w.heap.size) (hBl:Bl < w.heap.size) (hcl:w.cell? ⟨Bl,0,none⟩=some (.slice A xs.length cap))
  (hl:SpansAt w A xs) (hBo:Bout < w.heap.size) (hco:w.cell? ⟨Bout,0,none⟩=some (.slice none 0 0)):
  jR Tryz.prog 234 #[.pointer (some ⟨Bl,0,none⟩)] (fun x:Int×Int=> #[.agg #[.int .i64 (x.1),.int .i64 (x.2)]]) nV Bout (fun ys=>ys=dg xs) (fun pre=>pre <+:dg xs) (fun pre=>pre <+:dg xs) w:=by
 intro l J Jx U hW hJ hJx hY h0
 refine callsIn_wide.2 ?_
 show Calls Tryz.prog 234 #[.func (.yield l) #[] #[],.pointer (some ⟨Bl,0,none⟩)] U _
 have HY:=zH hY
 have HJ:=zH hJ
 have HJX:=zH hJx
 have H0:=zH h0
 have c0:U.cell? ⟨Bl,0,none⟩=some (.slice A xs.length cap):=(hW.cell (p:=⟨Bl,0,none⟩) hBl).trans hcl
 have co:U.cell? ⟨Bout,0,none⟩=some (.slice none 0 0):=(hW.cell (p:=⟨Bout,0,none⟩) hBo).trans hco
 have HL:=zH (hl.ext hW)
 have HO:=zH co
 have hsz:=hW.size
 have hblt:Bl < U.heap.size:=by omega
 have HS:=zH (dy xs)
 have HZ:=zH (show dg xs=ml (sortS xs)from rfl)
 have hzl:(sortS xs).length≤1000000:=by rw [gU];exact hlen
 clear hY hJ hJx h0 hcl hco hl co hW
 generalize hz:sortS xs=zs at HS HZ hzl
 have HQ:=zH hz
 clear hz
 go_enter Tryz.func234,Tryz.ntmps234
 go_wp2_with fail
 refine (vt A cap xs _ hlen (HL.out.ext ((AD _).alloc _))).mono ?_
 intro e W1 hret
 rw [HQ.out]at hret
 obtain ⟨v,rfl,hown,hb1⟩:=hret
 have HX1:Ext (U.alloc (.cells #[.int .i64 0,.int .i64 0] 63)) W1:=hb1
 simp only [World.size_alloc]at hown
 have hx01:Ext U W1:=((AD _).alloc _).trans HX1
 have hs1:=AG HX1
 simp only [World.size_alloc]at hs1
 have hF0:ItFix w.heap.size (U.heap.size+1) W1.heap.size U.heap.size Bout v:=⟨hsz,by omega,by omega,fun g hg=>(World.ownsRow.lt hown g hg).2,by omega⟩
 have hvO:v.ownBlock≠some U.heap.size:=fun h=>by have:=(World.ownsRow.lt hown _ h).1;omega
 have hIT0:ItSt (U.heap.size+1) W1.heap.size U.heap.size Bout v zs (0,0) W1:=by
  refine ⟨(HX1.block sM).trans (World.alloc_heap_new _ _),hown,fun b hb=> ?_,Nat.le_refl _⟩
  obtain ⟨n,c,hnc⟩:=(du hx01 oM).1 hb
  rw [HO.out]at hnc
  cases hnc
 obtain ⟨A1,cap1,rfl,_,_⟩:=hown.form aE dM
 have HF:=zH hF0
 have HVO:=zH hvO
 have HIT:=zH hIT0
 have HJ1:=zH (HJ.out _ _ _ H0.out (Aa hx01 (Nat.le_refl _)))
 clear hown hb1 hvO H0 HL HO HQ HX1 hF0 hIT0
 go_wp2_with fail
 go_loopw [9] (fun i wr=>∃k:Nat,k≤zs.length∧i= .int .i64 k∧Hid (ItSt (U.heap.size+1) W1.heap.size U.heap.size Bout (.slice A1 zs.length cap1) zs (foldJ (zs.take k)).2 wr)∧Hid (J (foldJ (zs.take k)).1 wr)) (fun i _=>zs.length - (intOf i).toNat)
 case atStart=>exact ⟨0,by omega,rfl,HIT,HJ1⟩
 case round=>
  obtain ⟨k,hk,rfl,hit,hj⟩:=hrel
  clear HIT HJ1
  have HI:=zH (invJ zs HS.out k hk)
  have hsw:=hit.out.size
  by_cases hlt:k < zs.length
  rotate_left
  ·obtain rfl:k=zs.length:=by omega
   obtain ⟨o1,o2,o3,o4⟩:=hit.out.cells
   have HJZ:=zH (show ml zs=bZ (foldJ (zs.take zs.length))by rw [List.take_length];rfl)
   generalize foldJ (zs.take zs.length)=st at*
   obtain ⟨em,ao,so⟩:=st
   simp only at o1 o2
   by_cases h0:0 < so
   ·have h0':decide (0 < so)=true:=by simpa using h0
    have HE:=zH (show bZ (em,ao,so)=em++ [(ao,so)]by simp [bZ,h0])
    have hml:em++ [(ao,so)] <+:dg xs:=by
     rw [HZ.out,HJZ.out,HE.out]
     exact List.prefix_refl _
    obtain ⟨fn,tmps,assign,body,hy,hR⟩:=HY.out em (ao,so) wr hj.out hml
    dsimp only at hy
    have hro:Fence.wide.round=none:=rfl
    clear hml
    go_upto_region 11 with (fail)
    refine (wpIn_wide (n:=4)).1 ?_
    gi_wp2
    refine hR.mono ?_
    clear hy hR
    rintro e W3 (⟨rfl,hJ3,hk3⟩ | ⟨rfl,hJx3⟩)
    ·gi_wp2
     go_wp2_with fail
     go_end0
     exact ⟨⟨_,rfl⟩,.inl ⟨em++ [(ao,so)],by rw [HZ.out,HJZ.out,HE.out],hJ3⟩⟩
    ·gi_wp2
     go_wp2_with fail
     go_end0
     exact ⟨⟨_,rfl⟩,.inr ⟨em++ [(ao,so)],by rw [HZ.out,HJZ.out,HE.out];exact List.prefix_refl _,hJx3⟩⟩
   ·have h0':decide (0 < so)=false:=by simpa using h0
    have HE:=zH (show bZ (em,ao,so)=em by simp [bZ,h0])
    have HJ0:=zH hj.out
    go_wp2_with fail
    go_end0
    refine ⟨⟨_,rfl⟩,.inl ?_⟩
    rw [HZ.out,HJZ.out,HE.out]
    exact HJ0.out
  obtain ⟨_,_,e0,hrow,_,_⟩:=hit.out.own.form aE dM
  obtain ⟨rfl,_,rfl⟩:_∧_∧_:=by simpa only [Value.slice.injEq]using e0
  obtain ⟨lb,off,rfl,hc⟩:=hrow.get oM
  obtain ⟨c1,c2⟩:=aQ hc hlt
  obtain ⟨o1,o2,o3,o4⟩:=hit.out.cells
  have HT:=zH (rU hlt)
  have HPX:=zH (pZ zs (k+1))
  have HX:=zH (rfl:zs.getD k (0,0)=zs.getD k (0,0))
  rw [HT.out]at HPX
  clear HX e0 hrow hc
  generalize zs.getD k (0,0)=x at*
  obtain ⟨a,s⟩:=x
  generalize foldJ (zs.take k)=st at*
  obtain ⟨em,ao,so⟩:=st
  simp only at c1 c2 o1 o2
  have ib1:(k:Int) < (zs.length:Int):=by omega
  have hOlt:U.heap.size < wr.heap.size:=by omega
  go_wp2_with fail
  cases hm:mayB a s
  ·refine (eN a s _ hm _).mono ?_
   rintro e w1 ⟨rfl,hx1⟩
   have hx2:Ext wr w1:=((AD _).alloc _).trans hx1
   have HE:=zH (show cV (em,ao,so) (a,s)=(em,ao,so)by simp [cV,hm])
   go_wp2_with fail
   go_roundw
   case rel=>exact ⟨k+1,by omega,by go_num,by rw [HT.out,HE.out];exact hit.out.ext HF.out hx2,by rw [HT.out,HE.out];exact HJ.out _ _ _ hj.out (Aa hx2 oM)⟩
   case measure=>simp [intOf];omega
  obtain ⟨q1,q2,q3,q4⟩:=au hm
  refine (eN a s _ hm _).mono ?_
  rintro e W ⟨rfl,hx1⟩
  have hx2:Ext wr W:=((AD _).alloc _).trans hx1
  have k0:=aa wr #[.int .i64 a,.int .i64 s] 63 0 (.int .i64 a) rfl W hx1
  have k1:=aa wr #[.int .i64 a,.int .i64 s] 63 1 (.int .i64 s) rfl W hx1
  have HIT:=zH (hit.out.ext HF.out hx2)
  have HJW:=zH (HJ.out _ _ _ hj.out (Aa hx2 oM))
  have hsx:wr.heap.size < W.heap.size:=by have:=AG hx1;simp at this;omega
  have hbx:W.heap[wr.heap.size]?=some (.cells #[.int .i64 a,.int .i64 s] 63 (0,0)):=(hx1.block sM).trans (World.alloc_heap_new _ _)
  have HLD:=zH (fun (hl:Led W Bout wr.heap.size)=>by
   have h1:=(du hx2 (by have:=HF.out.out;omega)).1 hl
   have:=hit.out.led _ h1
   omega:¬Led W Bout wr.heap.size)
  obtain ⟨o1,o2,o3,o4⟩:=HIT.out.cells
  have HBX:=zH hbx
  clear hx1 hit hj hbx c1 c2
  generalize wr.heap.size=X at*
  have hs0:Ext W W:=AD W
  have l0:∀u:ExtOf W,u.1.cell? ⟨X,0,none⟩=some (.int .i64 a):=fun u=>u.2.cell k0
  have l1:∀u:ExtOf W,u.1.cell? ⟨X,1,none⟩=some (.int .i64 s):=fun u=>u.2.cell k1
  have l2:∀u:ExtOf W,u.1.cell? ⟨U.heap.size,0,none⟩=some (.int .i64 ao):=fun u=>u.2.cell o1
  have l3:∀u:ExtOf W,u.1.cell? ⟨U.heap.size,1,none⟩=some (.int .i64 so):=fun u=>u.2.cell o2
  go_wp2_with fail
  by_cases h0:0 < so
  ·have hmo:=HI.out.may h0
   have hmo':=au hmo
   simp only at hmo hmo'
   obtain ⟨r1,r2,r3,r4⟩:=hmo'
   have h0':decide (0 < so)=true:=by simpa using h0
   by_cases hj:a≤ao+so
   ·have hj':decide (a≤ao+so)=true:=by simpa using hj
    have HE:=zH (show cV (em,ao,so) (a,s)=(em,(ao,max (ao+so) (a+s) - ao))by simp [cV,hm,h0,hj])
    (refine aC (W:=W) kR kR aS ?_;(repeat (go_big_quiet_step (first | (go_at_call 198;with_reducible exact AE (dR ao so hmo _)))));refine wpQuiet_nil ?_;intro w1 hx)
    go_wp2_with fail
    (refine cc (W:=W) 9 kR kR aS ?_;simp only [List.take_succ_cons,List.take_zero,List.drop_succ_cons,List.drop_zero];(repeat (go_big_quiet_step (first | (go_at_call 198;with_reducible exact AE (dR ao so hmo _)) | (go_at_call 198;with_reducible exact AE (dR a s hm _)))));refine wpQuiet_nil ?_;intro w1 hx)
    have it1:=HIT.out.ext HF.out hx
    obtain ⟨p1,p2,p3,p4⟩:=it1.cells
    have IT1:=zH it1
    have hx3:=zH hx
    clear it1
    go_wp2_with fail
    go_roundw
    case rel=>
     refine ⟨k+1,by omega,by go_num,?_,?_⟩
     ·rw [HT.out,HE.out]
      exact IT1.out.set HF.out 1 _ _ (by simp;split <;>omega) HVO.out
     ·rw [HT.out,HE.out]
      exact HJ.out _ _ _ (HJ.out _ _ _ HJW.out (Aa hx3.out (by have:=AG hx2;omega))) (IT1.out.ab HF.out (Nat.le_refl _) 1 _)
    case measure=>simp [intOf];omega
   ·have hj':decide (a≤ao+so)=false:=by simpa using hj
    have HE:=zH (show cV (em,ao,so) (a,s)=(em++ [(ao,so)],(a,s))by simp only [cV,hm,if_true];rw [if_neg (fun h=>hj h.2),if_pos h0])
    (refine aC (W:=W) kR kR aS ?_;(repeat (go_big_quiet_step (first | (go_at_call 198;with_reducible exact AE (dR ao so hmo _)))));refine wpQuiet_nil ?_;intro w1 hx)
    have it1:=HIT.out.ext HF.out hx
    obtain ⟨p1,p2,p3,p4⟩:=it1.cells
    have hxx:=Ext.cell hx k0
    have hxy:=Ext.cell hx k1
    have IT1:=zH it1
    have JW1:=zH (HJ.out _ _ _ HJW.out (Aa hx (by have:=AG hx2;omega)))
    clear it1
    go_upto_region 4 with (fail)
    have HPE:=HPX.out
    rw [HE.out]at HPE
    have HPE:=zH HPE
    have hml:em++ [(ao,so)] <+:dg xs:=by
     rw [HZ.out]
     exact HPE.out
    obtain ⟨fn,tmps,assign,body,hy,hR⟩:=HY.out em (ao,so) w1 JW1.out hml
    dsimp only at hy p1 p2
    have hro:Fence.wide.round=none:=rfl
    clear hml
    refine (wpIn_wide (n:=4)).1 ?_
    gi_wp2
    refine hR.mono ?_
    clear hy hR
    rintro e W3 (⟨rfl,hJ3,hk3⟩ | ⟨rfl,hJx3⟩)
    ·have IT3:=zH (IT1.out.round HF.out hk3)
     obtain ⟨p1,p2,p3,p4⟩:=IT3.out.cells
     have hb3:W3.heap[X]?=some (.cells #[.int .i64 a,.int .i64 s] 63 (0,0)):=
      hk3.cells X _ (by have:=HF.out.o0;omega) ((hx.block oM).trans HBX.out) rfl (fun hl=>HLD.out ((du hx (by have:=HF.out.out;have:=AG hx2;omega)).1 hl))
     have g0:W3.cell? ⟨X,0,none⟩=some (.int .i64 a):=by simp [World.cell?,hb3]
     have g1:W3.cell? ⟨X,1,none⟩=some (.int .i64 s):=by simp [World.cell?,hb3]
     have J3:=zH hJ3
     clear hb3 hk3 hJ3
     gi_wp2
     go_wp2_with fail
     go_roundw
     case rel=>
      refine ⟨k+1,by omega,by go_num,?_,?_⟩
      ·rw [HT.out,HE.out]
       exact (IT3.out.set HF.out 0 (.int .i64 a) (a,so) sM HVO.out).set HF.out 1 (.int .i64 s) (a,s) sM HVO.out
      ·rw [HT.out,HE.out]
       exact HJ.out _ _ _ (HJ.out _ _ _ J3.out (IT3.out.ab HF.out (Nat.le_refl _) 0 _)) ((IT3.out.set HF.out 0 (.int .i64 a) (a,so) sM HVO.out).ab HF.out (Nat.le_refl _) 1 _)
     case measure=>simp [intOf];omega
    ·gi_wp2
     go_wp2_with fail
     (try simp only [Exit.inBlock,Exit.then])
     refine bodyPost_ret (results_none rfl _ _ _) rfl ?_
     exact ⟨⟨_,rfl⟩,.inr ⟨em++ [(ao,so)],by rw [HZ.out];exact HPE.out,hJx3⟩⟩
  ·have h0':decide (0 < so)=false:=by simpa using h0
   have hz0:so=0:=by have:=HI.out.zero;simp only at this;omega
   have he:em= []:=HI.out.none h0
   have HE:=zH (show cV (em,ao,so) (a,s)=(em,(a,s))by simp only [cV,hm,if_true];rw [if_neg (fun h=>h0 h.1),if_neg h0])
   clear hz0 he
   (refine aC (W:=W) kR kR aS ?_;(repeat (go_big_quiet_step (fail)));refine wpQuiet_nil ?_;intro w1 hx)
   have it1:=HIT.out.ext HF.out hx
   obtain ⟨p1,p2,p3,p4⟩:=it1.cells
   have hxx:=Ext.cell hx k0
   have hxy:=Ext.cell hx k1
   have IT1:=zH it1
   have hx3:=zH hx
   clear it1
   go_wp2_with fail
   go_roundw
   case rel=>
    refine ⟨k+1,by omega,by go_num,?_,?_⟩
    ·rw [HT.out,HE.out]
     exact (IT1.out.set HF.out 0 (.int .i64 a) (a,so) sM HVO.out).set HF.out 1 (.int .i64 s) (a,s) sM HVO.out
    ·rw [HT.out,HE.out]
     exact HJ.out _ _ _ (HJ.out _ _ _ (HJ.out _ _ _ HJW.out (Aa hx3.out (by have:=AG hx2;omega))) (IT1.out.ab HF.out (Nat.le_refl _) 0 _)) ((IT1.out.set HF.out 0 (.int .i64 a) (a,so) sM HVO.out).ab HF.out (Nat.le_refl _) 1 _)
   case measure=>simp [intOf];omega
attribute [local go_sem] Oper.semAt_some
structure Coll (n0 Bout:Nat) (t:TypeId) (pre:List (Int×Int)) (W:World) (v:Value):Prop where
 box:W.heap[Bout]?=some (.cells #[v] t (0,0))
 own:OwnS W n0 v pre
section
variable {n0 Bout : Nat} {t : TypeId} {pre : List (Int × Int)} {W W' A B : World} {v : Value}
theorem Coll.cell (h:Coll n0 Bout t pre W v):W.cell? ⟨Bout,0,none⟩=some v∧W.frozen? ⟨Bout,0,none⟩=false:=by
 have:=h.box
 constructor <;>simp [World.cell?,World.frozen?,this]
theorem Coll.led (h:Coll n0 Bout t pre W v) (b:Nat):Led W Bout b↔v.ownBlock=some b:=by
 unfold Led
 rw [h.cell.1]
 rcases h.own.2 with ⟨rfl,_⟩ | ⟨g,cap,cur,rfl,_⟩
 ·simp [Value.ownBlock]
 ·simp [Value.ownBlock]
theorem Coll.abI (h:Coll n0 Bout t pre A v) (hB:Bout < n0) (hab:AbI n0 Bout A B):Coll n0 Bout t pre B v:=
 ⟨(hab.below.block Bout hB).trans h.box,h.own.same fun g cs ty r hg hc=>hab.kept g _ hc rfl ((h.led g).2 hg)⟩
theorem Coll.ext (h:Coll n0 Bout t pre W v) (hx:Ext W W'):Coll n0 Bout t pre W' v:=⟨(hx.block (aA h.box)).trans h.box,h.own.ext hx⟩
theorem Coll.setOther (h:Coll n0 Bout t pre W v) {k i:Nat} (u:Value) (hk:k < n0) (hne:Bout≠k):Coll n0 Bout t pre (W.setCell ⟨k,i,none⟩ u) v:=
 ⟨(Below.heap_setCell W ⟨k,i,none⟩ u Bout hne).trans h.box,h.own.same fun g cs ty r hg hc=>(Below.heap_setCell W ⟨k,i,none⟩ u g (fun e=>by simp only at e;have:=(World.ownsRow.lt h.own g hg).1;omega)).trans hc⟩
theorem Coll.app (h:Coll n0 Bout t pre W v) (hB:Bout < n0) {nV:Nat} (hV:nV≤Bout) {w1:World} {x:Int×Int} {A1:Option Addr} {r cap1 H:Nat} (hn:n0≤W.heap.size) (hH:W.heap.size≤H)
  (hown:OwnS w1 n0 (.slice A1 r cap1) (pre++ [x])) (hg:W.grownBy w1 v.ownBlock) (hat:(Value.slice A1 r cap1).ownBlock=v.ownBlock∨(Value.slice A1 r cap1).ownBlock=some H):
  (w1.cell? ⟨Bout,0,none⟩=some v∧w1.frozen? ⟨Bout,0,none⟩=false)∧Coll n0 Bout t (pre++ [x]) (w1.setCell ⟨Bout,0,none⟩ (.slice A1 r cap1)) (.slice A1 r cap1)∧
   Kp nV n0 Bout W (w1.setCell ⟨Bout,0,none⟩ (.slice A1 r cap1))∧KeepsFrom n0 W (w1.setCell ⟨Bout,0,none⟩ (.slice A1 r cap1))∧
   ∀k,k < W.heap.size→k≠Bout→v.ownBlock≠some k→(w1.setCell ⟨Bout,0,none⟩ (.slice A1 r cap1)).heap[k]?=W.heap[k]?:=by
 have hlt:=aA h.box
 have hbo:v.ownBlock≠some Bout:=fun e=>by have:=(World.ownsRow.lt h.own _ e).1;omega
 have hb1:w1.heap[Bout]?=some (.cells #[v] t (0,0)):=(hg.block Bout hlt (fun e=>hbo e.symm)).trans h.box
 have hbo2:(Value.slice A1 r cap1).ownBlock≠some Bout:=fun e=>by have:=(World.ownsRow.lt hown _ e).1;omega
 have hC:Coll n0 Bout t (pre++ [x]) (w1.setCell ⟨Bout,0,none⟩ (.slice A1 r cap1)) (.slice A1 r cap1):=by
  refine ⟨?_,hown.same fun g cs ty r' hg' hc=> ?_⟩
  ·rw [heap_setCell_same w1 Bout 0 _ _ _ hb1];rfl
  ·rw [Below.heap_setCell w1 ⟨Bout,0,none⟩ _ g (fun e=>hbo2 (by rw [hg'];exact congrArg some e))];exact hc
 refine ⟨⟨by simp [World.cell?,hb1],by simp [World.frozen?,hb1]⟩,hC,⟨?_,fun k o hk ho hc hl=> ?_,fun k hk=> ?_⟩,⟨by simpa using hg.size,fun k o hk ho hc=> ?_⟩,fun k hk hne hov=>(Below.heap_setCell w1 ⟨Bout,0,none⟩ _ k hne).trans (hg.block k hk (fun e=>hov e.symm))⟩
 ·exact ((Below.refl nV W).grown hg oM (fun k e=>by have:=(World.ownsRow.lt h.own k e).1;omega)).setCell (p:=⟨Bout,0,none⟩) hV _
 ·rw [Below.heap_setCell w1 ⟨Bout,0,none⟩ _ k (fun e=>by simp only at e;omega)]
  exact (hg.block k (aA ho) (fun e=>hl ((h.led k).2 e.symm))).trans ho
 ·rw [hC.led]at hk
  rcases hat with h1 | h1
  ·exact .inl ((h.led k).2 (by rw [←h1];exact hk))
  ·rw [h1]at hk
   obtain rfl:H=k:=by simpa using hk
   have:=(World.ownsRow.lt hC.own H h1).2
   exact .inr ⟨hH,this⟩
 ·rw [Below.heap_setCell w1 ⟨Bout,0,none⟩ _ k (fun e=>by simp only at e;omega)]
  refine (hg.block k (aA ho) (fun e=> ?_)).trans ho
  rcases h.own.2 with ⟨rfl,_⟩ | ⟨g,cap,cur,rfl,_,hgb,_⟩
  ·simp [Value.ownBlock]at e
  ·obtain rfl:k=g:=by simpa [Value.ownBlock]using e
   rw [hgb]at ho;cases ho;cases hc
end
end Go.Proofs.YtphpppjfogpohaaGreat
namespace Go.Proofs.YtphpppjfogpohaaGreat
open Go.RowKit Go.Shelf
attribute [local go_sem] Oper.semAt_some
theorem iy (xs:List (Int×Int)):(dg xs).length≤xs.length:=by
 have:=p7 (sortS xs)
 rw [gU]at this
 exact this
attribute [local go_sem] Oper.semAt_some
theorem lC {xs:List (Int×Int)} {x:Int×Int} (h:x∈dg xs):mayB x.1 x.2=true:=by
 have hj:=gW xs
 have h1:=hj.pos x h
 obtain ⟨y,_,hy,h2,_⟩:=cG.1 ((hj.mem x.1).1 ⟨x,h,by omega,by omega⟩)
 obtain ⟨z,_,hz,_,h3⟩:=cG.1 ((hj.mem (x.1+x.2 - 1)).1 ⟨x,h,by omega,by omega⟩)
 have:=au hy
 have:=au hz
 simp only [mayB,decide_eq_true_eq]
 omega
def pw (b:Int) (l:List (Int×Int)):Prop:=∀x∈l,x.1 < b
theorem iR (a:Int) (l:List (Int×Int)):(foldG a l).1.length≤l.length:=by
 have:∀(l:List (Int×Int)) st,(l.foldl fP st).1.length≤st.1.length+l.length:=by
  intro l
  induction l with
  | nil=>intro st;simp
  | cons x l ih=>
   intro st
   refine Nat.le_trans (ih _) ?_
   have:(fP st x).1.length≤st.1.length+1:=by unfold fP;split <;>simp
   simp only [List.length_cons]
   omega
 simpa [foldG]using this l ([],a)
theorem px (a:Int) {s:Int} {xs pre:List (Int×Int)} (hm:mayB a s=true) (h:pre <+:dg xs):a≤(foldG a pre).2∧(foldG a pre).2≤1099511627776:=by
 have hj:=gW xs
 have hinv:=invG a (dg xs) hj.pos hj.apart pre h
 have:=au hm
 refine ⟨hinv.ge,?_⟩
 rcases hinv.att with h1 | ⟨y,hy,h1⟩
 ·omega
 ·have:=au (lC (h.subset hy))
  omega
structure GapI (V:World) (n0 Bo Ba T2:Nat) (a s:Int) (st:List (Int×Int)×Int) (W:World):Prop where
 coll:∃v,Coll n0 Bo 31 st.1 W v
 att:W.heap[Ba]?=some (.cells #[.int .i64 st.2] 3 (0,0))
 all:W.heap[T2]?=some (.cells #[.int .i64 a,.int .i64 s] 63 (0,0))
 ext:Ext V W
 size:n0≤W.heap.size
theorem GapI.keep {V:World} {n0 Bo Ba T2:Nat} {a s:Int} {st:List (Int×Int)×Int} {A B:World} (h:GapI V n0 Bo Ba T2 a s st A) (hV:V.heap.size≤n0) (ho:Bo < n0) (ha:Ba < n0) (ht:T2 < n0) (hb:Below n0 A B)
  (hk:∀(k:Nat) (o:Obj),A.heap[k]?=some o→o.isCells=true→Led A Bo k→B.heap[k]?=some o):GapI V n0 Bo Ba T2 a s st B:=
 ⟨h.coll.imp fun v hv=>hv.abI ho ⟨hb,hk⟩,(hb.block Ba ha).trans h.att,(hb.block T2 ht).trans h.all,Below.trans h.ext (Below.mono hb hV),Nat.le_trans h.size hb.size⟩
theorem yE (a s:Int) (A:Option Addr) (cap:Nat) (xs:List (Int×Int)) (V:World) (hm:mayB a s=false):
  Calls Tryz.prog 207 #[.agg #[.int .i64 (a),.int .i64 (s)],.slice A xs.length cap] V (fun e w'=>∃zs,eR a s xs zs∧RetS V V.heap.size zs e w'):=by
 have HM:=zH hm
 clear hm
 go_enter Tryz.func207,Tryz.ntmps207
 go_wp2_with fail
 refine (eN a s _ HM.out _).mono ?_
 rintro e w1 ⟨rfl,hx1⟩
 have hx2:=((AD V).alloc (.cells #[.int .i64 a,.int .i64 s] 63)).trans hx1
 clear hx1
 go_wp2_with fail
 go_ret
 exact ⟨[],Canon.nil (fun p hp=>by have:=hp.1;unfold hasB at this;rw [HM.out]at this;cases this),_,rfl,AM _ _ _ _ _,hx2⟩
theorem wB (a s:Int) (A:Option Addr) (cap:Nat) (xs:List (Int×Int)) (V:World) (hm:mayB a s=true) (hlen:xs.length≤1000000) (hl:SpansAt V A xs):
  Calls Tryz.prog 207 #[.agg #[.int .i64 (a),.int .i64 (s)],.slice A xs.length cap] V (fun e w'=>∃zs,eR a s xs zs∧RetS V V.heap.size zs e w'):=by
 have HM:=zH hm
 obtain ⟨q1,q2,q3,q4⟩:=au hm
 clear hm
 refine (callsIn_wide (n:=5)).1 ?_
 have hro:Fence.wide.round=none:=rfl
 refine callsIn_of_wp_marks Tryz.func207 rfl trivial ?_ hro
 simp only [Tryz.ntmps207,List.size_toArray,List.length_cons,List.length_nil,Nat.reduceAdd,Nat.reduceSub,Array.replicate_succ,Array.replicate_zero,List.push_toArray,List.append_toArray,List.nil_append,List.cons_append]
 have k0:=fun w'=>aa V #[.int .i64 a,.int .i64 s] 63 0 (.int .i64 a) rfl w'
 have k1:=fun w'=>aa V #[.int .i64 a,.int .i64 s] 63 1 (.int .i64 s) rfl w'
 gi_wp2_with (first
  | (refine ⟨trivial,?_⟩;gi_at_call 90;refine (callsIn_wide.2 (eN a s _ HM.out _)).mono ?_;rintro e w1 ⟨rfl,hx1⟩;have b0:=k0 w1 hx1;have hz1:V.heap.size < w1.heap.size:=(by have:=AG hx1;simp at this;omega))
  | (refine ⟨trivial,?_⟩;gi_at_call 228;refine (callsIn_wide.2 (vz _ _ _ _)).mono ?_;rintro e w' ⟨rfl,rfl⟩))
 have hw0:Ext V (((w1.alloc (.cells #[.slice none 0 0] 31)).alloc (.cells #[.int .i64 a] 3)).alloc (.cells #[.slice A xs.length cap] 31)):=(((((AD V).alloc _).trans hx1).alloc _).alloc _).alloc _
 have hws:(((w1.alloc (.cells #[.slice none 0 0] 31)).alloc (.cells #[.int .i64 a] 3)).alloc (.cells #[.slice A xs.length cap] 31)).heap.size=w1.heap.size+3:=by simp
 have hbo:(((w1.alloc (.cells #[.slice none 0 0] 31)).alloc (.cells #[.int .i64 a] 3)).alloc (.cells #[.slice A xs.length cap] 31)).heap[w1.heap.size]?=some (.cells #[.slice none 0 0] 31 (0,0)):=
  (Below.heap_alloc _ _ _ (by simp;omega)).trans ((Below.heap_alloc _ _ _ sM).trans (World.alloc_heap_new _ _))
 have hba:(((w1.alloc (.cells #[.slice none 0 0] 31)).alloc (.cells #[.int .i64 a] 3)).alloc (.cells #[.slice A xs.length cap] 31)).heap[w1.heap.size+1]?=some (.cells #[.int .i64 a] 3 (0,0)):=by
  refine (Below.heap_alloc _ _ _ sM).trans ?_
  have:=World.alloc_heap_new (w1.alloc (.cells #[.slice none 0 0] 31)) (.cells #[.int .i64 a] 3)
  simpa using this
 have hbl:(((w1.alloc (.cells #[.slice none 0 0] 31)).alloc (.cells #[.int .i64 a] 3)).alloc (.cells #[.slice A xs.length cap] 31)).heap[w1.heap.size+2]?=some (.cells #[.slice A xs.length cap] 31 (0,0)):=by
  have:=World.alloc_heap_new ((w1.alloc (.cells #[.slice none 0 0] 31)).alloc (.cells #[.int .i64 a] 3)) (.cells #[.slice A xs.length cap] 31)
  simpa using this
 have hbt:(((w1.alloc (.cells #[.slice none 0 0] 31)).alloc (.cells #[.int .i64 a] 3)).alloc (.cells #[.slice A xs.length cap] 31)).heap[V.heap.size]?=some (.cells #[.int .i64 a,.int .i64 s] 63 (0,0)):=by
  refine (Below.heap_alloc _ _ _ (by simp;omega)).trans ((Below.heap_alloc _ _ _ (by simp;omega)).trans ((Below.heap_alloc _ _ _ hz1).trans ?_))
  exact (hx1.block sM).trans (World.alloc_heap_new _ _)
 generalize ((w1.alloc (.cells #[.slice none 0 0] 31)).alloc (.cells #[.int .i64 a] 3)).alloc (.cells #[.slice A xs.length cap] 31)=w0 at*
 have hws1:=Nat.le_of_eq hws
 have hws2:=Nat.le_of_eq hws.symm
 clear b0 hx1 k0 k1 hws
 generalize w1.heap.size=Bo at*
 have hjl:=iy xs
 have hj:=gW xs
 refine ki (gf:=234) (lb:= #[.pointer (some ⟨Bo+2,0,none⟩)]) rfl (enters_of Tryz.func234 kR rfl)
  (pu V.heap.size (Bo+2) Bo A cap xs w0 hlen oM oM (by simp [World.cell?,hbl]) (hl.ext hw0) oM (by simp [World.cell?,hbo]))
  oM (fun _=>rfl)
  (fun pre W=>GapI V w0.heap.size Bo (Bo+1) V.heap.size a s (foldG a pre) W∧pw (a+s) pre)
  (fun c pre W=>c= .exit 0∧∃pre' x,pre=pre'++ [x]∧a+s≤x.1∧pw (a+s) pre'∧GapI V w0.heap.size Bo (Bo+1) V.heap.size a s (foldG a pre') W)
  (fun s A B h hab=>⟨h.1.keep oM oM oM oM hab.below hab.kept,h.2⟩)
  (fun c s A B h hab=>by
   obtain ⟨hc,pre',x,h1,h2,h3,h4⟩:=h
   exact ⟨hc,pre',x,h1,h2,h3,h4.keep oM oM oM oM hab.below hab.kept⟩)
  ⟨⟨⟨_,hbo,AM _ _ _ _ _⟩,hba,hbt,hw0,Nat.le_refl _⟩,by simp [pw]⟩
  (fun pre x a' W=>GapI V w0.heap.size Bo (Bo+1) V.heap.size a s (foldG a pre) W∧pw (a+s) pre∧∃X,w0.heap.size≤X∧W.heap[X]?=some (.cells #[.int .i64 x.1,.int .i64 x.2] 63 (0,0))∧¬Led W Bo X∧
   a'= {tmps:= #[.agg #[.int .i64 (a),.int .i64 (s)],.slice A xs.length cap,.pointer (some ⟨V.heap.size,0,none⟩),undef,.slice none 0 0,.pointer (some ⟨Bo,0,none⟩),.pointer (some ⟨Bo+1,0,none⟩),.pointer (some ⟨X,0,none⟩),.agg #[.int .i64 (a),.int .i64 (s)],.bool true,.bool false,.pointer (some ⟨V.heap.size,0,none⟩),.int .i64 a,.slice A xs.length cap,.func (.func 234) #[] #[.pointer (some ⟨Bo+2,0,none⟩)],.agg #[.int .i64 (x.1),.int .i64 (x.2)],
    undef,undef,undef,undef,undef,undef,undef,undef,undef,undef,undef,undef,undef,undef,undef,undef,undef,undef,undef,undef,undef,undef,undef,undef,undef,undef,undef,undef,undef,undef,undef,undef,undef,undef,undef,undef],defers:= []})
  ?hax ?assign ?body ?done ?stop
 case hax=>
  rintro pre x a' A B ⟨h1,h2,X,hX,hbX,hld,rfl⟩ hb hk
  refine ⟨h1.keep oM oM oM oM hb (fun k o ho hc _=>hk k o ho hc),h2,X,hX,hk X _ hbX rfl,fun hl=>hld ?_,rfl⟩
  obtain ⟨n,c,hc⟩:=hl
  rw [Below.cell (p:=⟨Bo,0,none⟩) hb (by simp only;omega)]at hc
  exact ⟨n,c,hc⟩
 case assign=>
  rintro l pre x W K ⟨h1,h2⟩ hK
  obtain ⟨v,hv⟩:=h1.coll
  have hsz:=h1.size
  have H1:=zH h1
  have H2:=zH h2
  have HV:=zH hv
  clear h1 h2 hv
  gi_wp2
  refine hK _ _ ⟨H1.out.keep oM oM oM oM ((Below.refl _ W).alloc hsz _) (fun k o ho _ _=>(Below.heap_alloc W _ k (aA ho)).trans ho),H2.out,W.heap.size,hsz,World.alloc_heap_new _ _,fun hl=> ?_,rfl⟩ ((KeepsOthers.alloc _ _).from _) (Ac ((Below.refl _ W).alloc (Nat.le_refl _) _) oM oM)
  have h3:=(du (Bout:=Bo) ((AD W).alloc (.cells #[.int .i64 x.1,.int .i64 x.2] 63)) oM).1 hl
  rw [HV.out.led]at h3
  have:=(World.ownsRow.lt HV.out.own _ h3).2
  omega
 case body=>
  rintro l pre x a' W ⟨hI,hp,X,hX,hbX,hld,rfl⟩ hgd
  have hxm:=lC (hgd.subset (List.mem_append_right pre (List.mem_singleton_self x)))
  have hinv:=invG a (dg xs) hj.pos hj.apart pre ((List.prefix_append _ _).trans hgd)
  have hat:a≤(foldG a pre).2∧(foldG a pre).2≤1099511627776:=by
   refine ⟨hinv.ge,?_⟩
   rcases hinv.att with h | ⟨y,hy,h⟩
   ·omega
   ·have:=au (lC (hgd.subset (List.mem_append_left _ hy)))
    omega
  have hpl:pre.length < xs.length:=by have:=hgd.length_le;simp at this;omega
  have hol:(foldG a pre).1.length≤pre.length:=iR a pre
  obtain ⟨v,hv⟩:=hI.coll
  have HSN:=zH (ku a pre x)
  have HP:=zH hp
  have HI:=zH hI
  have hca:=hI.att
  have hct:=hI.all
  have hsz:=hI.size
  have hEV:=hI.ext
  have HV:=zH hv
  clear hinv hI hgd hv hp
  generalize hst:foldG a pre=st at*
  obtain ⟨out,at0⟩:=st
  have HST:=zH hst
  clear hst
  obtain ⟨x1,x2⟩:=x
  simp only at hat hca hxm hol hbX
  obtain ⟨p1,p2,p3,p4⟩:=au hxm
  obtain ⟨p5,p6⟩:=hat
  have HXM:=zH hxm
  clear hxm
  have hs0:Ext W W:=AD W
  have c0:∀w',Ext W w'→w'.cell? ⟨X,0,none⟩=some (.int .i64 x1):=fun w' h=>h.cell (by simp [World.cell?,hbX])
  have c1:∀w',Ext W w'→w'.cell? ⟨X,1,none⟩=some (.int .i64 x2):=fun w' h=>h.cell (by simp [World.cell?,hbX])
  have c2:∀w',Ext W w'→w'.cell? ⟨Bo+1,0,none⟩=some (.int .i64 at0):=fun w' h=>h.cell (by simp [World.cell?,hca])
  have c3:∀w',Ext W w'→w'.cell? ⟨V.heap.size,0,none⟩=some (.int .i64 a):=fun w' h=>h.cell (by simp [World.cell?,hct])
  have c4:∀w',Ext W w'→w'.cell? ⟨V.heap.size,1,none⟩=some (.int .i64 s):=fun w' h=>h.cell (by simp [World.cell?,hct])
  have l0:=fun u:ExtOf W=>c0 u.1 u.2
  have l1:=fun u:ExtOf W=>c1 u.1 u.2
  have l2:=fun u:ExtOf W=>c2 u.1 u.2
  have l3:=fun u:ExtOf W=>c3 u.1 u.2
  have l4:=fun u:ExtOf W=>c4 u.1 u.2
  have HX:=zH hbX
  have HA:=zH hca
  have HT:=zH hct
  clear hbX hca hct
  by_cases hbr:a+s≤x1
  ·have hbr':decide (a+s≤x1)=true:=by simpa using hbr
   gi_wp2
   (refine d8 (W:=W) [(0,true),(1,true),(2,true),(3,false),(4,false)] [] [] kR kR kR (by intro a w h;exact h) (by intro c a d v w h;cases d <;>first | exact h | (cases h;done) | cases h.1.1 | cases h.1) aS ?_;simp only [aI,List.map_cons,List.map_nil,List.getD_cons_zero,List.getD_cons_succ];(repeat (go_big_quiet_step (first | (go_at_call 198;with_reducible exact AE (dR a s HM.out _)))));refine wpQuiet_nil ?_;intro w1 hx;refine cD ?_)
   go_wp2_with fail
   gi_wp2
   exact ⟨dK hx,rfl,pre,(x1,x2),rfl,hbr,HP.out,by rw [HST.out];exact HI.out.keep oM oM oM oM (Below.mono hx hsz) (fun k o ho _ _=>(hx.block (aA ho)).trans ho)⟩
  ·have hbr':decide (a+s≤x1)=false:=by simpa using hbr
   have HP2:Hid (pw (a+s) (pre++ [(x1,x2)])):=zH fun y hy=>by
    rw [List.mem_append,List.mem_singleton]at hy
    rcases hy with hy | rfl
    ·exact HP.out y hy
    ·simp only;omega
   gi_wp2
   (refine d8 (W:=W) [(0,true),(1,true),(2,true),(3,false),(4,false)] [] [] kR kR kR (by intro a w h;exact h) (by intro c a d v w h;cases d <;>first | exact h | (cases h;done) | cases h.1.1 | cases h.1) aS ?_;simp only [aI,List.map_cons,List.map_nil,List.getD_cons_zero,List.getD_cons_succ];(repeat (go_big_quiet_step (first | (go_at_call 198;with_reducible exact AE (dR a s HM.out _)))));refine wpQuiet_nil ?_;intro w1 hx;refine cD ?_)
   by_cases ht:at0 < x1
   ·
    have HE:=zH (show fP (out,at0) (x1,x2)=(out++ [(at0,x1 - at0)],max at0 (x1+x2))by simp [fP,ht])
    obtain ⟨d1,d2⟩:=(HV.out.ext hx).cell
    have hszw:W.heap.size≤w1.heap.size:=AG hx
    go_wp2_with fail
    gi_wp2_with (gi_at_builtin;refine fg rfl (.tmp 25) (.tmp 32) 31 rfl ae aE rfl (by exact (HV.out.ext hx).own) [(at0,x1 - at0)] 1 _ rfl (out.length+1) 1 sM rfl w1.heap.size rfl rfl oM (by simp [maxLen];omega) oM ?_;intro A1 cap1 w2 hown1 hgr1 hat1;obtain ⟨⟨d1,d2⟩,hc2,hk2,hf2,ho2⟩:=Coll.app ((HV.out.ext hx).ext ((AD w1).alloc _)) oM (nV:=V.heap.size) oM (by simp;omega) sM hown1 hgr1 hat1;have HC2:=zH hc2;have HK2:=zH hk2;have HF2:=zH hf2;have HO2:=zH ho2;clear hc2 hk2 hf2 hown1 hgr1 hat1 ho2)
    have hvX:v.ownBlock≠some X:=fun h=>hld ((HV.out.led X).2 h)
    have hlX:=aA HX.out
    have KA:Hid (Kp V.heap.size w0.heap.size Bo W (w2.setCell ⟨Bo,0,none⟩ (.slice A1 (out.length+1) cap1))):=zH ((Ac hx oM oM).trans ((Ac ((Below.refl _ w1).alloc (Nat.le_refl _) _) oM oM).trans HK2.out))
    have KF:Hid (KeepsFrom w0.heap.size W (w2.setCell ⟨Bo,0,none⟩ (.slice A1 (out.length+1) cap1))):=zH ((dK hx).trans (((KeepsOthers.alloc _ _).from _).trans HF2.out))
    have CV:=zH (⟨_,HC2.out⟩:∃v',Coll w0.heap.size Bo 31 (out++ [(at0,x1 - at0)]) (w2.setCell ⟨Bo,0,none⟩ (.slice A1 (out.length+1) cap1)) v')
    have hov:∀k,k < w0.heap.size→v.ownBlock≠some k:=fun k hk h=>by have:=(World.ownsRow.lt HV.out.own k h).1;omega
    have same:∀k,k < W.heap.size→k≠Bo→v.ownBlock≠some k→(w2.setCell ⟨Bo,0,none⟩ (.slice A1 (out.length+1) cap1)).heap[k]?=W.heap[k]?:=fun k h1 h2 h3=>
     (HO2.out k (by simp;omega) h2 h3).trans ((Below.heap_alloc w1 _ k oM).trans (hx.block h1))
    have HX3:=zH ((same X hlX oM hvX).trans HX.out)
    have HA3:=zH ((same (Bo+1) oM oM (hov _ oM)).trans HA.out)
    have HT3:=zH ((same V.heap.size oM oM (hov _ oM)).trans HT.out)
    clear same hov HC2 HK2 HF2 HO2 d1 d2 hvX hx
    generalize w2.setCell ⟨Bo,0,none⟩ (.slice A1 (out.length+1) cap1)=W3 at*
    clear l0 l1 l2 l3 l4 c0 c1 c2 c3 c4
    have hs3:Ext W3 W3:=AD W3
    have l0:∀u:ExtOf W3,u.1.cell? ⟨X,0,none⟩=some (.int .i64 x1):=fun u=>u.2.cell (by simp [World.cell?,HX3.out])
    have l1:∀u:ExtOf W3,u.1.cell? ⟨X,1,none⟩=some (.int .i64 x2):=fun u=>u.2.cell (by simp [World.cell?,HX3.out])
    have l2:∀u:ExtOf W3,u.1.cell? ⟨Bo+1,0,none⟩=some (.int .i64 at0):=fun u=>u.2.cell (by simp [World.cell?,HA3.out])
    have hsz3:w0.heap.size≤W3.heap.size:=by have:=KA.out.below.size;omega
    (refine d8 (W:=W3) [(0,true),(1,true),(2,false),(3,false)] [] [4] kR kR kR (by intro a w h;exact h) (by intro c a d v w h;cases d <;>first | exact h | (cases h;done) | cases h.1.1 | cases h.1) aS ?_;simp only [aI,List.map_cons,List.map_nil,List.getD_cons_zero,List.getD_cons_succ];(repeat (go_big_quiet_step (first | (go_at_call 198;with_reducible exact AE (dR x1 x2 HXM.out _)))));refine wpQuiet_nil ?_;intro w1 hx;refine cD ?_)
    have ha4:=(hx.block (aA HA3.out)).trans HA3.out
    have e1:w1.cell? ⟨Bo+1,0,none⟩=some (.int .i64 at0):=by simp [World.cell?,ha4]
    have e2:w1.frozen? ⟨Bo+1,0,none⟩=false:=by simp [World.frozen?,ha4]
    have HA4:=zH ha4
    have HX4:=zH hx
    clear ha4 hx
    go_wp2_with fail
    all_goals (try gi_wp2)
    all_goals
     have hk:∀u,Kp V.heap.size w0.heap.size Bo W (w1.setCell ⟨Bo+1,0,none⟩ u):=fun u=>KA.out.trans ((Ac HX4.out oM oM).trans (Kp.setLow oM oM oM))
     refine ⟨KF.out.trans ((dK HX4.out).trans ((KeepsOthers.setCell _ _ _).from _)),hk _,?_,HP2.out⟩
     rw [HSN.out,HE.out]
     obtain ⟨v3,hv3⟩:=CV.out
     refine ⟨⟨v3,(hv3.ext HX4.out).setOther _ oM oM⟩,?_,?_,Below.trans hEV (hk _).below,by have:=(hk (.int .i64 0)).below.size;simp at this⊢;omega⟩
     ·rw [heap_setCell_same w1 (Bo+1) 0 _ _ _ HA4.out]
      refine congrArg (fun z=>some (Obj.cells #[Value.int IntKind.i64 z] 3 (0,0))) ?_
      first | (simp only;omega) | (simp only;split <;>omega) | omega | (split <;>omega)
     ·exact (Below.heap_setCell w1 ⟨Bo+1,0,none⟩ _ V.heap.size (by simp only;omega)).trans ((HX4.out.block (aA HT3.out)).trans HT3.out)
   ·have HE:=zH (show fP (out,at0) (x1,x2)=(out,max at0 (x1+x2))by simp [fP,ht])
    have hlX:=aA HX.out
    go_wp2_with fail
    gi_wp2
    have KA:Hid (Kp V.heap.size w0.heap.size Bo W w1):=zH (Ac hx oM oM)
    have KF:Hid (KeepsFrom w0.heap.size W w1):=zH (dK hx)
    have CV:=zH (⟨_,HV.out.ext hx⟩:∃v',Coll w0.heap.size Bo 31 out w1 v')
    have HX3:=zH ((hx.block hlX).trans HX.out)
    have HA3:=zH ((hx.block (show Bo+1 < W.heap.size by omega)).trans HA.out)
    have HT3:=zH ((hx.block (show V.heap.size < W.heap.size by omega)).trans HT.out)
    clear hx
    generalize w1=W3 at*
    clear l0 l1 l2 l3 l4 c0 c1 c2 c3 c4
    have hs3:Ext W3 W3:=AD W3
    have l0:∀u:ExtOf W3,u.1.cell? ⟨X,0,none⟩=some (.int .i64 x1):=fun u=>u.2.cell (by simp [World.cell?,HX3.out])
    have l1:∀u:ExtOf W3,u.1.cell? ⟨X,1,none⟩=some (.int .i64 x2):=fun u=>u.2.cell (by simp [World.cell?,HX3.out])
    have l2:∀u:ExtOf W3,u.1.cell? ⟨Bo+1,0,none⟩=some (.int .i64 at0):=fun u=>u.2.cell (by simp [World.cell?,HA3.out])
    have hsz3:w0.heap.size≤W3.heap.size:=by have:=KA.out.below.size;omega
    (refine d8 (W:=W3) [(0,true),(1,true),(2,false),(3,false)] [] [4] kR kR kR (by intro a w h;exact h) (by intro c a d v w h;cases d <;>first | exact h | (cases h;done) | cases h.1.1 | cases h.1) aS ?_;simp only [aI,List.map_cons,List.map_nil,List.getD_cons_zero,List.getD_cons_succ];(repeat (go_big_quiet_step (first | (go_at_call 198;with_reducible exact AE (dR x1 x2 HXM.out _)))));refine wpQuiet_nil ?_;intro w1 hx;refine cD ?_)
    have ha4:=(hx.block (aA HA3.out)).trans HA3.out
    have e1:w1.cell? ⟨Bo+1,0,none⟩=some (.int .i64 at0):=by simp [World.cell?,ha4]
    have e2:w1.frozen? ⟨Bo+1,0,none⟩=false:=by simp [World.frozen?,ha4]
    have HA4:=zH ha4
    have HX4:=zH hx
    clear ha4 hx
    go_wp2_with fail
    all_goals (try gi_wp2)
    all_goals
     have hk:∀u,Kp V.heap.size w0.heap.size Bo W (w1.setCell ⟨Bo+1,0,none⟩ u):=fun u=>KA.out.trans ((Ac HX4.out oM oM).trans (Kp.setLow oM oM oM))
     refine ⟨KF.out.trans ((dK HX4.out).trans ((KeepsOthers.setCell _ _ _).from _)),hk _,?_,HP2.out⟩
     rw [HSN.out,HE.out]
     obtain ⟨v3,hv3⟩:=CV.out
     refine ⟨⟨v3,(hv3.ext HX4.out).setOther _ oM oM⟩,?_,?_,Below.trans hEV (hk _).below,by have:=(hk (.int .i64 0)).below.size;simp at this⊢;omega⟩
     ·rw [heap_setCell_same w1 (Bo+1) 0 _ _ _ HA4.out]
      refine congrArg (fun z=>some (Obj.cells #[Value.int IntKind.i64 z] 3 (0,0))) ?_
      first | (simp only;omega) | (simp only;split <;>omega) | omega | (split <;>omega)
     ·exact (Below.heap_setCell w1 ⟨Bo+1,0,none⟩ _ V.heap.size (by simp only;omega)).trans ((HX4.out.block (aA HT3.out)).trans HT3.out)
 case done=>
  rintro D ys W hD rfl ⟨hI,hp⟩ hK
  have hgx:dg xs <+:dg xs:=List.prefix_refl _
  have hG:=kw HM.out hj hgx hp (.inl rfl)
  have hat:=px a HM.out hgx
  have hpl:=hjl
  obtain ⟨v,hv⟩:=hI.coll
  have hsz:=hI.size
  have hEV:=hI.ext
  have hca:=hI.att
  have hct:=hI.all
  have HV:=zH hv
  have HG:=zH hG
  have HK:=zH hK
  have hol:=Nat.le_trans (iR a (dg xs)) hpl
  clear hI hv hG hK hgx
  generalize foldG a (dg xs)=st at*
  obtain ⟨out,at0⟩:=st
  simp only at hat hca hol
  obtain ⟨p5,p6⟩:=hat
  have hs0:Ext W W:=AD W
  have l2:∀u:ExtOf W,u.1.cell? ⟨Bo+1,0,none⟩=some (.int .i64 at0):=fun u=>u.2.cell (by simp [World.cell?,hca])
  have l3:∀u:ExtOf W,u.1.cell? ⟨V.heap.size,0,none⟩=some (.int .i64 a):=fun u=>u.2.cell (by simp [World.cell?,hct])
  have l4:∀u:ExtOf W,u.1.cell? ⟨V.heap.size,1,none⟩=some (.int .i64 s):=fun u=>u.2.cell (by simp [World.cell?,hct])
  have l5:∀u:ExtOf W,u.1.cell? ⟨Bo,0,none⟩=some v:=fun u=>u.2.cell HV.out.cell.1
  clear hca hct
  gi_wp2
  refine (wpIn_wide (n:=5)).2 ?_
  (refine wp_region_noPanic ?_;refine az (W:=W) [(0,true),(1,true),(2,false),(3,false)] [] [] kR kR (by intro c a d v w h;exact h) aS ?_;simp only [aI,List.map_cons,List.map_nil,List.getD_cons_zero,List.getD_cons_succ];(repeat (go_big_quiet_step (first | (go_at_call 198;with_reducible exact AE (dR a s HM.out _)))));refine wpQuiet_nil ?_;intro w1 hx;refine cD ?_;refine NoPanic.normal ?_)
  by_cases hr:at0 < a+s
  ·have HE:=zH (show gw a s (out,at0)=out++ [(at0,a+s - at0)]by simp [gw,hr])
   go_wp2_with fail
   gi_wp2
   refine (wpIn_wide (n:=5)).2 ?_
   (refine wp_region_noPanic ?_;refine az (W:=W) [(0,true),(1,true),(2,true),(4,true),(3,false),(5,false),(6,false)] [7] [8,9] kR kR (by intro c a d v w h;exact h) aS ?_;simp only [aI,List.map_cons,List.map_nil,List.getD_cons_zero,List.getD_cons_succ];(repeat (go_big_quiet_step (first | (go_at_call 198;with_reducible exact AE (dR a s HM.out _)))));refine wpQuiet_nil ?_;intro w1 hx;(repeat (refine cT rM ?_;intro K hK;go_simp;refine hK _ _ zG ?_;clear hK K));refine cD ?_)
   have hszw:W.heap.size≤w1.heap.size:=AG hx
   go_wp2_with (at_builtin;refine aH rfl (.tmp 42) (.tmp 49) 31 rfl ae aE rfl (by exact (HV.out.ext hx).own) [(at0,a+s - at0)] 1 _ rfl (out.length+1) 1 sM rfl w1.heap.size rfl rfl oM (by simp [maxLen];omega) oM ?_;intro A1 cap1 w2 hown1 hgr1 hat1;obtain ⟨⟨d1,d2⟩,hc2,hk2,hf2, -⟩:=Coll.app ((HV.out.ext hx).ext ((AD w1).alloc _)) oM (nV:=V.heap.size) oM (by simp;omega) sM hown1 hgr1 hat1;have HC2:=zH hc2;have HK2:=zH hk2;have HF2:=zH hf2;clear hc2 hk2 hf2 hown1 hgr1 hat1)
   obtain ⟨d1,d2⟩:=HC2.out.cell
   have hD2:=HF2.out.same D _ hD ((Below.heap_alloc w1 _ D (by have:=aA HK.out;omega)).trans ((hx.block (aA HK.out)).trans HK.out)) rfl
   have hkk:Below V.heap.size W (w2.setCell ⟨Bo,0,none⟩ (.slice A1 (out.length+1) cap1)):=((Ac hx (nV:=V.heap.size) (n0:=w0.heap.size) (Bout:=Bo) oM oM).trans ((Ac ((Below.refl _ w1).alloc (Nat.le_refl _) _) oM oM).trans HK2.out)).below
   have HKK:=zH hkk
   have HD2:=zH hD2
   clear hkk hD2
   generalize w2.setCell ⟨Bo,0,none⟩ (.slice A1 (out.length+1) cap1)=W3 at*
   refine NoPanic.normal ?_
   gi_wp2
   refine ⟨by simp,.inl ⟨_,_,rfl,run_takeDeferred HD2.out,?_⟩⟩
   have hab:AbI w0.heap.size Bo W3 (W3.putObj D (.deferred none)):=AP hD HD2.out rfl
   refine ⟨_,results_tmp rfl _ _ _,_,HG.out,_,rfl,?_,Below.trans hEV (Below.trans HKK.out (Below.mono hab.below oM))⟩
   rw [HE.out]
   exact (HC2.out.abI oM hab).own.mono oM
  ·have HE:=zH (show gw a s (out,at0)=out by simp [gw,hr])
   obtain ⟨d1,d2⟩:=(HV.out.ext hx).cell
   have hD2:=(hx.block (aA HK.out)).trans HK.out
   have HD2:=zH hD2
   have hC1:=zH (HV.out.ext hx)
   clear hD2
   go_wp2_with fail
   gi_wp2
   refine ⟨by simp,.inl ⟨_,_,rfl,run_takeDeferred HD2.out,?_⟩⟩
   have hab:AbI w0.heap.size Bo w1 (w1.putObj D (.deferred none)):=AP hD HD2.out rfl
   refine ⟨_,results_tmp rfl _ _ _,_,HG.out,_,rfl,?_,Below.trans (hEV.trans hx) (Below.mono hab.below oM)⟩
   rw [HE.out]
   exact (hC1.out.abI oM hab).own.mono oM
 case stop=>
  rintro D c pre W hD hpre ⟨rfl,pre',x,rfl,hxx,hp,hI⟩ hK
  have hgx:pre' <+:dg xs:=(List.prefix_append _ _).trans hpre
  have hG:=kw HM.out hj hgx hp (.inr ⟨x,hpre,hxx⟩)
  have hat:=px a HM.out hgx
  have hpl:=Nat.le_trans hgx.length_le hjl
  clear hpre hp hxx
  obtain ⟨v,hv⟩:=hI.coll
  have hsz:=hI.size
  have hEV:=hI.ext
  have hca:=hI.att
  have hct:=hI.all
  have HV:=zH hv
  have HG:=zH hG
  have HK:=zH hK
  have hol:=Nat.le_trans (iR a pre') hpl
  clear hI hv hG hK hgx
  generalize foldG a pre'=st at*
  obtain ⟨out,at0⟩:=st
  simp only at hat hca hol
  obtain ⟨p5,p6⟩:=hat
  have hs0:Ext W W:=AD W
  have l2:∀u:ExtOf W,u.1.cell? ⟨Bo+1,0,none⟩=some (.int .i64 at0):=fun u=>u.2.cell (by simp [World.cell?,hca])
  have l3:∀u:ExtOf W,u.1.cell? ⟨V.heap.size,0,none⟩=some (.int .i64 a):=fun u=>u.2.cell (by simp [World.cell?,hct])
  have l4:∀u:ExtOf W,u.1.cell? ⟨V.heap.size,1,none⟩=some (.int .i64 s):=fun u=>u.2.cell (by simp [World.cell?,hct])
  have l5:∀u:ExtOf W,u.1.cell? ⟨Bo,0,none⟩=some v:=fun u=>u.2.cell HV.out.cell.1
  clear hca hct
  gi_wp2
  refine (wpIn_wide (n:=5)).2 ?_
  (refine wp_region_noPanic ?_;refine az (W:=W) [(0,true),(1,true),(2,false),(3,false)] [] [] kR kR (by intro c a d v w h;exact h) aS ?_;simp only [aI,List.map_cons,List.map_nil,List.getD_cons_zero,List.getD_cons_succ];(repeat (go_big_quiet_step (first | (go_at_call 198;with_reducible exact AE (dR a s HM.out _)))));refine wpQuiet_nil ?_;intro w1 hx;refine cD ?_;refine NoPanic.normal ?_)
  by_cases hr:at0 < a+s
  ·have HE:=zH (show gw a s (out,at0)=out++ [(at0,a+s - at0)]by simp [gw,hr])
   go_wp2_with fail
   gi_wp2
   refine (wpIn_wide (n:=5)).2 ?_
   (refine wp_region_noPanic ?_;refine az (W:=W) [(0,true),(1,true),(2,true),(4,true),(3,false),(5,false),(6,false)] [7] [8,9] kR kR (by intro c a d v w h;exact h) aS ?_;simp only [aI,List.map_cons,List.map_nil,List.getD_cons_zero,List.getD_cons_succ];(repeat (go_big_quiet_step (first | (go_at_call 198;with_reducible exact AE (dR a s HM.out _)))));refine wpQuiet_nil ?_;intro w1 hx;(repeat (refine cT rM ?_;intro K hK;go_simp;refine hK _ _ zG ?_;clear hK K));refine cD ?_)
   have hszw:W.heap.size≤w1.heap.size:=AG hx
   go_wp2_with (at_builtin;refine aH rfl (.tmp 42) (.tmp 49) 31 rfl ae aE rfl (by exact (HV.out.ext hx).own) [(at0,a+s - at0)] 1 _ rfl (out.length+1) 1 sM rfl w1.heap.size rfl rfl oM (by simp [maxLen];omega) oM ?_;intro A1 cap1 w2 hown1 hgr1 hat1;obtain ⟨⟨d1,d2⟩,hc2,hk2,hf2, -⟩:=Coll.app ((HV.out.ext hx).ext ((AD w1).alloc _)) oM (nV:=V.heap.size) oM (by simp;omega) sM hown1 hgr1 hat1;have HC2:=zH hc2;have HK2:=zH hk2;have HF2:=zH hf2;clear hc2 hk2 hf2 hown1 hgr1 hat1)
   obtain ⟨d1,d2⟩:=HC2.out.cell
   have hD2:=HF2.out.same D _ hD ((Below.heap_alloc w1 _ D (by have:=aA HK.out;omega)).trans ((hx.block (aA HK.out)).trans HK.out)) rfl
   have hkk:Below V.heap.size W (w2.setCell ⟨Bo,0,none⟩ (.slice A1 (out.length+1) cap1)):=((Ac hx (nV:=V.heap.size) (n0:=w0.heap.size) (Bout:=Bo) oM oM).trans ((Ac ((Below.refl _ w1).alloc (Nat.le_refl _) _) oM oM).trans HK2.out)).below
   have HKK:=zH hkk
   have HD2:=zH hD2
   clear hkk hD2
   generalize w2.setCell ⟨Bo,0,none⟩ (.slice A1 (out.length+1) cap1)=W3 at*
   refine NoPanic.normal ?_
   gi_wp2
   refine ⟨by simp,.inl ⟨_,_,rfl,run_takeDeferred HD2.out,?_⟩⟩
   have hab:AbI w0.heap.size Bo W3 (W3.putObj D (.deferred none)):=AP hD HD2.out rfl
   refine ⟨_,results_tmp rfl _ _ _,_,HG.out,_,rfl,?_,Below.trans hEV (Below.trans HKK.out (Below.mono hab.below oM))⟩
   rw [HE.out]
   exact (HC2.out.abI oM hab).own.mono oM
  ·have HE:=zH (show gw a s (out,at0)=out by simp [gw,hr])
   obtain ⟨d1,d2⟩:=(HV.out.ext hx).cell
   have hD2:=(hx.block (aA HK.out)).trans HK.out
   have HD2:=zH hD2
   have hC1:=zH (HV.out.ext hx)
   clear hD2
   go_wp2_with fail
   gi_wp2
   refine ⟨by simp,.inl ⟨_,_,rfl,run_takeDeferred HD2.out,?_⟩⟩
   have hab:AbI w0.heap.size Bo w1 (w1.putObj D (.deferred none)):=AP hD HD2.out rfl
   refine ⟨_,results_tmp rfl _ _ _,_,HG.out,_,rfl,?_,Below.trans (hEV.trans hx) (Below.mono hab.below oM)⟩
   rw [HE.out]
   exact (hC1.out.abI oM hab).own.mono oM
theorem wC (a s:Int) (A:Option Addr) (cap:Nat) (xs:List (Int×Int)) (V:World) (hlen:xs.length≤1000000) (hl:SpansAt V A xs):
  Calls Tryz.prog 207 #[.agg #[.int .i64 (a),.int .i64 (s)],.slice A xs.length cap] V (fun e w'=>∃zs,eR a s xs zs∧RetS V V.heap.size zs e w'):=by
 cases hm:mayB a s
 ·exact yE a s A cap xs V hm
 ·exact wB a s A cap xs V hm hlen hl
end Go.Proofs.YtphpppjfogpohaaGreat
namespace Go.Proofs.YtphpppjfogpohaaGreat
open Go.RowKit
theorem mr (a s c d:Int) (b:Bool) (h:aw a s c d=b) (w:World):Calls Tryz.prog 205 #[.agg #[.int .i64 (a),.int .i64 (s)],.agg #[.int .i64 (c),.int .i64 (d)]] w fun e w'=>e= .returned (.bool b)∧Ext w w':=by
 rw [←h];exact rK a s c d w
end Go.Proofs.YtphpppjfogpohaaGreat
namespace Go.Proofs.YtphpppjfogpohaaGreat
open Go.RowKit Go.Shelf
theorem uC (A A2:Option Addr) (cap cap2:Nat) (xs ys:List (Int×Int)) (W:World) (hlen:xs.length≤9223372036854775807) (hlen2:ys.length≤9223372036854775807) (hl:SpansAt W A xs) (hl2:SpansAt W A2 ys):
  Calls Tryz.prog 206 #[.slice A xs.length cap,.slice A2 ys.length cap2] W fun e w'=>e= .returned (.bool (decide (xs=ys)))∧Ext W w':=by
 have HL:=zH hl
 have HL2:=zH hl2
 clear hl hl2
 by_cases hne:xs.length=ys.length
 rotate_left
 ·have h1:((xs.length:Int) !=(ys.length:Int))=true:=by rw [bne_iff_ne];omega
  have h2:decide (xs=ys)=false:=by simp;intro e;subst e;exact hne rfl
  have HR:=zH h2
  clear h2 hne
  go_enter Tryz.func206,Tryz.ntmps206
  go_wp2_with fail
  go_ret
  exact ⟨aD (by rw [HR.out]),AD _⟩
 have HN:=zH hne
 have h1:((xs.length:Int) !=(ys.length:Int))=false:=by rw [←HN.out];simp
 clear hne
 go_enter Tryz.func206,Tryz.ntmps206
 go_wp2_with fail
 go_loopw [5,13] (fun _ i wr=>∃k:Nat,k≤xs.length∧i= .int .i64 k∧Ext W wr∧Hid (∀i,i < k→xs.getD i (0,0)=ys.getD i (0,0))) (fun _ i _=>xs.length - (intOf i).toNat)
 case atStart=>exact ⟨0,by omega,rfl,AD _,zH oM⟩
 case round=>
  obtain ⟨k,hk,rfl,hxr,hq⟩:=hrel
  by_cases hlt:k < xs.length
  rotate_left
  ·have HR:=zH (sw HN.out (fun i hi=>hq.out i oM))
   clear hq
   go_wp2_with fail
   go_ret
   exact ⟨aD (by simp [HR.out]),hxr⟩
  have hlt2:k < ys.length:=by have:=HN.out;omega
  obtain ⟨lb,off,rfl,hc⟩:=HL.out.get oM
  obtain ⟨lb2,off2,rfl,hc2⟩:=HL2.out.get oM
  obtain ⟨e1,e2⟩:=aQ hc hlt
  obtain ⟨e3,e4⟩:=aQ hc2 hlt2
  have c1:=hxr.cell e1
  have c2:=hxr.cell e2
  have c3:=hxr.cell e3
  have c4:=hxr.cell e4
  have HS:=zH (fun (h:xs.getD k (0,0)=ys.getD k (0,0))=>(fun i (hi:i < k+1)=>by
   rcases Nat.lt_or_ge i k with h' | h'
   ·exact hq.out i h'
   ·obtain rfl:i=k:=by omega
    exact h:∀i,i < k+1→xs.getD i (0,0)=ys.getD i (0,0)))
  have HD:=zH (fun (h:xs.getD k (0,0)≠ys.getD k (0,0))=>(fun e:xs=ys=>h (by rw [e]):xs≠ys))
  clear e1 e2 e3 e4 hc hc2 HL HL2 hq HN
  generalize xs.getD k (0,0)=x at*
  generalize ys.getD k (0,0)=y at*
  obtain ⟨a,s⟩:=x
  obtain ⟨c,d⟩:=y
  simp only at c1 c2 c3 c4
  have ib1:(k:Int) < (xs.length:Int):=by omega
  have ib2:(k:Int) < (ys.length:Int):=by omega
  have ib3:(0:Int)≤(k:Int):=by omega
  by_cases he:a=c∧s=d
  ·obtain ⟨rfl,rfl⟩:=he
   go_wp2_with fail
   go_quiet (fail)
   go_wp2_with fail
   go_roundw
   case rel=>exact ⟨k+1,by omega,by go_num,hxr.drewN _,zH (HS.out (by first | rfl | trivial))⟩
   case measure=>simp [intOf];omega
  ·have HE:=zH (HD.out (by intro e;injection e with e1 e2;exact he ⟨e1,e2⟩))
   have hb:(a==c)=false∨(a=c∧(s==d)=false):=by
    by_cases h1:a=c
    ·exact .inr ⟨h1,by rw [beq_eq_false_iff_ne];exact fun h=>he ⟨h1,h⟩⟩
    ·exact .inl (by rw [beq_eq_false_iff_ne];exact h1)
   clear he HD HS
   rcases hb with hb | ⟨rfl,hb⟩
   all_goals
    go_wp2_with fail
    go_quiet (fail)
    go_wp2_with fail
    go_ret
    exact ⟨aD (decide_eq_false HE.out).symm,hxr.drewN _⟩
theorem lD {a s:Int} {xs:List (Int×Int)} (h:∀i,i < xs.length→aw (xs.getD i (0,0)).1 (xs.getD i (0,0)).2 a s=true):xs.all (fun x=>aw x.1 x.2 a s)=true:=by
 rw [List.all_eq_true]
 intro x hx
 obtain ⟨i,hi,rfl⟩:=List.getElem_of_mem hx
 simpa [List.getElem?_eq_getElem hi]using h i hi
theorem lE {a s c d:Int} (h:aw a s c d=true):mayB a s=true:=by
 cases hm:mayB a s
 ·rw [ie hm]at h;cases h
 ·rfl
theorem eD (a s c d:Int) (b:Bool) (h:aw a s c d=b) (w:World):Calls Tryz.prog 178 #[.agg #[.int .i64 (a),.int .i64 (s)],.agg #[.int .i64 (c),.int .i64 (d)]] w fun e w'=>e= .returned (.bool b)∧Ext w w':=by
 rw [←h];exact mR a s c d w
end Go.Proofs.YtphpppjfogpohaaGreat
