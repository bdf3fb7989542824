/- Merged by program (merge.py) out of: CkB, CkC. -/
import Derived.Test.YtphpppjfogpohaaGreatMy0
import Derived.Test.YtphpppjfogpohaaGreatMy30
import Derived.Test.YtphpppjfogpohaaGreatMy21
import Derived.Test.YtphpppjfogpohaaGreatMy41
import Derived.Test.YtphpppjfogpohaaGreatMy1
import Derived.Test.YtphpppjfogpohaaGreatMy4
import Derived.Test.YtphpppjfogpohaaGreatMy29
import Derived.Test.YtphpppjfogpohaaGreatMy20
set_option linter.unusedSimpArgs false
set_option linter.unusedVariables false
set_option maxRecDepth 100000
set_option maxHeartbeats 16000000
namespace Go.Proofs.YtphpppjfogpohaaGreat
open Go.RowKit Go.Shelf
theorem mF {s l t m x y:Int} {b:Bool} (h1:bG s l t m b=x) (h2:bI s l t m=y) (w:World):Calls Tryz.prog 48 #[.agg #[.int .i64 (s),.int .i64 (l),.int .i64 (t),.int .i64 (m)],.bool b] w fun e w'=>e= .returned (.agg #[.int .i64 (x),.int .i64 (y)])∧Ext w w':=by
 rw [←h1,←h2];exact pK s l t m b w
theorem eo {s l t m p:Int} {b:Bool} (h:dq s l t m p=b) (w:World):Calls Tryz.prog 51 #[.agg #[.int .i64 (s),.int .i64 (l),.int .i64 (t),.int .i64 (m)],.int .i64 p] w fun e w'=>e= .returned (.bool b)∧Ext w w':=by
 rw [←h];exact nu s l t m p w
theorem pC {s l t m x y:Int} (h1:bE s l t m=x) (h2:az s l t m=y) (w:World):Calls Tryz.prog 49 #[.agg #[.int .i64 (s),.int .i64 (l),.int .i64 (t),.int .i64 (m)]] w fun e w'=>e= .returned (.agg #[.int .i64 (x),.int .i64 (y)])∧Ext w w':=by
 rw [←h1,←h2];exact nt s l t m w
theorem mG (a s:Int) (A A2:Option Addr) (cap cap2:Nat) (xs fs:List (Int×Int)) (b:Bool) (hb:ledR a s xs fs=b) (w:World) (hA:A=none→cap=0) (hlen:xs.length≤100000) (hlen2:fs.length≤400000) (hl:SpansAt w A xs) (hl2:SpansAt w A2 fs):
  Calls Tryz.prog 152 #[.agg #[.int .i64 (a),.int .i64 (s)],.slice A xs.length cap,.slice A2 fs.length cap2] w fun e w'=>e= .returned (.bool b)∧Ext w w':=by
 rw [←hb];exact jq a s A A2 cap cap2 xs fs w hA hlen hlen2 hl hl2
section
variable {c0 c1 c2 c3 : Int} {sn : Bool} {wA : Option Addr} {ws : List Int} {wc : Nat} {top : Int} {tA : Option Addr} {tb : List (Int × Int)} {tc : Nat} {fA : Option Addr} {fr : List (Int × Int)} {fc : Nat} {sA : Option Addr} {sl : List (Bool × Int × Int)} {sc : Nat}
theorem mH (V:World) (HW:Pers V (fun w=>WordsAt w wA ws)) (HT:Pers V (fun w=>SpansAt w tA tb)) (HF:Pers V (fun w=>SpansAt w fA fr)) (HS:Pers V (fun w=>SlotsAt w sA sl)) (hwl:ws.length≤98304) (htl:tb.length≤98304) (hfl:fr.length≤98304) (hsl:sl.length≤98304)
  (hwb:∀z∈ws,0≤z∧z < 18446744073709551616) (htb:∀x∈tb,(-9223372036854775808≤x.1∧x.1≤9223372036854775807)) (hsb:∀x∈sl,0≤x.2.2∧x.2.2 < 18446744073709551616) (hn:tA=none→tc=0):
  Calls Tryz.prog 118 #[.agg #[.int .i64 c0,.int .i64 c1,.int .i64 c2,.int .i64 c3,.bool sn,.slice wA ws.length wc,.int .i64 top,.slice tA tb.length tc,.slice fA fr.length fc,.slice sA sl.length sc]] V fun e w'=>e= .returned (.bool (ledR (bE c0 c1 c2 c3) (az c0 c1 c2 c3) tb fr && tb.all (cB (some ws) c0 c1 c2 c3)))∧Ext V w':=by
 have hB:=aF V #[.int .i64 c0,.int .i64 c1,.int .i64 c2,.int .i64 c3,.bool sn,.slice wA ws.length wc,.int .i64 top,.slice tA tb.length tc,.slice fA fr.length fc,.slice sA sl.length sc] 34 _ rfl
 have hx0:=(zo V).alloc (.cells #[.int .i64 c0,.int .i64 c1,.int .i64 c2,.int .i64 c3,.bool sn,.slice wA ws.length wc,.int .i64 top,.slice tA tb.length tc,.slice fA fr.length fc,.slice sA sl.length sc] 34)
 replace HW:=HW.re hx0
 replace HT:=HT.re hx0
 replace HF:=HF.re hx0
 have HX:=zH hx0
 have HWB:=zH hwb
 have HTB:=zH htb
 obtain ⟨la,hla⟩:∃x,bE c0 c1 c2 c3=x:=⟨_,rfl⟩
 obtain ⟨ls,hls⟩:∃x,az c0 c1 c2 c3=x:=⟨_,rfl⟩
 rw [hla,hls]
 obtain ⟨b,hb⟩:∃x,ledR la ls tb fr=x:=⟨_,rfl⟩
 rw [hb]
 have HLA:=zH hla
 have HLS:=zH hls
 have HBB:=zH hb
 clear hx0 hwb htb hsb HS hla hls hb
 go_enter Tryz.func118,Tryz.ntmps118
 go_wp2_with fail
 generalize V.alloc (.cells #[.int .i64 c0,.int .i64 c1,.int .i64 c2,.int .i64 c3,.bool sn,.slice wA ws.length wc,.int .i64 top,.slice tA tb.length tc,.slice fA fr.length fc,.slice sA sl.length sc] 34)=W at*
 generalize V.heap.size=S at*
 have gB:=hB.cells
 have hx1:=zo W
 (refine aC (W:=W) kR kR aS ?_;(repeat (go_big_quiet_step (first | (go_at_call 49;with_reducible exact zq (pC HLA.out HLS.out _)) | (go_at_call 152;with_reducible exact zq (mG la ls tA fA tc fc tb fr b HBB.out _ hn oM oM (HT.at zE) (HF.at zE))))));refine wpQuiet_nil ?_;intro w1 hx)
 clear gB hx1
 cases b
 ·(obtain ⟨uq,rfl⟩:∃u:ExtOf W,w1=u.1:=⟨⟨w1,hx⟩,rfl⟩;clear hx;go_wp2_with fail)
  go_ret
  exact ⟨rfl,HX.out.trans (zu _)⟩
 (obtain ⟨uq,rfl⟩:∃u:ExtOf W,w1=u.1:=⟨⟨w1,hx⟩,rfl⟩;clear hx;go_wp2_with fail)
 go_loopw [3,4,5] (fun i _ _ wr=>∃k:Nat,k≤tb.length∧i= .int .i64 k∧Hid (∀i,i < k→cB (some ws) c0 c1 c2 c3 (tb.getD i (0,0))=true)∧Ext W wr) (fun i _ _ _=>tb.length - (intOf i).toNat)
 case atStart=>exact ⟨0,by omega,rfl,zH oM,uq.2⟩
 case round=>
  obtain ⟨k,hk,rfl,hq,hxr⟩:=hrel
  have HXR:=zH hxr
  replace hB:=hB.re hxr
  replace HW:=HW.re hxr
  replace HT:=HT.re hxr
  replace HX:=zH (HX.out.trans hxr)
  clear hxr
  have gB:=hB.cells
  by_cases hlt:k < tb.length
  rotate_left
  ·obtain rfl:k=tb.length:=by omega
   have HAL:Hid (tb.all (cB (some ws) c0 c1 c2 c3)=true):=zH (d8 fun i hi=>hq.out i hi)
   clear hq
   ((first | refine aK (W:=wr) ?_ | refine aT (W:=wr) ?_);intro uq;(try go_wp2_with fail))
   go_ret
   exact ⟨aD (by rw [HAL.out];first | done | rfl),HX.out.trans (zu _)⟩
  obtain ⟨lb,off,rfl,hc⟩:=HT.here.get oM
  obtain ⟨j1,j2⟩:=aQ hc hlt
  have hxb:=HTB.out _ (aH (d:=(0,0)) hlt)
  have ib0:(0:Int)≤(k:Int):=by omega
  have ib1:(k:Int) < (tb.length:Int):=by omega
  have HY:=zH (fun (h:cB (some ws) c0 c1 c2 c3 (tb.getD k (0,0))=true)=>upTo hq.out h)
  have HNO:=zH (fun (h:cB (some ws) c0 c1 c2 c3 (tb.getD k (0,0))=false)=>cg (p:=cB (some ws) c0 c1 c2 c3) hlt h)
  replace j1:=aG j1
  replace j2:=aG j2
  clear hc hq
  generalize tb.getD k (0,0)=x at*
  obtain ⟨xa,xs⟩:=x
  simp only at j1 j2 hxb
  obtain ⟨er,her⟩:∃e,aV (some ws) xa=e:=⟨_,rfl⟩
  obtain ⟨hd,hh⟩:∃h,aJ (some ws) xa=h:=⟨_,rfl⟩
  obtain ⟨z,hz⟩:∃n,ap hd=n:=⟨_,rfl⟩
  obtain ⟨b,hb⟩:∃b,dT hd=b:=⟨_,rfl⟩
  obtain ⟨d,hd2⟩:∃b,dq c0 c1 c2 c3 xs=b:=⟨_,rfl⟩
  have HLG:Hid (cB (some ws) c0 c1 c2 c3 (xa,xs)=(decide (er=0) && (z==xs) && b && !d)):=zH (by simp only [cB,her,hh,hz,hb,hd2])
  have HE:=zH her
  have HH:=zH hh
  have HZ:=zH hz
  have HB:=zH hb
  have HD:=zH hd2
  have HZI:=zH hxb
  clear her hh hz hb hd2
  ((first | refine aK (W:=wr) ?_ | refine aT (W:=wr) ?_);intro uq;(try go_wp2_with fail))
  have hx1:=uq.2
  (refine dV (W:=wr) [(0,true),(1,true),(2,true),(3,true),(4,true),(5,true),(6,true),(7,true)] 5 [(8,[.qu 9 true,.qu 10 true,.qu 11 true,.one 12,.one 13]),(12,[.one 8,.qu 9 true,.qu 10 true,.qu 11 true,.one 13])] [14] kR kR (by intro c a d v w h;cases d <;>first | exact h | (cases h;done) | cases h.1.1 | cases h.1) aS ?_;simp only [aI,List.map_cons,List.map_nil,List.getD_cons_zero,List.getD_cons_succ];(repeat (go_big_quiet_step (fail)));refine wpQuiet_nil ?_;refine iF ?_ ?_ <;>(intro w1 hx;unfold RowP;simp only [aI,List.map_cons,List.map_nil,List.getD_cons_zero,List.getD_cons_succ]))
  ((refine aw gD rM ?_;intro K hK;go_simp))
  refine (dG wA wc ws xa er hd HE.out HH.out _ (HW.at hx) hwl HWB.out HZI.out).mono ?_
  rintro e w2 ⟨rfl,hx2⟩
  refine hK (Ext wr) _ _ (fun _ h=>h) (hx.trans hx2) ?_
  clear hK K hx hx2
  (refine bP gD ?_;(repeat (go_big_quiet_step (fail)));refine wpQuiet_nil ?_;intro w1 hx)
  (refine bP gD ?_;(repeat (go_big_quiet_step (fail)));refine wpQuiet_nil ?_;intro w1 hx)
  (refine bP gD ?_;(repeat (go_big_quiet_step (fail)));refine wpQuiet_nil ?_;intro w1 hx)
  ((refine aw gD rM ?_;intro K hK;go_simp))
  refine hK (Ext wr) _ _ (fun _ h=>h) (hx.alloc _) ?_
  clear hK K
  ((refine aw gD rM ?_;intro K hK;go_simp))
  refine hK (Ext wr) _ _ (fun _ h=>h) (hx.alloc _) ?_
  clear hK K
  (refine eW ?_)
  go_wp2_with fail
  have HBH:=aF w1 #[.int .i64 hd.k,.int .i64 hd.f,.int .i64 hd.r,.bool hd.m,.int .i64 hd.c] 85 _ rfl
  have HX5:=zH (hx.alloc (.cells #[.int .i64 hd.k,.int .i64 hd.f,.int .i64 hd.r,.bool hd.m,.int .i64 hd.c] 85))
  clear hx
  generalize w1.alloc (.cells #[.int .i64 hd.k,.int .i64 hd.f,.int .i64 hd.r,.bool hd.m,.int .i64 hd.c] 85)=W5 at*
  generalize w1.heap.size=Y at*
  rotate_left
  ((refine aw gD rM ?_;intro K hK;go_simp))
  refine hK (fun w=>Ext wr w∧∃cs,cs.size=5∧w.heap[w1.heap.size]?=some (.cells cs 85 (0,0))) _ _ (fun _ h=>h.1) ⟨hx.alloc _,_,rfl,World.alloc_heap_new _ _⟩ ?_
  clear hK K
  have hb:=aN w1 #[.int .i64 0,.int .i64 0,.int .i64 0,.bool false,.int .i64 0] 85 _ rfl
  have hx1':=hx.alloc (.cells #[.int .i64 0,.int .i64 0,.int .i64 0,.bool false,.int .i64 0] 85)
  have hXs:wr.heap.size≤w1.heap.size:=hx.size
  generalize w1.alloc (.cells #[.int .i64 0,.int .i64 0,.int .i64 0,.bool false,.int .i64 0] 85)=w3 at*
  generalize w1.heap.size=Y at*
  ((refine aw gD rM ?_;intro K hK;go_simp))
  refine (dG wA wc ws xa er hd HE.out HH.out _ (HW.at hx1') hwl HWB.out HZI.out).mono ?_
  rintro e w2 ⟨rfl,hx2⟩
  refine hK (fun w=>Ext wr w∧∃cs,cs.size=5∧w.heap[Y]?=some (.cells cs 85 (0,0))) _ _ (fun _ h=>h) ⟨hx1'.trans hx2,_,rfl,(hx2.block (aA hb)).trans hb⟩ ?_
  have hne:Nonempty (KeptT fun w=>Ext wr w∧∃cs,cs.size=5∧w.heap[Y]?=some (.cells cs 85 (0,0))):=⟨⟨_,hx1'.trans hx2,_,rfl,(hx2.block (aA hb)).trans hb⟩⟩
  clear hK K hx hx2
  (refine bP gD ?_;(repeat (go_big_quiet_step (fail)));refine wpQuiet_nil ?_;intro w1 hx)
  (refine bP gD ?_;(repeat (go_big_quiet_step (fail)));refine wpQuiet_nil ?_;intro w1 hx)
  (refine bP gD ?_;(repeat (go_big_quiet_step (fail)));refine wpQuiet_nil ?_;intro w1 hx)
  obtain ⟨hx,cs,hcs,hbY⟩:=hx
  obtain ⟨v0,v1,v2,v3,v4,rfl⟩:=arr5 hcs
  obtain ⟨g3,g4⟩:=aB hbY
  have hb5:=aL (i:=4) (aL (i:=3) (aL (i:=2) (aL (i:=1) (aL (i:=0) hbY (.int .i64 hd.k)) (.int .i64 hd.f)) (.int .i64 hd.r)) (.bool hd.m)) (.int .i64 hd.c)
  have hx5:=((((hx.setCell (p:=⟨Y,0,none⟩) hXs (.int .i64 hd.k)).setCell (p:=⟨Y,1,none⟩) hXs (.int .i64 hd.f)).setCell (p:=⟨Y,2,none⟩) hXs (.int .i64 hd.r)).setCell (p:=⟨Y,3,none⟩) hXs (.bool hd.m)).setCell (p:=⟨Y,4,none⟩) hXs (.int .i64 hd.c)
  simp only [List.setIfInBounds_toArray,List.set_cons_succ,List.set_cons_zero]at hb5
  ((refine aw gD rM ?_;intro K hK;go_simp))
  refine hK _ _ _ (fun _ h=>h) ⟨hx5,_,rfl,hb5⟩ ?_
  have HBH:=aO hb5
  have HX5:=zH hx5
  clear hK K hx hbY g3 g4 hcs hb5 hx5 hne hb hx1'
  (refine eW ?_)
  go_wp2_with fail
  generalize ((((w1.setCell ⟨Y,0,none⟩ (.int .i64 hd.k)).setCell ⟨Y,1,none⟩ (.int .i64 hd.f)).setCell ⟨Y,2,none⟩ (.int .i64 hd.r)).setCell ⟨Y,3,none⟩ (.bool hd.m)).setCell ⟨Y,4,none⟩ (.int .i64 hd.c)=W5 at*
  all_goals
   (replace hB:=hB.re HX5.out;replace HW:=HW.re HX5.out;replace HT:=HT.re HX5.out;replace HX:=zH (HX.out.trans HX5.out))
   replace HXR:=zH (HXR.out.trans HX5.out)
   replace j2:∀u:ExtOf W5,u.1.cell? ⟨lb,off+k*2+1,none⟩=some (.int .i64 xs):=fun u=>j2 ⟨u.1,HX5.out.trans u.2⟩
   clear gB hx1 j1
   have gB:=hB.cells
   have g2:=HBH.cells
   have hx5:=zo W5
   by_cases h0:er=0
   rotate_left
   ·have q0:(er !=0)=true:=by rw [bne_iff_ne];exact h0
    have HR:=zH (HNO.out (by rw [HLG.out,decide_eq_false h0];rfl))
    clear h0
    (refine aC (W:=W5) kR kR aS ?_;(repeat (go_big_quiet_step (fail)));refine wpQuiet_nil ?_;intro w1 hx)
    (obtain ⟨uq,rfl⟩:∃u:ExtOf W5,w1=u.1:=⟨⟨w1,hx⟩,rfl⟩;clear hx;go_wp2_with fail)
    go_ret
    exact ⟨aD (by rw [HR.out];first | done | rfl),HX.out.trans (zu _)⟩
   subst h0
   by_cases h1:z=xs
   rotate_left
   ·have q1:(z !=xs)=true:=by rw [bne_iff_ne];exact h1
    have q2:(z==xs)=false:=by rw [beq_eq_false_iff_ne];exact h1
    have HR:=zH (HNO.out (by rw [HLG.out,q2];rfl))
    clear h1 q2
    (refine aC (W:=W5) kR kR aS ?_;(repeat (go_big_quiet_step (first | (go_at_call 115;with_reducible exact zq (cN hd z HZ.out _)))));refine wpQuiet_nil ?_;intro w1 hx)
    (obtain ⟨uq,rfl⟩:∃u:ExtOf W5,w1=u.1:=⟨⟨w1,hx⟩,rfl⟩;clear hx;go_wp2_with fail)
    go_ret
    exact ⟨aD (by rw [HR.out];first | done | rfl),HX.out.trans (zu _)⟩
   subst h1
   have q1:(z !=z)=false:=by simp
   cases b
   ·have HR:=zH (HNO.out (by rw [HLG.out];simp))
    (refine aC (W:=W5) kR kR aS ?_;(repeat (go_big_quiet_step (first | (go_at_call 115;with_reducible exact zq (cN hd z HZ.out _)) | (go_at_call 117;with_reducible exact zq (dj hd false HB.out _)))));refine wpQuiet_nil ?_;intro w1 hx)
    (obtain ⟨uq,rfl⟩:∃u:ExtOf W5,w1=u.1:=⟨⟨w1,hx⟩,rfl⟩;clear hx;go_wp2_with fail)
    go_ret
    exact ⟨aD (by rw [HR.out];first | done | rfl),HX.out.trans (zu _)⟩
   cases d
   rotate_left
   ·have HR:=zH (HNO.out (by rw [HLG.out];simp))
    (refine aC (W:=W5) kR kR aS ?_;(repeat (go_big_quiet_step (first | (go_at_call 115;with_reducible exact zq (cN hd z HZ.out _)) | (go_at_call 117;with_reducible exact zq (dj hd true HB.out _)) | (go_at_call 51;with_reducible exact zq (eo HD.out _)))));refine wpQuiet_nil ?_;intro w1 hx)
    (obtain ⟨uq,rfl⟩:∃u:ExtOf W5,w1=u.1:=⟨⟨w1,hx⟩,rfl⟩;clear hx;go_wp2_with fail)
    go_ret
    exact ⟨aD (by rw [HR.out];first | done | rfl),HX.out.trans (zu _)⟩
   have HYY:=zH (HY.out (by rw [HLG.out];simp))
   (refine aC (W:=W5) kR kR aS ?_;(repeat (go_big_quiet_step (first | (go_at_call 115;with_reducible exact zq (cN hd z HZ.out _)) | (go_at_call 117;with_reducible exact zq (dj hd true HB.out _)) | (go_at_call 51;with_reducible exact zq (eo HD.out _)))));refine wpQuiet_nil ?_;intro w1 hx)
   (obtain ⟨uq,rfl⟩:∃u:ExtOf W5,w1=u.1:=⟨⟨w1,hx⟩,rfl⟩;clear hx;go_wp2_with fail)
   go_roundw
   case rel=>exact ⟨k+1,by omega,by go_num,HYY,HXR.out.trans uq.2⟩
   case measure=>simp [intOf];omega
def zL (V:World) (zs:List Int) (e:Ending) (w':World):Prop:=∃A cap,e= .returned (.slice A zs.length cap)∧Own 3 1 intC w' V.heap.size (.slice A zs.length cap) zs∧Ext V w'
theorem jA (V:World) (HW:Pers V (fun w=>WordsAt w wA ws)) (HT:Pers V (fun w=>SpansAt w tA tb)) (HF:Pers V (fun w=>SpansAt w fA fr)) (HS:Pers V (fun w=>SlotsAt w sA sl)) (hwl:ws.length≤98304) (htl:tb.length≤98304) (hfl:fr.length≤98304) (hsl:sl.length≤98304)
  (hwb:∀z∈ws,0≤z∧z < 18446744073709551616) (htb:∀x∈tb,(-9223372036854775808≤x.1∧x.1≤9223372036854775807)) (hsb:∀x∈sl,0≤x.2.2∧x.2.2 < 18446744073709551616) (hn:tA=none→tc=0):
  Calls Tryz.prog 113 #[.agg #[.int .i64 c0,.int .i64 c1,.int .i64 c2,.int .i64 c3,.bool sn,.slice wA ws.length wc,.int .i64 top,.slice tA tb.length tc,.slice fA fr.length fc,.slice sA sl.length sc]] V (zL V (smallsL c0 c1 c2 c3 sn ws top++tb.map (·.1))):=by
 have hB:=aF V #[.int .i64 c0,.int .i64 c1,.int .i64 c2,.int .i64 c3,.bool sn,.slice wA ws.length wc,.int .i64 top,.slice tA tb.length tc,.slice fA fr.length fc,.slice sA sl.length sc] 34 _ rfl
 have hx0:=(zo V).alloc (.cells #[.int .i64 c0,.int .i64 c1,.int .i64 c2,.int .i64 c3,.bool sn,.slice wA ws.length wc,.int .i64 top,.slice tA tb.length tc,.slice fA fr.length fc,.slice sA sl.length sc] 34)
 replace HW:=HW.re hx0
 replace HT:=HT.re hx0
 have HX:=zH hx0
 have HVW:Hid (V.heap.size≤(V.alloc (.cells #[.int .i64 c0,.int .i64 c1,.int .i64 c2,.int .i64 c3,.bool sn,.slice wA ws.length wc,.int .i64 top,.slice tA tb.length tc,.slice fA fr.length fc,.slice sA sl.length sc] 34)).heap.size):=zH hx0.size
 have hzl:(smallsL c0 c1 c2 c3 sn ws top).length≤2199023255553:=gv (some ws) (bG c0 c1 c2 c3 sn) (bI c0 c1 c2 c3) top
 obtain ⟨a,ha⟩:∃x,bG c0 c1 c2 c3 sn=x:=⟨_,rfl⟩
 obtain ⟨n,hh⟩:∃x,bI c0 c1 c2 c3=x:=⟨_,rfl⟩
 have hsm:smallsL c0 c1 c2 c3 sn ws top=bh (some ws) a n top:=by rw [smallsL,ha,hh]
 rw [hsm]at hzl⊢
 obtain ⟨zs,hz⟩:∃x,bh (some ws) a n top=x:=⟨_,rfl⟩
 obtain ⟨x,hx1⟩:∃x,cj (some ws) a n top=x:=⟨_,rfl⟩
 obtain ⟨er,hx2⟩:∃x,bH (some ws) a n top=x:=⟨_,rfl⟩
 rw [hz]at hzl⊢
 have Z:=fun w h=>oe wA wc ws a n top w h hwl hwb
 rw [hz,hx1,hx2]at Z
 have HZZ:=zH Z
 have HA:=zH ha
 have HN:=zH hh
 obtain ⟨n0,hn0⟩:∃m,zs.length=m:=⟨_,rfl⟩
 have HN0:=zH hn0
 clear hx0 hwb htb hsb HS HF ha hh hz hx1 hx2 Z hsm
 go_enter Tryz.func113,Tryz.ntmps113
 go_wp2_with fail
 generalize V.alloc (.cells #[.int .i64 c0,.int .i64 c1,.int .i64 c2,.int .i64 c3,.bool sn,.slice wA ws.length wc,.int .i64 top,.slice tA tb.length tc,.slice fA fr.length fc,.slice sA sl.length sc] 34)=W at*
 generalize hSS:V.heap.size=S at*
 have hB0:=hB
 have HT0:=HT
 have hn1:n0≤2199023255553:=by rw [←HN0.out];exact hzl
 have gB:=hB.cells
 have hxw:=zo W
 (refine bU (W:=W) [([(0,true),(1,true),(2,true),(3,true),(4,true),(5,true),(7,true),(8,true),(6,false)],9)] [(10,true),(11,true),(12,true),(13,true),(14,true),(15,true),(16,true)] [] kR kR (by intro c a d v w h;cases d <;>first | exact h | (cases h;done) | cases h.1.1 | cases h.1) aS ?_;simp only [aI,List.map_cons,List.map_nil,List.getD_cons_zero,List.getD_cons_succ])
 ((first | refine bq ?_ | refine bu ?_);(repeat (go_big_quiet_step (first | (go_at_call 48;with_reducible exact zq (mF HA.out HN.out _)))));refine wpQuiet_nil ?_;intro w1 hx)
 ((refine fe ?_ ?_;(focus rfl);intro K hK;go_simp);refine (HZZ.out _ (HW.at hx)).mono ?_;rintro e w2 ⟨A1,cap1,rfl,ho,hx2⟩;refine hK w2 _ _ (hx.trans hx2) (zo _) ?_;have hz2:=hx.size;replace hx2:=hx.trans hx2;replace hB:=hB.re hx2;replace HT:=HT.re hx2;clear hK K hx)
 have HO0:=zH (ho.mono (B':=W.heap.size) (by assumption))
 have HX2:=zH hx2
 clear ho gB hxw hx2
 rw [HN0.out]
 ((first | refine bq ?_ | refine bu ?_);(repeat (go_big_quiet_step (fail)));refine wpQuiet_nil ?_;intro w1 hx)
 have hw2:=HX2.out.size
 have HXV2:=zH (HX.out.trans HX2.out)
 obtain ⟨uq,rfl⟩:∃u:ExtOf w2,w1=u.1:=⟨⟨w1,hx⟩,rfl⟩
 clear hx
 go_wp2_with fail
 go_loopw [3,6] (fun l i wr=>∃(A:Option Addr) (cap k m:Nat),k≤tb.length∧Hid (m=n0+k)∧l= .slice A m cap∧i= .int .i64 k∧Hid (Own 3 1 intC wr W.heap.size (.slice A m cap) (zs++(tb.take k).map (·.1)))∧Ext W wr) (fun _ i _=>tb.length - (intOf i).toNat)
 case atStart=>exact ⟨A1,cap1,0,n0,by omega,zH rfl,rfl,rfl,zH (by have h:=HO0.out.ext (zu uq);rw [HN0.out]at h;simpa using h),HX2.out.trans uq.2⟩
 case round=>
  obtain ⟨A,cap,k,m,hk,HM,rfl,rfl,HO,hxr⟩:=hrel
  have HXR:=zH hxr
  replace hB:=hB0.re hxr
  replace HT:=HT0.re hxr
  have hBW:=hxr.size
  have hm:m≤2199023400000:=by have:=HM.out;omega
  clear hxr
  have gB:=hB.cells
  by_cases hlt:k < tb.length
  rotate_left
  ·obtain rfl:k=tb.length:=by omega
   have HO1:=cG HO.out
   ((first | refine aK (W:=wr) ?_ | refine aT (W:=wr) ?_);intro uq;(try go_wp2_with fail))
   go_ret
   refine ⟨A,cap,?_,?_,HX.out.trans (HXR.out.trans uq.2)⟩
   ·rw [List.length_append,HN0.out,List.length_map,←HM.out]
    rfl
   ·have h:=(HO1.at uq.2).mono HVW.out
    rw [List.take_length]at h
    rw [List.length_append,HN0.out,List.length_map,←HM.out]
    rw [hSS]
    exact h
  obtain ⟨lb,off,rfl,hc⟩:=HT.here.get oM
  obtain ⟨j1, -⟩:=aQ hc hlt
  have ib0:(0:Int)≤(k:Int):=by omega
  have ib1:(k:Int) < (tb.length:Int):=by omega
  have HTK:Hid (zs++(tb.take (k+1)).map (·.1)=(zs++(tb.take k).map (·.1))++ [(tb.getD k (0,0)).1]):=zH (by
   rw [List.take_succ_eq_append_getElem hlt,List.map_append,List.append_assoc]
   simp [hlt])
  have HTL:Hid ((zs++(tb.take k).map (·.1)).length=m):=zH (by
   rw [List.length_append,HN0.out,List.length_map,List.length_take,Nat.min_eq_left oM,HM.out])
  replace j1:=aG j1
  clear hc
  obtain ⟨z,hz⟩:∃z,(tb.getD k (0,0)).1=z:=⟨_,rfl⟩
  rw [hz]at j1 HTK
  obtain ⟨ys,hys⟩:∃y,zs++(tb.take k).map (·.1)=y:=⟨_,rfl⟩
  rw [hys]at HTK HTL HO
  have HO1:=cG HO.out
  clear hz hys HO
  refine aT (W:=wr) ?_
  intro uq
  have hx3:=uq.2
  go_wp2_with (at_builtin;refine aM rfl (.tmp 28) (.tmp 35) 38 rfl cd aP rfl (by exact HO1.at zE) [z] 1 _ rfl (m+1) 1 (by rw [HTL.out];rfl) rfl _ rfl (by first | rfl | simp) oM (by simp [maxLen];try omega) (by exact Nat.le_trans hBW (zv (zt (a:=_) (zo _) zE))) ?_;intro A4 cap4 w4 hown4 hgr4 hat4;have HO4:=zH hown4;have HX4:Hid (Ext W w4):=zH (zw (HO1.here) (zt HXR.out zE) hgr4 (by exact Nat.le_trans hBW (zv zE)));clear hown4 hgr4 hat4)
  go_roundw
  case rel=>exact ⟨A4,cap4,k+1,m+1,by omega,zH (by have:=HM.out;omega),rfl,by go_num,by rw [HTK.out];exact HO4,HX4.out⟩
  case measure=>simp [intOf];omega
end
theorem jB {s l t m:Int} {b:Bool} (h:cfgB s l t m=b) (w:World):Calls Tryz.prog 46 #[.agg #[.int .i64 (s),.int .i64 (l),.int .i64 (t),.int .i64 (m)]] w fun e w'=>e= .returned (.bool b)∧Ext w w':=by
 rw [←h];exact b9 s l t m w
theorem jC {s l t m n:Int} (h:cc s l t m=n) (w:World):Calls Tryz.prog 95 #[.agg #[.int .i64 (s),.int .i64 (l),.int .i64 (t),.int .i64 (m)]] w fun e w'=>e= .returned (.int .i64 n)∧Ext w w':=by
 rw [←h];exact nr s l t m w
theorem sQ (zs:List Int) (tb:List (Int×Int)):bf zs tb=fun x=>decide (x∈zs++tb.map (·.1)):=by
 funext x
 simp only [bf,List.mem_append]
 rw [Bool.eq_iff_iff]
 simp
theorem fW (A:Option Addr) (cap:Nat) (zs:List Int) (v:Int) (b:Bool) (hb:bj (fun x=>decide (x∈zs)) v=b) (V:World) (hl:IntsAt V A zs) (hlen:zs.length≤9223372036854775807) (hv:0≤v∧v < 18446744073709551616):
  Calls Tryz.prog 120 #[.slice A zs.length cap,.int .u64 v] V fun e w'=>e= .returned (.bool b)∧Ext V w':=by
 rw [←hb];exact oq A cap zs v V hl hlen hv
theorem iU (A:Option Addr) (cap:Nat) (sl:List (Bool×Int×Int)) (n:Int) (b:Bool) (hb:bL sl n=b) (V:World) (hl:SlotsAt V A sl) (hlen:sl.length≤9223372036854775807) (hbd:∀x∈sl,0≤x.2.2∧x.2.2 < 18446744073709551616):
  Calls Tryz.prog 119 #[.slice A sl.length cap,.int .i64 n] V fun e w'=>e= .returned (.bool b)∧Ext V w':=by
 rw [←hb];exact lQ A cap sl n V hl hlen hbd
theorem zM {ws:List Int} {x:Int} {m:Nat} (h0:aV (some ws) x=0) (hm:(m:Int) < (aJ (some ws) x).f):∃idx:Nat,x+1+m=idx∧idx < ws.length∧fldZ (some ws) x m false=ws.getD idx 0:=by
 have hp:placeE (some ws) x m false=0:=by
  rw [placeE,if_pos h0,if_pos ⟨by omega,by simpa [eR]using hm⟩]
 obtain ⟨-, -, -,h1,h2,h3⟩:=lM hp
 have hz:oplZ (some ws) x m false=x+1+m:=by rw [oplZ,if_pos hp];simp [gw]
 rw [hz]at h1 h2 h3
 have hr:0≤x+1+m∧x+1+m < ws.length:=by
  simp only [atA]at h1
  split at h1
  ·cases h1
  ·omega
 refine ⟨(x+1+m).toNat,by omega,by omega,?_⟩
 rw [fldZ,if_pos hp,hz,rdA,if_pos h1]
 rfl
section
variable {c0 c1 c2 c3 : Int} {sn : Bool} {wA : Option Addr} {ws : List Int} {wc : Nat} {top : Int} {tA : Option Addr} {tb : List (Int × Int)} {tc : Nat} {fA : Option Addr} {fr : List (Int × Int)} {fc : Nat} {sA : Option Addr} {sl : List (Bool × Int × Int)} {sc : Nat}
theorem tT (hs:bH (some ws) (bG c0 c1 c2 c3 sn) (bI c0 c1 c2 c3) top=0) (hl:tb.all (cB (some ws) c0 c1 c2 c3)=true) {z:Int} (hz:z∈smallsL c0 c1 c2 c3 sn ws top++tb.map (·.1)):aV (some ws) z=0:=by
 rcases List.mem_append.1 hz with hz | hz
 ·obtain ⟨hc, -⟩:=ic hs
  obtain ⟨k,hk,rfl⟩:=List.getElem_of_mem hz
  have:=(qO hc k hk).1
  have e:(smallsL c0 c1 c2 c3 sn ws top).getD k 0=(smallsL c0 c1 c2 c3 sn ws top)[k]:=by simp [hk]
  rw [←e]
  exact this
 ·obtain ⟨x,hx,rfl⟩:=List.mem_map.1 hz
  have:=List.all_eq_true.1 hl x hx
  simp only [cB,Bool.and_eq_true,decide_eq_true_eq]at this
  exact this.1.1.1
theorem mI (V:World) (HW:Pers V (fun w=>WordsAt w wA ws)) (HT:Pers V (fun w=>SpansAt w tA tb)) (HF:Pers V (fun w=>SpansAt w fA fr)) (HS:Pers V (fun w=>SlotsAt w sA sl)) (hwl:ws.length≤98304) (htl:tb.length≤98304) (hfl:fr.length≤98304) (hsl:sl.length≤98304)
  (hwb:∀z∈ws,0≤z∧z < 18446744073709551616) (htb:∀x∈tb,(-9223372036854775808≤x.1∧x.1≤9223372036854775807)) (hsb:∀x∈sl,0≤x.2.2∧x.2.2 < 18446744073709551616) (hn:tA=none→tc=0):
  Calls Tryz.prog 70 #[.agg #[.int .i64 c0,.int .i64 c1,.int .i64 c2,.int .i64 c3,.bool sn,.slice wA ws.length wc,.int .i64 top,.slice tA tb.length tc,.slice fA fr.length fc,.slice sA sl.length sc]] V fun e w'=>e= .returned (.int .i64 (checkZ c0 c1 c2 c3 sn ws top tb fr sl))∧Ext V w':=by
 have hB:=aF V #[.int .i64 c0,.int .i64 c1,.int .i64 c2,.int .i64 c3,.bool sn,.slice wA ws.length wc,.int .i64 top,.slice tA tb.length tc,.slice fA fr.length fc,.slice sA sl.length sc] 34 _ rfl
 have hx0:=(zo V).alloc (.cells #[.int .i64 c0,.int .i64 c1,.int .i64 c2,.int .i64 c3,.bool sn,.slice wA ws.length wc,.int .i64 top,.slice tA tb.length tc,.slice fA fr.length fc,.slice sA sl.length sc] 34)
 have HX:=zH hx0
 have HWB:=zH hwb
 have HTB:=zH htb
 have HSB:=zH hsb
 have hLA:=fun w h=>mH (c0:=c0) (c1:=c1) (c2:=c2) (c3:=c3) (sn:=sn) (wc:=wc) (top:=top) (tc:=tc) (fc:=fc) (sc:=sc) w (HW.re h) (HT.re h) (HF.re h) (HS.re h) hwl htl hfl hsl hwb htb hsb hn
 have hAL:=fun w h=>jA (c0:=c0) (c1:=c1) (c2:=c2) (c3:=c3) (sn:=sn) (wc:=wc) (top:=top) (tc:=tc) (fc:=fc) (sc:=sc) w (HW.re h) (HT.re h) (HF.re h) (HS.re h) hwl htl hfl hsl hwb htb hsb hn
 replace HW:=HW.re hx0
 replace HT:=HT.re hx0
 replace HS:=HS.re hx0
 have hzl:(smallsL c0 c1 c2 c3 sn ws top).length≤2199023255553:=gv (some ws) (bG c0 c1 c2 c3 sn) (bI c0 c1 c2 c3) top
 obtain ⟨a,ha⟩:∃x,bG c0 c1 c2 c3 sn=x:=⟨_,rfl⟩
 obtain ⟨n,hh⟩:∃x,bI c0 c1 c2 c3=x:=⟨_,rfl⟩
 obtain ⟨zs,hz⟩:∃x,smallsL c0 c1 c2 c3 sn ws top=x:=⟨_,rfl⟩
 obtain ⟨x,hx1⟩:∃x,cj (some ws) a n top=x:=⟨_,rfl⟩
 obtain ⟨er,hx2⟩:∃x,bH (some ws) a n top=x:=⟨_,rfl⟩
 obtain ⟨nw,hnw⟩:∃x,cc c0 c1 c2 c3=x:=⟨_,rfl⟩
 have hlist:bh (some ws) a n top=zs:=by rw [←hz,smallsL,ha,hh]
 have Z:=fun w h=>qM wA wc ws a n top w h hwl hwb
 rw [hlist,hx1,hx2]at Z
 have HZZ:=zH Z
 obtain ⟨r1,hr1⟩:∃b,cfgB c0 c1 c2 c3=b:=⟨_,rfl⟩
 obtain ⟨r3,hr3⟩:∃b,topB c0 c1 c2 c3 sn top=b:=⟨_,rfl⟩
 obtain ⟨r5,hr5⟩:∃b,zs.all (ce (some ws) c0 c1 c2 c3)=b:=⟨_,rfl⟩
 obtain ⟨r6,hr6⟩:∃b,(ledR (bE c0 c1 c2 c3) (az c0 c1 c2 c3) tb fr && tb.all (cB (some ws) c0 c1 c2 c3))=b:=⟨_,rfl⟩
 obtain ⟨r7,hr7⟩:∃b,bL sl c2=b:=⟨_,rfl⟩
 obtain ⟨r8,hr8⟩:∃b,(zs++tb.map (·.1)).all (be (some ws) (fun x=>decide (x∈zs++tb.map (·.1))))=b:=⟨_,rfl⟩
 obtain ⟨r9,hr9⟩:∃b,sl.all (bb (fun x=>decide (x∈zs++tb.map (·.1))))=b:=⟨_,rfl⟩
 have HCK:Hid (checkZ c0 c1 c2 c3 sn ws top tb fr sl=eD [r1,decide ((ws.length:Int)=nw),r3,decide (er=0),r5,r6,r7,r8,r9]):=zH (by
  rw [checkZ,qT,hz,sQ,ha,hh,hx2,hnw,hr1,hr3,hr5,hr6,hr7,hr8,hr9])
 have HR3:Hid (r3=decide (a≤top∧top≤a+n)):=zH (by rw [←hr3,topB,ha,hh])
 have HHD:=zH (show er=0→r6=true→∀z∈zs++tb.map (·.1),aV (some ws) z=0∧ -9223372036854775808≤z∧z≤9223372036854775806 from fun h4 h6 z hzz=>by
  rw [←hr6,Bool.and_eq_true]at h6
  rw [←hz]at hzz
  refine ⟨tT (by rw [ha,hh,hx2];exact h4) h6.2 hzz,?_⟩
  have h0:=tT (by rw [ha,hh,hx2];exact h4) h6.2 hzz
  have:0≤z∧z < ws.length:=by
   unfold aV at h0
   split at h0
   ·rename_i h1
    simp only [atA]at h1
    split at h1
    ·cases h1
    ·omega
   ·rename_i h1;exact absurd h0 h1
  omega)
 have HZ1:=zH (show ∀z∈zs, -9223372036854775808≤z∧z≤9223372036854775807 from fun z hzz=>by
  rw [←hlist]at hzz
  have:=o9 hzz
  omega)
 obtain ⟨b1,b2,b3,b4⟩:=sx c0 c1 c2 c3 sn
 rw [ha]at b1 b2
 rw [hh]at b3 b4
 rw [hz]at hzl
 simp only [hr6]at hLA
 simp only [hz]at hAL
 obtain ⟨al,hal⟩:∃x,zs++tb.map (·.1)=x:=⟨_,rfl⟩
 have hall:al.length≤2199023400000:=by rw [←hal,List.length_append,List.length_map];omega
 rw [hal]at hr8 hr9
 simp only [hal]at hAL
 replace HHD:Hid (er=0→r6=true→∀z∈al,aV (some ws) z=0∧ -9223372036854775808≤z∧z≤9223372036854775806):=zH (by rw [←hal];exact HHD.out)
 have HLAR:=zH hLA
 have HALL:=zH hAL
 have HA:=zH ha
 have HN:=zH hh
 have HNW:=zH hnw
 have HC1:=zH hr1
 have H5:=zH hr5
 have H7:=zH hr7
 have H8:=zH hr8
 have H9:=zH hr9
 have hwr:wrap64 (a+n)=a+n:=IntWalk.wrap64_in _ ⟨by omega,by omega⟩
 have HWR:=zH hwr
 clear hx0 HF hwb htb hsb ha hh hz hx1 hx2 hnw hlist Z hr1 hr3 hr5 hr6 hr7 hr8 hr9 hLA hAL hwr hal
 go_enter Tryz.func70,Tryz.ntmps70
 go_wp2_with fail
 generalize V.alloc (.cells #[.int .i64 c0,.int .i64 c1,.int .i64 c2,.int .i64 c3,.bool sn,.slice wA ws.length wc,.int .i64 top,.slice tA tb.length tc,.slice fA fr.length fc,.slice sA sl.length sc] 34)=W at*
 generalize V.heap.size=S at*
 have gB:=hB.cells
 cases r1
 ·have HR:Hid (checkZ c0 c1 c2 c3 sn ws top tb fr sl=1):=zH (by rw [HCK.out];rfl)
  ((first | refine aK (W:=W) ?_ | refine aT (W:=W) ?_);intro uq;(try go_wp2_with fail))
  (refine (jB HC1.out _).mono ?_;rintro e wq ⟨rfl,hx⟩;replace hx:=zt (a:=W) zE hx;obtain ⟨uq,rfl⟩:∃u:ExtOf W,wq=u.1:=⟨⟨wq,hx⟩,rfl⟩;clear hx;go_wp2_with fail)
  go_ret
  exact ⟨ak HR.out.symm,HX.out.trans (zu _)⟩
 ((first | refine aK (W:=W) ?_ | refine aT (W:=W) ?_);intro uq;(try go_wp2_with fail))
 (refine (jB HC1.out _).mono ?_;rintro e wq ⟨rfl,hx⟩;replace hx:=zt (a:=W) zE hx;obtain ⟨uq,rfl⟩:∃u:ExtOf W,wq=u.1:=⟨⟨wq,hx⟩,rfl⟩;clear hx;go_wp2_with fail)
 have hx1:=uq.2
 by_cases h2:(ws.length:Int)=nw
 rotate_left
 ·have q2:((ws.length:Int) !=nw)=true:=by rw [bne_iff_ne];exact h2
  have HR:Hid (checkZ c0 c1 c2 c3 sn ws top tb fr sl=2):=zH (by rw [HCK.out,decide_eq_false h2];rfl)
  clear h2
  (refine aC (W:=W) kR kR aS ?_;(repeat (go_big_quiet_step (first | (go_at_call 95;with_reducible exact zq (jC HNW.out _)))));refine wpQuiet_nil ?_;intro w1 hx)
  (obtain ⟨uq,rfl⟩:∃u:ExtOf W,w1=u.1:=⟨⟨w1,hx⟩,rfl⟩;clear hx;go_wp2_with fail)
  go_ret
  exact ⟨ak HR.out.symm,HX.out.trans (zu _)⟩
 have q2:((ws.length:Int) !=nw)=false:=by rw [bne_eq_false_iff_eq];exact h2
 replace HCK:Hid (checkZ c0 c1 c2 c3 sn ws top tb fr sl=eD [true,true,r3,decide (er=0),r5,r6,r7,r8,r9]):=zH (by rw [HCK.out,decide_eq_true h2])
 clear h2
 (refine aC (W:=W) kR kR aS ?_;(repeat (go_big_quiet_step (first | (go_at_call 95;with_reducible exact zq (jC HNW.out _)))));refine wpQuiet_nil ?_;intro w1 hx)
 clear q2 hx1
 (obtain ⟨uq,rfl⟩:∃u:ExtOf W,w1=u.1:=⟨⟨w1,hx⟩,rfl⟩;clear hx;go_wp2_with fail)
 (refine (mF HA.out HN.out _).mono ?_;rintro e w1 ⟨rfl,hx⟩;replace hx:=zt (a:=W) zE hx;replace hB:=hB.re hx;replace HW:=HW.re hx;replace HT:=HT.re hx;replace HS:=HS.re hx;replace HX:=zH (HX.out.trans hx))
 have k1:=(aB hB.here).1
 have q:=aA hB.here
 have hwr:=HWR.out
 by_cases t1:top < a
 ·have d1:decide (top < a)=true:=by simpa using t1
  obtain rfl:r3=false:=by rw [HR3.out];simp;omega
  have HR:Hid (checkZ c0 c1 c2 c3 sn ws top tb fr sl=3):=zH (by rw [HCK.out];rfl)
  clear t1
  go_wp2_with fail
  go_ret
  exact ⟨ak HR.out.symm,HX.out.alloc _⟩
 have d1:decide (top < a)=false:=by simpa using t1
 by_cases t2:a+n < top
 ·have d2:decide (a+n < top)=true:=by simpa using t2
  obtain rfl:r3=false:=by rw [HR3.out];simp;omega
  have HR:Hid (checkZ c0 c1 c2 c3 sn ws top tb fr sl=3):=zH (by rw [HCK.out];rfl)
  clear t1 t2
  go_wp2_with fail
  go_ret
  exact ⟨ak HR.out.symm,HX.out.alloc _⟩
 have d2:decide (a+n < top)=false:=by simpa using t2
 obtain rfl:r3=true:=by rw [HR3.out];simp;omega
 clear t1 t2
 go_wp2_with fail
 have hy:=(zo w1).alloc (.cells #[.int .i64 a,.int .i64 n] 63)
 (replace hB:=hB.re hy;replace HW:=HW.re hy;replace HT:=HT.re hy;replace HS:=HS.re hy;replace HX:=zH (HX.out.trans hy))
 clear hy k1 q hwr d1 d2 gB
 generalize w1.alloc (.cells #[.int .i64 a,.int .i64 n] 63)=W2 at*
 refine (HZZ.out _ HW.here).mono ?_
 rintro e w3 ⟨A1,cap1,rfl,hl,hx⟩
 (replace hB:=hB.re hx;replace HW:=HW.re hx;replace HT:=HT.re hx;replace HS:=HS.re hx;replace HX:=zH (HX.out.trans hx))
 have HL1:=an hl
 clear hl hx
 by_cases h4:er=0
 rotate_left
 ·have q4:(er !=0)=true:=by rw [bne_iff_ne];exact h4
  have HR:Hid (checkZ c0 c1 c2 c3 sn ws top tb fr sl=4):=zH (by rw [HCK.out,decide_eq_false h4];rfl)
  clear h4
  go_wp2_with fail
  go_ret
  exact ⟨ak HR.out.symm,HX.out⟩
 subst h4
 replace HCK:Hid (checkZ c0 c1 c2 c3 sn ws top tb fr sl=eD [true,true,true,true,r5,r6,r7,r8,r9]):=zH (by rw [HCK.out];rfl)
 ((first | refine aK (W:=w3) ?_ | refine aT (W:=w3) ?_);intro uq;(try go_wp2_with fail))
 go_loopw [7,8,9] (fun i _ _ wr=>∃k:Nat,k≤zs.length∧i= .int .i64 k∧Hid (∀i,i < k→ce (some ws) c0 c1 c2 c3 (zs.getD i 0)=true)∧Ext w3 wr) (fun i _ _ _=>zs.length - (intOf i).toNat)
 case atStart=>exact ⟨0,by omega,rfl,zH oM,uq.2⟩
 case round=>
  obtain ⟨k,hk,rfl,hq,hxr⟩:=hrel
  have HXR:=zH hxr
  (replace hB:=hB.re hxr;replace HW:=HW.re hxr;replace HT:=HT.re hxr;replace HS:=HS.re hxr;replace HX:=zH (HX.out.trans hxr);replace HL1:=HL1.re hxr)
  clear hxr
  have gB:=hB.cells
  by_cases hlt:k < zs.length
  rotate_left
  ·obtain rfl:k=zs.length:=by omega
   obtain rfl:r5=true:=by rw [←H5.out];exact d8 fun i hi=>hq.out i hi
   clear hq hlt hk
   cases r6
   ·have HR:Hid (checkZ c0 c1 c2 c3 sn ws top tb fr sl=6):=zH (by rw [HCK.out];rfl)
    ((first | refine aK (W:=wr) ?_ | refine aT (W:=wr) ?_);intro uq;(try go_wp2_with fail))
    (refine (HLAR.out _ (HX.out.trans zE)).mono ?_;rintro e wq ⟨rfl,hx⟩;replace hx:=zt (a:=wr) zE hx;obtain ⟨uq,rfl⟩:∃u:ExtOf wr,wq=u.1:=⟨⟨wq,hx⟩,rfl⟩;clear hx;go_wp2_with fail)
    go_ret
    exact ⟨ak HR.out.symm,HX.out.trans (zu _)⟩
   cases r7
   ·have HR:Hid (checkZ c0 c1 c2 c3 sn ws top tb fr sl=7):=zH (by rw [HCK.out];rfl)
    ((first | refine aK (W:=wr) ?_ | refine aT (W:=wr) ?_);intro uq;(try go_wp2_with fail))
    (refine (HLAR.out _ (HX.out.trans zE)).mono ?_;rintro e wq ⟨rfl,hx⟩;replace hx:=zt (a:=wr) zE hx;obtain ⟨uq,rfl⟩:∃u:ExtOf wr,wq=u.1:=⟨⟨wq,hx⟩,rfl⟩;clear hx;go_wp2_with fail)
    (refine (iU sA sc sl c2 false H7.out _ (HS.at zE) oM HSB.out).mono ?_;rintro e wq ⟨rfl,hx⟩;replace hx:=zt (a:=wr) zE hx;obtain ⟨uq,rfl⟩:∃u:ExtOf wr,wq=u.1:=⟨⟨wq,hx⟩,rfl⟩;clear hx;go_wp2_with fail)
    go_ret
    exact ⟨ak HR.out.symm,HX.out.trans (zu _)⟩
   ((first | refine aK (W:=wr) ?_ | refine aT (W:=wr) ?_);intro uq;(try go_wp2_with fail))
   (refine (HLAR.out _ (HX.out.trans zE)).mono ?_;rintro e wq ⟨rfl,hx⟩;replace hx:=zt (a:=wr) zE hx;obtain ⟨uq,rfl⟩:∃u:ExtOf wr,wq=u.1:=⟨⟨wq,hx⟩,rfl⟩;clear hx;go_wp2_with fail)
   (refine (iU sA sc sl c2 true H7.out _ (HS.at zE) oM HSB.out).mono ?_;rintro e wq ⟨rfl,hx⟩;replace hx:=zt (a:=wr) zE hx;obtain ⟨uq,rfl⟩:∃u:ExtOf wr,wq=u.1:=⟨⟨wq,hx⟩,rfl⟩;clear hx;go_wp2_with fail)
   (refine (HALL.out _ (HX.out.trans zE)).mono ?_;rintro e w5 ⟨A2,cap2,rfl,ho,hx⟩;replace hx:=zt (a:=wr) zE hx;replace hB:=hB.re hx;replace HW:=HW.re hx;replace HS:=HS.re hx;replace HX:=zH (HX.out.trans hx))
   have HL2:=an (ag ho aP dM).1
   have HHZ:=zH (HHD.out (by first | trivial | rfl) (by first | trivial | rfl))
   clear ho hx gB HL1 HT HLAR HALL HZZ HHD
   ((first | refine aK (W:=w5) ?_ | refine aT (W:=w5) ?_);intro uq;(try go_wp2_with fail))
   go_loopw [11,12,13,14] (fun i _ _ _ wr=>∃k:Nat,k≤al.length∧i= .int .i64 k∧Hid (∀i,i < k→be (some ws) (fun x=>decide (x∈al)) (al.getD i 0)=true)∧Ext w5 wr) (fun i _ _ _ _=>al.length - (intOf i).toNat)
   case atStart=>exact ⟨0,by omega,rfl,zH oM,uq.2⟩
   case round=>
    obtain ⟨k,hk,rfl,hq,hxr⟩:=hrel
    have HXR:=zH hxr
    (replace hB:=hB.re hxr;replace HW:=HW.re hxr;replace HS:=HS.re hxr;replace HX:=zH (HX.out.trans hxr);replace HL2:=HL2.re hxr)
    clear hxr
    have gB:=hB.cells
    by_cases hlt:k < al.length
    rotate_left
    ·obtain rfl:k=al.length:=by omega
     obtain rfl:r8=true:=by rw [←H8.out];exact d8 fun i hi=>hq.out i hi
     clear hq hlt hk
     ((first | refine aK (W:=wr) ?_ | refine aT (W:=wr) ?_);intro uq;(try go_wp2_with fail))
     go_loopw [15] (fun i wrs=>∃k:Nat,k≤sl.length∧i= .int .i64 k∧Hid (∀i,i < k→bb (fun x=>decide (x∈al)) (sl.getD i (false,0,0))=true)∧Ext wr wrs) (fun i _=>sl.length - (intOf i).toNat)
     case atStart=>exact ⟨0,by omega,rfl,zH oM,uq.2⟩
     case round=>
      obtain ⟨k,hk,rfl,hq,hxr⟩:=hrel
      have HXR2:=zH hxr
      (replace hB:=hB.re hxr;replace HW:=HW.re hxr;replace HS:=HS.re hxr;replace HX:=zH (HX.out.trans hxr);replace HL2:=HL2.re hxr)
      clear hxr gB
      have gB:=hB.cells
      by_cases hlt:k < sl.length
      rotate_left
      ·obtain rfl:k=sl.length:=by omega
       obtain rfl:r9=true:=by rw [←H9.out];exact d8 fun i hi=>hq.out i hi
       have HR:Hid (checkZ c0 c1 c2 c3 sn ws top tb fr sl=0):=zH (by rw [HCK.out];rfl)
       clear hq hlt hk
       ((first | refine aK (W:=wr) ?_ | refine aT (W:=wr) ?_);intro uq;(try go_wp2_with fail))
       go_ret
       exact ⟨ak HR.out.symm,HX.out.trans (zu _)⟩
      obtain ⟨lb,off,rfl,hc⟩:=HS.here.get oM
      obtain ⟨j1,j2,j3⟩:=de hc hlt
      have hzb:=HSB.out _ (aH (d:=(false,0,0)) hlt)
      have ib0:(0:Int)≤(k:Int):=by omega
      have ib1:(k:Int) < (sl.length:Int):=by omega
      have HY:=zH (fun (h:bb (fun x=>decide (x∈al)) (sl.getD k (false,0,0))=true)=>upTo hq.out h)
      have HNO:=zH (fun (h:bb (fun x=>decide (x∈al)) (sl.getD k (false,0,0))=false)=>cg (p:=bb (fun x=>decide (x∈al))) hlt h)
      replace j1:=aG j1
      replace j3:=aG j3
      clear hc hq j2
      generalize sl.getD k (false,0,0)=y at*
      obtain ⟨u,g,v⟩:=y
      simp only at j1 j3 hzb
      cases u
      ·have HYY:=zH (HY.out (by simp [bb]))
       ((first | refine aK (W:=wr) ?_ | refine aT (W:=wr) ?_);intro uq;(try go_wp2_with fail))
       go_roundw
       case rel=>exact ⟨k+1,by omega,by go_num,HYY,HXR2.out.trans uq.2⟩
       case measure=>simp [intOf];omega
      obtain ⟨b,hb⟩:∃b,bj (fun x=>decide (x∈al)) v=b:=⟨_,rfl⟩
      have HLB:=zH hb
      cases b
      ·obtain rfl:r9=false:=by rw [←H9.out];exact HNO.out (by simp [bb,hb])
       have HR:Hid (checkZ c0 c1 c2 c3 sn ws top tb fr sl=9):=zH (by rw [HCK.out];rfl)
       clear hb
       ((first | refine aK (W:=wr) ?_ | refine aT (W:=wr) ?_);intro uq;(try go_wp2_with fail))
       (refine (fW A2 cap2 al v false HLB.out _ (HL2.at zE) oM hzb).mono ?_;rintro e wq ⟨rfl,hx⟩;replace hx:=zt (a:=wr) zE hx;obtain ⟨uq,rfl⟩:∃u:ExtOf wr,wq=u.1:=⟨⟨wq,hx⟩,rfl⟩;clear hx;go_wp2_with fail)
       go_ret
       exact ⟨ak HR.out.symm,HX.out.trans (zu _)⟩
      ·have HYY:=zH (HY.out (by simp [bb,hb]))
       clear hb
       ((first | refine aK (W:=wr) ?_ | refine aT (W:=wr) ?_);intro uq;(try go_wp2_with fail))
       (refine (fW A2 cap2 al v true HLB.out _ (HL2.at zE) oM hzb).mono ?_;rintro e wq ⟨rfl,hx⟩;replace hx:=zt (a:=wr) zE hx;obtain ⟨uq,rfl⟩:∃u:ExtOf wr,wq=u.1:=⟨⟨wq,hx⟩,rfl⟩;clear hx;go_wp2_with fail)
       go_roundw
       case rel=>exact ⟨k+1,by omega,by go_num,HYY,HXR2.out.trans uq.2⟩
       case measure=>simp [intOf];omega
    obtain ⟨lb,off,rfl,hc⟩:=HL2.here.get oM
    have j1:=aG (b5 hc hlt)
    have hmem:=aH (d:=0) hlt
    obtain ⟨y1,y2,y3⟩:=HHZ.out _ hmem
    have ib0:(0:Int)≤(k:Int):=by omega
    have ib1:(k:Int) < (al.length:Int):=by omega
    have HY:=zH (fun (h:be (some ws) (fun x=>decide (x∈al)) (al.getD k 0)=true)=>upTo hq.out h)
    have HNO:=zH (fun (h:be (some ws) (fun x=>decide (x∈al)) (al.getD k 0)=false)=>cg (p:=be (some ws) (fun x=>decide (x∈al))) hlt h)
    clear hc hq hmem
    obtain ⟨z,hzd⟩:∃z,al.getD k 0=z:=⟨_,rfl⟩
    rw [hzd]at j1 y1 y2 y3 HY HNO
    have hlt2:=hlt
    obtain ⟨er,her⟩:∃e,aV (some ws) z=e:=⟨_,rfl⟩
    obtain ⟨hd,hh⟩:∃h,aJ (some ws) z=h:=⟨_,rfl⟩
    obtain ⟨f1,f2,f3,f4,f5⟩:=ft y1
    rw [hh]at f2 f3
    have HE0:=zH y1
    have HE:=zH her
    have HH:=zH hh
    have HZI:=zH (show -9223372036854775808≤z∧z≤9223372036854775807 by omega)
    have HFB:=zH (And.intro f2 f3)
    have HZB:=zH (And.intro y2 y3)
    clear her hh f1 f2 f3 f4 f5 y1 y2 y3
    ((first | refine aK (W:=wr) ?_ | refine aT (W:=wr) ?_);intro uq;(try go_wp2_with fail))
    have hx1:=uq.2
    (refine dV (W:=wr) [(0,true),(1,true),(2,true),(3,true),(4,true),(5,true)] 5 [(6,[.qu 7 true,.qu 8 true,.qu 9 true,.one 10,.one 11]),(10,[.one 6,.qu 7 true,.qu 8 true,.qu 9 true,.one 11])] [12] kR kR (by intro c a d v w h;cases d <;>first | exact h | (cases h;done) | cases h.1.1 | cases h.1) aS ?_;simp only [aI,List.map_cons,List.map_nil,List.getD_cons_zero,List.getD_cons_succ];(repeat (go_big_quiet_step (fail)));refine wpQuiet_nil ?_;refine iF ?_ ?_ <;>(intro w1 hx;unfold RowP;simp only [aI,List.map_cons,List.map_nil,List.getD_cons_zero,List.getD_cons_succ]))
    ((refine aw gD rM ?_;intro K hK;go_simp))
    refine (dG wA wc ws z er hd HE.out HH.out _ (HW.at hx) hwl HWB.out HZI.out).mono ?_
    rintro e w2 ⟨rfl,hx2⟩
    refine hK (Ext wr) _ _ (fun _ h=>h) (hx.trans hx2) ?_
    clear hK K hx hx2
    (refine bP gD ?_;(repeat (go_big_quiet_step (fail)));refine wpQuiet_nil ?_;intro w1 hx)
    (refine bP gD ?_;(repeat (go_big_quiet_step (fail)));refine wpQuiet_nil ?_;intro w1 hx)
    (refine bP gD ?_;(repeat (go_big_quiet_step (fail)));refine wpQuiet_nil ?_;intro w1 hx)
    ((refine aw gD rM ?_;intro K hK;go_simp))
    refine hK (Ext wr) _ _ (fun _ h=>h) (hx.alloc _) ?_
    clear hK K
    ((refine aw gD rM ?_;intro K hK;go_simp))
    refine hK (Ext wr) _ _ (fun _ h=>h) (hx.alloc _) ?_
    clear hK K
    (refine eW ?_)
    go_wp2_with fail
    have HBH:=aF w1 #[.int .i64 hd.k,.int .i64 hd.f,.int .i64 hd.r,.bool hd.m,.int .i64 hd.c] 85 _ rfl
    have HX5:=zH (hx.alloc (.cells #[.int .i64 hd.k,.int .i64 hd.f,.int .i64 hd.r,.bool hd.m,.int .i64 hd.c] 85))
    clear hx
    generalize w1.alloc (.cells #[.int .i64 hd.k,.int .i64 hd.f,.int .i64 hd.r,.bool hd.m,.int .i64 hd.c] 85)=W5 at*
    generalize w1.heap.size=Y at*
    rotate_left
    ((refine aw gD rM ?_;intro K hK;go_simp))
    refine hK (fun w=>Ext wr w∧∃cs,cs.size=5∧w.heap[w1.heap.size]?=some (.cells cs 85 (0,0))) _ _ (fun _ h=>h.1) ⟨hx.alloc _,_,rfl,World.alloc_heap_new _ _⟩ ?_
    clear hK K
    have hb:=aN w1 #[.int .i64 0,.int .i64 0,.int .i64 0,.bool false,.int .i64 0] 85 _ rfl
    have hx1':=hx.alloc (.cells #[.int .i64 0,.int .i64 0,.int .i64 0,.bool false,.int .i64 0] 85)
    have hXs:wr.heap.size≤w1.heap.size:=hx.size
    generalize w1.alloc (.cells #[.int .i64 0,.int .i64 0,.int .i64 0,.bool false,.int .i64 0] 85)=w3 at*
    generalize w1.heap.size=Y at*
    ((refine aw gD rM ?_;intro K hK;go_simp))
    refine (dG wA wc ws z er hd HE.out HH.out _ (HW.at hx1') hwl HWB.out HZI.out).mono ?_
    rintro e w2 ⟨rfl,hx2⟩
    refine hK (fun w=>Ext wr w∧∃cs,cs.size=5∧w.heap[Y]?=some (.cells cs 85 (0,0))) _ _ (fun _ h=>h) ⟨hx1'.trans hx2,_,rfl,(hx2.block (aA hb)).trans hb⟩ ?_
    have hne:Nonempty (KeptT fun w=>Ext wr w∧∃cs,cs.size=5∧w.heap[Y]?=some (.cells cs 85 (0,0))):=⟨⟨_,hx1'.trans hx2,_,rfl,(hx2.block (aA hb)).trans hb⟩⟩
    clear hK K hx hx2
    (refine bP gD ?_;(repeat (go_big_quiet_step (fail)));refine wpQuiet_nil ?_;intro w1 hx)
    (refine bP gD ?_;(repeat (go_big_quiet_step (fail)));refine wpQuiet_nil ?_;intro w1 hx)
    (refine bP gD ?_;(repeat (go_big_quiet_step (fail)));refine wpQuiet_nil ?_;intro w1 hx)
    obtain ⟨hx,cs,hcs,hbY⟩:=hx
    obtain ⟨v0,v1,v2,v3,v4,rfl⟩:=arr5 hcs
    obtain ⟨g3,g4⟩:=aB hbY
    have hb5:=aL (i:=4) (aL (i:=3) (aL (i:=2) (aL (i:=1) (aL (i:=0) hbY (.int .i64 hd.k)) (.int .i64 hd.f)) (.int .i64 hd.r)) (.bool hd.m)) (.int .i64 hd.c)
    have hx5:=((((hx.setCell (p:=⟨Y,0,none⟩) hXs (.int .i64 hd.k)).setCell (p:=⟨Y,1,none⟩) hXs (.int .i64 hd.f)).setCell (p:=⟨Y,2,none⟩) hXs (.int .i64 hd.r)).setCell (p:=⟨Y,3,none⟩) hXs (.bool hd.m)).setCell (p:=⟨Y,4,none⟩) hXs (.int .i64 hd.c)
    simp only [List.setIfInBounds_toArray,List.set_cons_succ,List.set_cons_zero]at hb5
    ((refine aw gD rM ?_;intro K hK;go_simp))
    refine hK _ _ _ (fun _ h=>h) ⟨hx5,_,rfl,hb5⟩ ?_
    have HBH:=aO hb5
    have HX5:=zH hx5
    clear hK K hx hbY g3 g4 hcs hb5 hx5 hne hb hx1'
    (refine eW ?_)
    go_wp2_with fail
    generalize ((((w1.setCell ⟨Y,0,none⟩ (.int .i64 hd.k)).setCell ⟨Y,1,none⟩ (.int .i64 hd.f)).setCell ⟨Y,2,none⟩ (.int .i64 hd.r)).setCell ⟨Y,3,none⟩ (.bool hd.m)).setCell ⟨Y,4,none⟩ (.int .i64 hd.c)=W5 at*
    all_goals
     (replace hB:=hB.re HX5.out;replace HW:=HW.re HX5.out;replace HS:=HS.re HX5.out;replace HX:=zH (HX.out.trans HX5.out);replace HL2:=HL2.re HX5.out)
     replace HXR:=zH (HXR.out.trans HX5.out)
     clear gB hx1 j1
     go_loopw [14] (fun j wr2=>∃m:Nat,(m:Int)≤hd.f∧j= .int .i64 m∧Hid (∀i,i < m→bj (fun x=>decide (x∈al)) (fldZ (some ws) z i false)=true)∧Ext W5 wr2) (fun j _=>hd.f.toNat - (intOf j).toNat)
     case atStart=>exact ⟨0,HFB.out.1,rfl,zH oM,zo _⟩
     case round=>
      obtain ⟨m,hm,rfl,hq,hxr⟩:=hrel
      have HXR2:=zH hxr
      (replace hB:=hB.re hxr;replace HW:=HW.re hxr;replace HS:=HS.re hxr;replace HX:=zH (HX.out.trans hxr);replace HL2:=HL2.re hxr;replace HBH:=HBH.re hxr)
      clear hxr
      have gB:=hB.cells
      have g2:=HBH.cells
      have hfb:=HFB.out
      by_cases hlm:(m:Int) < hd.f
      rotate_left
      ·have dm:decide ((m:Int) < hd.f)=false:=by simpa using hlm
       have hmf:hd.f.toNat=m:=by omega
       have HYY:=zH (HY.out (by
        rw [be,HH.out,hmf,List.all_eq_true]
        intro i hi
        exact hq.out i (List.mem_range.1 hi)))
       clear hq hlm hmf
       ((first | refine aK (W:=wr) ?_ | refine aT (W:=wr) ?_);intro uq;(try go_wp2_with fail))
       go_roundw
       case rel=>exact ⟨k+1,by omega,by go_num,HYY,HXR.out.trans (HXR2.out.trans uq.2)⟩
       case measure=>simp [intOf];omega
      have dm:decide ((m:Int) < hd.f)=true:=by simpa using hlm
      obtain ⟨idx,i1,i2,i3⟩:=zM (m:=m) HE0.out (by rw [HH.out];exact hlm)
      have hzz:=HZB.out
      have e1:wrap64 (z+1)=z+1:=IntWalk.wrap64_in _ ⟨by omega,by omega⟩
      have e2:wrap64 (z+1+(m:Int))=(idx:Int):=by rw [IntWalk.wrap64_in _ ⟨by omega,by omega⟩];exact i1
      obtain ⟨wb,woff,rfl,hcw⟩:=HW.here.get oM
      have j2:=aG (cF hcw i2)
      have hvb:=HWB.out _ (aH (d:=0) i2)
      obtain ⟨lb2,off2,e9,hcl⟩:=HL2.here.get oM
      injection e9 with e9
      injection e9 with e9 e10 _
      subst e9 e10
      have j1:=aG (b5 hcl hlt2)
      have HFL:=zH i3
      rw [hzd]at j1
      have hidb0:(0:Int)≤(idx:Int):=by omega
      have hidb1:(idx:Int) < (ws.length:Int):=by omega
      clear hcw hcl i1 i2 i3 hzz
      generalize ws.getD idx 0=v at*
      obtain ⟨b,hb⟩:∃b,bj (fun x=>decide (x∈al)) v=b:=⟨_,rfl⟩
      have HLB:=zH hb
      have hf1:m < hd.f.toNat:=by omega
      cases b
      ·obtain rfl : r8 = false := by
        rw [←H8.out]
        refine HNO.out ?_
        rw [be,HH.out,List.all_eq_false]
        exact ⟨m,List.mem_range.2 hf1,by rw [HFL.out,hb];simp⟩
       have HR:Hid (checkZ c0 c1 c2 c3 sn ws top tb fr sl=8):=zH (by rw [HCK.out];rfl)
       clear hb hf1 hq hlm hm hfb
       ((first | refine aK (W:=wr) ?_ | refine aT (W:=wr) ?_);intro uq;(try go_wp2_with fail))
       have hx7:=uq.2
       (refine aC (W:=wr) kR kR aS ?_;(repeat (go_big_quiet_step (first | (go_at_call 120;with_reducible exact zq (fW (some ⟨lb,off,none⟩) cap2 al v false HLB.out _ (HL2.at zE) oM hvb)))));refine wpQuiet_nil ?_;intro w1 hx)
       (obtain ⟨uq,rfl⟩:∃u:ExtOf wr,w1=u.1:=⟨⟨w1,hx⟩,rfl⟩;clear hx;go_wp2_with fail)
       go_ret
       exact ⟨ak HR.out.symm,HX.out.trans (zu _)⟩
      ·have HQQ := zH (show ∀ i, i < m + 1 → bj (fun x => decide (x ∈ al)) (fldZ (some ws) z i false) = true from fun i hi => by
        rcases Nat.lt_or_ge i m with h' | h'
        ·exact hq.out i h'
        ·obtain rfl:i=m:=by omega
         rw [HFL.out];exact hb)
       clear hb hq
       ((first | refine aK (W:=wr) ?_ | refine aT (W:=wr) ?_);intro uq;(try go_wp2_with fail))
       have hx7:=uq.2
       (refine aC (W:=wr) kR kR aS ?_;(repeat (go_big_quiet_step (first | (go_at_call 120;with_reducible exact zq (fW (some ⟨lb,off,none⟩) cap2 al v true HLB.out _ (HL2.at zE) oM hvb)))));refine wpQuiet_nil ?_;intro w1 hx)
       (obtain ⟨uq,rfl⟩:∃u:ExtOf wr,w1=u.1:=⟨⟨w1,hx⟩,rfl⟩;clear hx;go_wp2_with fail)
       go_roundw
       case rel=>exact ⟨m+1,by omega,by go_num,HQQ,HXR2.out.trans uq.2⟩
       case measure=>simp [intOf];omega
  obtain ⟨lb,off,rfl,hc⟩:=HL1.here.get oM
  have j1:=aG (b5 hc hlt)
  have hzb:=HZ1.out _ (aH (d:=0) hlt)
  have ib0:(0:Int)≤(k:Int):=by omega
  have ib1:(k:Int) < (zs.length:Int):=by omega
  have HY:=zH (fun (h:ce (some ws) c0 c1 c2 c3 (zs.getD k 0)=true)=>upTo hq.out h)
  have HNO:=zH (fun (h:ce (some ws) c0 c1 c2 c3 (zs.getD k 0)=false)=>cg (p:=ce (some ws) c0 c1 c2 c3) hlt h)
  clear hc hq
  generalize zs.getD k 0=z at*
  obtain ⟨er,her⟩:∃e,aV (some ws) z=e:=⟨_,rfl⟩
  obtain ⟨hd,hh⟩:∃h,aJ (some ws) z=h:=⟨_,rfl⟩
  obtain ⟨sz,hsz⟩:∃n,ap hd=n:=⟨_,rfl⟩
  obtain ⟨b,hb⟩:∃b,dT hd=b:=⟨_,rfl⟩
  obtain ⟨d,hd2⟩:∃b,dq c0 c1 c2 c3 sz=b:=⟨_,rfl⟩
  have HSO:Hid (ce (some ws) c0 c1 c2 c3 z=(b && d)):=zH (by simp only [ce,hh,hb,hsz,hd2])
  have HE:=zH her
  have HH:=zH hh
  have HSZ:=zH hsz
  have HB:=zH hb
  have HD:=zH hd2
  have HZI:=zH hzb
  clear her hh hsz hb hd2 hzb
  ((first | refine aK (W:=wr) ?_ | refine aT (W:=wr) ?_);intro uq;(try go_wp2_with fail))
  have hx1:=uq.2
  (refine dV (W:=wr) [(0,true),(1,true),(2,true),(3,true),(4,true),(5,true)] 5 [(6,[.qu 7 true,.qu 8 true,.qu 9 true,.one 10,.one 11]),(10,[.one 6,.qu 7 true,.qu 8 true,.qu 9 true,.one 11])] [12] kR kR (by intro c a d v w h;cases d <;>first | exact h | (cases h;done) | cases h.1.1 | cases h.1) aS ?_;simp only [aI,List.map_cons,List.map_nil,List.getD_cons_zero,List.getD_cons_succ];(repeat (go_big_quiet_step (fail)));refine wpQuiet_nil ?_;refine iF ?_ ?_ <;>(intro w1 hx;unfold RowP;simp only [aI,List.map_cons,List.map_nil,List.getD_cons_zero,List.getD_cons_succ]))
  ((refine aw gD rM ?_;intro K hK;go_simp))
  refine (dG wA wc ws z er hd HE.out HH.out _ (HW.at hx) hwl HWB.out HZI.out).mono ?_
  rintro e w2 ⟨rfl,hx2⟩
  refine hK (Ext wr) _ _ (fun _ h=>h) (hx.trans hx2) ?_
  clear hK K hx hx2
  (refine bP gD ?_;(repeat (go_big_quiet_step (fail)));refine wpQuiet_nil ?_;intro w1 hx)
  (refine bP gD ?_;(repeat (go_big_quiet_step (fail)));refine wpQuiet_nil ?_;intro w1 hx)
  (refine bP gD ?_;(repeat (go_big_quiet_step (fail)));refine wpQuiet_nil ?_;intro w1 hx)
  ((refine aw gD rM ?_;intro K hK;go_simp))
  refine hK (Ext wr) _ _ (fun _ h=>h) (hx.alloc _) ?_
  clear hK K
  ((refine aw gD rM ?_;intro K hK;go_simp))
  refine hK (Ext wr) _ _ (fun _ h=>h) (hx.alloc _) ?_
  clear hK K
  (refine eW ?_)
  go_wp2_with fail
  have HBH:=aF w1 #[.int .i64 hd.k,.int .i64 hd.f,.int .i64 hd.r,.bool hd.m,.int .i64 hd.c] 85 _ rfl
  have HX5:=zH (hx.alloc (.cells #[.int .i64 hd.k,.int .i64 hd.f,.int .i64 hd.r,.bool hd.m,.int .i64 hd.c] 85))
  clear hx
  generalize w1.alloc (.cells #[.int .i64 hd.k,.int .i64 hd.f,.int .i64 hd.r,.bool hd.m,.int .i64 hd.c] 85)=W5 at*
  generalize w1.heap.size=Y at*
  rotate_left
  ((refine aw gD rM ?_;intro K hK;go_simp))
  refine hK (fun w=>Ext wr w∧∃cs,cs.size=5∧w.heap[w1.heap.size]?=some (.cells cs 85 (0,0))) _ _ (fun _ h=>h.1) ⟨hx.alloc _,_,rfl,World.alloc_heap_new _ _⟩ ?_
  clear hK K
  have hb:=aN w1 #[.int .i64 0,.int .i64 0,.int .i64 0,.bool false,.int .i64 0] 85 _ rfl
  have hx1':=hx.alloc (.cells #[.int .i64 0,.int .i64 0,.int .i64 0,.bool false,.int .i64 0] 85)
  have hXs:wr.heap.size≤w1.heap.size:=hx.size
  generalize w1.alloc (.cells #[.int .i64 0,.int .i64 0,.int .i64 0,.bool false,.int .i64 0] 85)=w3 at*
  generalize w1.heap.size=Y at*
  ((refine aw gD rM ?_;intro K hK;go_simp))
  refine (dG wA wc ws z er hd HE.out HH.out _ (HW.at hx1') hwl HWB.out HZI.out).mono ?_
  rintro e w2 ⟨rfl,hx2⟩
  refine hK (fun w=>Ext wr w∧∃cs,cs.size=5∧w.heap[Y]?=some (.cells cs 85 (0,0))) _ _ (fun _ h=>h) ⟨hx1'.trans hx2,_,rfl,(hx2.block (aA hb)).trans hb⟩ ?_
  have hne:Nonempty (KeptT fun w=>Ext wr w∧∃cs,cs.size=5∧w.heap[Y]?=some (.cells cs 85 (0,0))):=⟨⟨_,hx1'.trans hx2,_,rfl,(hx2.block (aA hb)).trans hb⟩⟩
  clear hK K hx hx2
  (refine bP gD ?_;(repeat (go_big_quiet_step (fail)));refine wpQuiet_nil ?_;intro w1 hx)
  (refine bP gD ?_;(repeat (go_big_quiet_step (fail)));refine wpQuiet_nil ?_;intro w1 hx)
  (refine bP gD ?_;(repeat (go_big_quiet_step (fail)));refine wpQuiet_nil ?_;intro w1 hx)
  obtain ⟨hx,cs,hcs,hbY⟩:=hx
  obtain ⟨v0,v1,v2,v3,v4,rfl⟩:=arr5 hcs
  obtain ⟨g3,g4⟩:=aB hbY
  have hb5:=aL (i:=4) (aL (i:=3) (aL (i:=2) (aL (i:=1) (aL (i:=0) hbY (.int .i64 hd.k)) (.int .i64 hd.f)) (.int .i64 hd.r)) (.bool hd.m)) (.int .i64 hd.c)
  have hx5:=((((hx.setCell (p:=⟨Y,0,none⟩) hXs (.int .i64 hd.k)).setCell (p:=⟨Y,1,none⟩) hXs (.int .i64 hd.f)).setCell (p:=⟨Y,2,none⟩) hXs (.int .i64 hd.r)).setCell (p:=⟨Y,3,none⟩) hXs (.bool hd.m)).setCell (p:=⟨Y,4,none⟩) hXs (.int .i64 hd.c)
  simp only [List.setIfInBounds_toArray,List.set_cons_succ,List.set_cons_zero]at hb5
  ((refine aw gD rM ?_;intro K hK;go_simp))
  refine hK _ _ _ (fun _ h=>h) ⟨hx5,_,rfl,hb5⟩ ?_
  have HBH:=aO hb5
  have HX5:=zH hx5
  clear hK K hx hbY g3 g4 hcs hb5 hx5 hne hb hx1'
  (refine eW ?_)
  go_wp2_with fail
  generalize ((((w1.setCell ⟨Y,0,none⟩ (.int .i64 hd.k)).setCell ⟨Y,1,none⟩ (.int .i64 hd.f)).setCell ⟨Y,2,none⟩ (.int .i64 hd.r)).setCell ⟨Y,3,none⟩ (.bool hd.m)).setCell ⟨Y,4,none⟩ (.int .i64 hd.c)=W5 at*
  all_goals
   (replace hB:=hB.re HX5.out;replace HW:=HW.re HX5.out;replace HT:=HT.re HX5.out;replace HS:=HS.re HX5.out;replace HX:=zH (HX.out.trans HX5.out);replace HL1:=HL1.re HX5.out)
   replace HXR:=zH (HXR.out.trans HX5.out)
   clear gB hx1 j1
   have gB:=hB.cells
   have g2:=HBH.cells
   have hx5:=zo W5
   cases b
   ·obtain rfl:r5=false:=by rw [←H5.out];exact HNO.out (by rw [HSO.out];rfl)
    have HR:Hid (checkZ c0 c1 c2 c3 sn ws top tb fr sl=5):=zH (by rw [HCK.out];rfl)
    (refine aC (W:=W5) kR kR aS ?_;(repeat (go_big_quiet_step (first | (go_at_call 117;with_reducible exact zq (dj hd false HB.out _)))));refine wpQuiet_nil ?_;intro w1 hx)
    (obtain ⟨uq,rfl⟩:∃u:ExtOf W5,w1=u.1:=⟨⟨w1,hx⟩,rfl⟩;clear hx;go_wp2_with fail)
    go_ret
    exact ⟨ak HR.out.symm,HX.out.trans (zu _)⟩
   cases d
   ·obtain rfl:r5=false:=by rw [←H5.out];exact HNO.out (by rw [HSO.out];rfl)
    have HR:Hid (checkZ c0 c1 c2 c3 sn ws top tb fr sl=5):=zH (by rw [HCK.out];rfl)
    (refine aC (W:=W5) kR kR aS ?_;(repeat (go_big_quiet_step (first | (go_at_call 117;with_reducible exact zq (dj hd true HB.out _)) | (go_at_call 115;with_reducible exact zq (cN hd sz HSZ.out _)) | (go_at_call 51;with_reducible exact zq (eo HD.out _)))));refine wpQuiet_nil ?_;intro w1 hx)
    (obtain ⟨uq,rfl⟩:∃u:ExtOf W5,w1=u.1:=⟨⟨w1,hx⟩,rfl⟩;clear hx;go_wp2_with fail)
    go_ret
    exact ⟨ak HR.out.symm,HX.out.trans (zu _)⟩
   have HYY:=zH (HY.out (by rw [HSO.out];rfl))
   (refine aC (W:=W5) kR kR aS ?_;(repeat (go_big_quiet_step (first | (go_at_call 117;with_reducible exact zq (dj hd true HB.out _)) | (go_at_call 115;with_reducible exact zq (cN hd sz HSZ.out _)) | (go_at_call 51;with_reducible exact zq (eo HD.out _)))));refine wpQuiet_nil ?_;intro w1 hx)
   (obtain ⟨uq,rfl⟩:∃u:ExtOf W5,w1=u.1:=⟨⟨w1,hx⟩,rfl⟩;clear hx;go_wp2_with fail)
   go_roundw
   case rel=>exact ⟨k+1,by omega,by go_num,HYY,HXR.out.trans uq.2⟩
   case measure=>simp [intOf];omega
end
end Go.Proofs.YtphpppjfogpohaaGreat
