/- Merged by program (merge.py) out of: StI, StJ, StK, StL, StM, StN. -/
import Derived.Test.YtphpppjfogpohaaGreatMq0
import Derived.Test.YtphpppjfogpohaaGreatMq28
import Derived.Test.YtphpppjfogpohaaGreatMq4
import Derived.Test.YtphpppjfogpohaaGreatMq16
set_option linter.unusedSimpArgs false
set_option linter.unusedVariables false
set_option maxRecDepth 100000
set_option maxHeartbeats 16000000
namespace Go.Proofs.YtphpppjfogpohaaGreat
open Go.RowKit Go.Shelf
def cF (l:Option (List Int)) (c0 c1 c2 c3:Int) (x:Int×Int):Bool:=decide (aU l x.1=0) && (av (aK l x.1)==x.2) && dT (aK l x.1) && !dq c0 c1 c2 c3 x.2
theorem qR (a s:Int) (A A2:Option Addr) (cap cap2:Nat) (xs fs:List (Int×Int)) (b:Bool) (h:ledR a s xs fs=b) (w:World) (hlen:xs.length≤400000) (hlen2:fs.length≤9223372036854775807) (hl:SpansAt w A xs) (hl2:SpansAt w A2 fs):
  Calls Tryz.prog 174 #[.agg #[.int .i64 (a),.int .i64 (s)],.slice A xs.length cap,.slice A2 fs.length cap2] w fun e w'=>e= .returned (.bool b)∧Ext w w':=by
 rw [←h];exact o7 a s A A2 cap cap2 xs fs w hlen hlen2 hl hl2
section
variable {c0 c1 c2 c3 : Int} {sn : Bool} {wA : Option Addr} {ws : List Int} {wc : Nat} {top : Int} {tA : Option Addr} {tb : List (Int × Int)} {tc : Nat} {fA : Option Addr} {fr : List (Int × Int)} {fc : Nat} {sA : Option Addr} {sl : List (Bool × Int × Int)} {sc : Nat}
variable {V W : World} {L c mb n : Nat} {A1 : Option Addr} {cap1 : Nat} {wv : List Int} {A2 : Option Addr} {cap2 : Nat} {zs : List Int} {S : Int → Bool}
def zT (V W:World) (L:Nat) (cs:Array Value) (c mb n:Nat) (A1:Option Addr) (cap1:Nat) (wv:List Int) (A2:Option Addr) (cap2:Nat) (zs:List Int) (S:Int→Bool) (r:Bool) (e:Ending) (w':World):Prop:=
 e= .returned (.bool r)∧∃n' S',LkW V w' L cs c mb n' A1 cap1 wv A2 cap2 zs S'∧n'≤n∧(r=true→S'=S)∧Kc L W w'
theorem oq (hLk:LkW V W L #[.int .i64 c0,.int .i64 c1,.int .i64 c2,.int .i64 c3,.bool sn,.slice wA ws.length wc,.int .i64 top,.slice tA tb.length tc,.slice fA fr.length fc,.slice sA sl.length sc] c mb n A1 cap1 wv A2 cap2 zs S) (hmb:V.heap.size≤mb) (hn:n≤2199023255553) (HT:Pers V (fun w=>SpansAt w tA tb)) (HF:Pers V (fun w=>SpansAt w fA fr)) (htl:tb.length≤98304) (hfl:fr.length≤98304)
  (htb:∀x∈tb,(-9223372036854775808≤x.1∧x.1≤9223372036854775807)):
  Calls Tryz.prog 145 #[.pointer (some ⟨L,0,none⟩)] W (zT V W L #[.int .i64 c0,.int .i64 c1,.int .i64 c2,.int .i64 c3,.bool sn,.slice wA ws.length wc,.int .i64 top,.slice tA tb.length tc,.slice fA fr.length fc,.slice sA sl.length sc] c mb (n+tb.length) A1 cap1 wv A2 cap2 zs (fun x=>S x || decide (x∈tb.map (·.1))) (ledR (bE c0 c1 c2 c3) (bC c0 c1 c2 c3) tb fr && tb.all (cF (some wv) c0 c1 c2 c3))):=by
 obtain ⟨a,ha⟩:∃b,bE c0 c1 c2 c3=b:=⟨_,rfl⟩
 obtain ⟨s,hs⟩:∃b,bC c0 c1 c2 c3=b:=⟨_,rfl⟩
 obtain ⟨b,hb⟩:∃b,ledR a s tb fr=b:=⟨_,rfl⟩
 have HA:=zH ha
 have HS:=zH hs
 have HLB:=zH hb
 rw [ha,hs,hb]
 have HLK:=hLk.pers
 have HTB:=zH htb
 have HTW:=HT.re hLk.ext
 have HFW:=HF.re hLk.ext
 have hB:Pers W (fun w=>w.heap[L]?=some (.cells #[.int .i64 c0,.int .i64 c1,.int .i64 c2,.int .i64 c3,.bool sn,.slice wA ws.length wc,.int .i64 top,.slice tA tb.length tc,.slice fA fr.length fc,.slice sA sl.length sc,.pointer (some ⟨c,0,none⟩),.slice A2 zs.length cap2,.map (some mb)] 124 (0,0))):=fun w k=>(hLk.grow k).blk
 have g:=hB.cells
 clear ha hs hb hLk htb
 refine aM (W:=W) fun uq=> ?_
 go_enter Tryz.func145,Tryz.ntmps145
 go_wp2_with fail
 have hu:=uq.2
 (refine aC (W:=W) kR kR aS ?_;(repeat (go_big_quiet_step (first | (go_at_call 89;with_reducible exact AE (mw HA.out HS.out _)) | (go_at_call 174;with_reducible exact AE (qR a s tA fA tc fc tb fr b HLB.out _ oM oM (HTW.at zE) (HFW.at zE))))));refine wpQuiet_nil ?_;intro w1 hx)
 clear hu
 cases b
 ·(obtain ⟨uq,rfl⟩:∃u:ExtOf W,w1=u.1:=⟨⟨w1,hx⟩,rfl⟩;clear hx;go_wp2_with fail)
  go_ret
  exact ⟨rfl,n,S,HLK.at uq.2,by omega,by simp,AW L uq.2⟩
 (obtain ⟨uq,rfl⟩:∃u:ExtOf W,w1=u.1:=⟨⟨w1,hx⟩,rfl⟩;clear hx;go_wp2_with fail)
 have HL0:=zH (HLK.at uq.2)
 have HK0:=zH (AW L uq.2)
 clear g hB HLK HTW HFW
 simp only [Bool.not_true]
 go_loopw [4,5,6,31] (fun _ _ _ i wr=>∃k:Nat,k≤tb.length∧i= .int .i64 k∧Hid (LkW V wr L #[.int .i64 c0,.int .i64 c1,.int .i64 c2,.int .i64 c3,.bool sn,.slice wA ws.length wc,.int .i64 top,.slice tA tb.length tc,.slice fA fr.length fc,.slice sA sl.length sc] c mb (n+k) A1 cap1 wv A2 cap2 zs (fun x=>S x || decide (x∈(tb.take k).map (·.1))))∧Hid (Kc L W wr)∧Hid (∀i,i < k→cF (some wv) c0 c1 c2 c3 (tb.getD i (0,0))=true)) (fun _ _ _ i _=>tb.length - (intOf i).toNat)
 case atStart=>exact ⟨0,by omega,rfl,zH (by simpa using HL0.out),HK0,zH oM⟩
 case round=>
  obtain ⟨k,hk,rfl,HL,HKR,hq⟩:=hrel
  clear HL0 HK0
  by_cases hlt:k < tb.length
  rotate_left
  ·obtain rfl:k=tb.length:=by omega
   have HAL:Hid (tb.all (cF (some wv) c0 c1 c2 c3)=true):=zH (d9 fun i hi=>hq.out i hi)
   clear hq
   go_wp2_with fail
   go_ret
   exact ⟨aD (by rw [HAL.out];rfl),_,_,HL.out,Nat.le_refl _,(fun _=>by simp only [List.take_length]),HKR.out⟩
  have HLK:=HL.out.pers
  have hB:Pers wr (fun w=>w.heap[L]?=some (.cells #[.int .i64 c0,.int .i64 c1,.int .i64 c2,.int .i64 c3,.bool sn,.slice wA ws.length wc,.int .i64 top,.slice tA tb.length tc,.slice fA fr.length fc,.slice sA sl.length sc,.pointer (some ⟨c,0,none⟩),.slice A2 zs.length cap2,.map (some mb)] 124 (0,0))):=fun w k=>(HL.out.grow k).blk
  have HAR:Pers wr (fun w=>ArP w (some ⟨c,0,none⟩) (some wv)):=fun w k=>(HL.out.grow k).ar.p
  obtain ⟨lb,off,rfl,hc⟩:=(HT.at HL.out.ext).get oM
  obtain ⟨j1,j2⟩:=aQ hc hlt
  have hxb:=HTB.out _ (aF (d:=(0,0)) hlt)
  have ib1:(k:Int) < (tb.length:Int):=by omega
  have HY:=zH (fun (h:cF (some wv) c0 c1 c2 c3 (tb.getD k (0,0))=true)=>upTo hq.out h)
  have HNO:=zH (fun (h:cF (some wv) c0 c1 c2 c3 (tb.getD k (0,0))=false)=>cg (p:=cF (some wv) c0 c1 c2 c3) hlt h)
  have HTK:Hid ((fun x=>(S x || decide (x∈(tb.take k).map (·.1))) || x==(tb.getD k (0,0)).1)=fun x=>S x || decide (x∈(tb.take (k+1)).map (·.1))):=zH (by
   funext x
   rw [pR (d:=(0,0)) hlt,Bool.or_assoc]
   congr 1
   simp only [List.mem_append,List.mem_singleton,Bool.decide_or]
   congr 1)
  clear hc hq
  generalize tb.getD k (0,0)=x at*
  obtain ⟨xa,xs⟩:=x
  simp only at j1 j2 hxb HTK
  obtain ⟨er,her⟩:∃e,aU (some wv) xa=e:=⟨_,rfl⟩
  obtain ⟨h,hh⟩:∃h,aK (some wv) xa=h:=⟨_,rfl⟩
  obtain ⟨z,hz⟩:∃n,av h=n:=⟨_,rfl⟩
  obtain ⟨b,hb⟩:∃b,dT h=b:=⟨_,rfl⟩
  obtain ⟨d,hd⟩:∃b,dq c0 c1 c2 c3 xs=b:=⟨_,rfl⟩
  have HLG:Hid (cF (some wv) c0 c1 c2 c3 (xa,xs)=(decide (er=0) && (z==xs) && b && !d)):=zH (by simp only [cF,her,hh,hz,hb,hd])
  have HER:=zH her
  have HH:=zH hh
  have HZ:=zH hz
  have HB:=zH hb
  have HD:=zH hd
  clear her hh hz hb hd
  have hS:=aG wr #[.int .i64 xa,.int .i64 xs] 63 _ rfl
  have hxs:=(AD wr).alloc (.cells #[.int .i64 xa,.int .i64 xs] 63)
  go_wp2_with fail
  (replace HLK:=HLK.re hxs;replace hB:=hB.re hxs;replace HAR:=HAR.re hxs)
  have HK1:=zH (AW L hxs)
  generalize wr.alloc (.cells #[.int .i64 xa,.int .i64 xs] 63)=W1 at*
  generalize wr.heap.size=X at*
  have g:=hB.cells
  have g1:=hS.cells
  have hx1:=AD W1
  clear j1 j2 ib1 hxs HL
  (refine dV (W:=W1) [(0,true),(1,true),(2,true),(3,true),(4,true),(5,true)] 5 [(6,[.qu 7 true,.qu 8 true,.qu 9 true,.one 10,.one 11]),(10,[.one 6,.qu 7 true,.qu 8 true,.qu 9 true,.one 11])] [12] kR kR (by intro c a d v w h;cases d <;>first | exact h | (cases h;done) | cases h.1.1 | cases h.1) aS ?_;simp only [aI,List.map_cons,List.map_nil,List.getD_cons_zero,List.getD_cons_succ];(repeat (go_big_quiet_step (fail)));refine wpQuiet_nil ?_;refine iO ?_ ?_ <;>(intro w1 hx;unfold RowP;simp only [aI,List.map_cons,List.map_nil,List.getD_cons_zero,List.getD_cons_succ]))
  ·(refine ay gD rM ?_;intro K hK;go_simp)
   refine (fC (some ⟨c,0,none⟩) (some wv) xa h er HH.out HER.out _ (HAR.at hx) hxb).mono ?_
   rintro e w2 ⟨rfl,hx2⟩
   refine hK (Ext W1) _ _ (fun _ h=>h) (hx.trans hx2) ?_
   clear hK K hx hx2
   (refine bU gD ?_;(repeat (go_big_quiet_step (fail)));refine wpQuiet_nil ?_;intro w1 hx)
   (refine bU gD ?_;(repeat (go_big_quiet_step (fail)));refine wpQuiet_nil ?_;intro w1 hx)
   (refine bU gD ?_;(repeat (go_big_quiet_step (fail)));refine wpQuiet_nil ?_;intro w1 hx)
   (refine ay gD rM ?_;intro K hK;go_simp)
   refine hK (Ext W1) _ _ (fun _ h=>h) (hx.alloc _) ?_
   clear hK K
   (refine ay gD rM ?_;intro K hK;go_simp)
   refine hK (Ext W1) _ _ (fun _ h=>h) (hx.alloc _) ?_
   clear hK K
   (refine eW ?_)
   go_wp2_with fail
   have HBH:=aG w1 #[.int .i64 h.k,.int .i64 h.f,.int .i64 h.r,.bool h.m,.int .i64 h.c] 85 _ rfl
   have HX5:=zH (hx.alloc (.cells #[.int .i64 h.k,.int .i64 h.f,.int .i64 h.r,.bool h.m,.int .i64 h.c] 85))
   clear hx
   generalize w1.alloc (.cells #[.int .i64 h.k,.int .i64 h.f,.int .i64 h.r,.bool h.m,.int .i64 h.c] 85)=W5 at*
   generalize w1.heap.size=Y at*
   clear g g1 hx1
   have HK7:=zH (HKR.out.trans (HK1.out.trans (AW L HX5.out)))
   replace HLK:=HLK.re HX5.out
   replace hB:=hB.re HX5.out
   replace hS:=hS.re HX5.out
   have g:=hB.cells
   have g1:=hS.cells
   have g2:=HBH.cells
   have hx5:=AD W5
   by_cases h0:er=0
   rotate_left
   ·have q0:(er !=0)=true:=by rw [bne_iff_ne];exact h0
    have HR:=zH (HNO.out (by rw [HLG.out,decide_eq_false h0];rfl))
    clear h0
    (refine aC (W:=W5) kR kR aS ?_;(repeat (go_big_quiet_step (fail)));refine wpQuiet_nil ?_;intro w1 hx)
    (obtain ⟨uq,rfl⟩:∃u:ExtOf W5,w1=u.1:=⟨⟨w1,hx⟩,rfl⟩;clear hx;go_wp2_with fail)
    go_ret
    exact ⟨aD (by simp [HR.out]),_,_,HLK.at uq.2,by omega,by rw [HR.out];simp,HK7.out.trans (AW L uq.2)⟩
   subst h0
   by_cases h1:z=xs
   rotate_left
   ·have q1:(z !=xs)=true:=by rw [bne_iff_ne];exact h1
    have q2:(z==xs)=false:=by rw [beq_eq_false_iff_ne];exact h1
    have HR:=zH (HNO.out (by rw [HLG.out,q2];rfl))
    clear h1 q2
    (refine aC (W:=W5) kR kR aS ?_;(repeat (go_big_quiet_step (first | (go_at_call 104;with_reducible exact AE (cL h z HZ.out _)))));refine wpQuiet_nil ?_;intro w1 hx)
    (obtain ⟨uq,rfl⟩:∃u:ExtOf W5,w1=u.1:=⟨⟨w1,hx⟩,rfl⟩;clear hx;go_wp2_with fail)
    go_ret
    exact ⟨aD (by simp [HR.out]),_,_,HLK.at uq.2,by omega,by rw [HR.out];simp,HK7.out.trans (AW L uq.2)⟩
   subst h1
   have q1:(z !=z)=false:=by simp
   cases b
   ·have HR:=zH (HNO.out (by rw [HLG.out];simp))
    (refine aC (W:=W5) kR kR aS ?_;(repeat (go_big_quiet_step (first | (go_at_call 104;with_reducible exact AE (cL h z HZ.out _)) | (go_at_call 173;with_reducible exact AE (eZ h false HB.out _)))));refine wpQuiet_nil ?_;intro w1 hx)
    (obtain ⟨uq,rfl⟩:∃u:ExtOf W5,w1=u.1:=⟨⟨w1,hx⟩,rfl⟩;clear hx;go_wp2_with fail)
    go_ret
    exact ⟨aD (by simp [HR.out]),_,_,HLK.at uq.2,by omega,by rw [HR.out];simp,HK7.out.trans (AW L uq.2)⟩
   cases d
   rotate_left
   ·have HR:=zH (HNO.out (by rw [HLG.out];simp))
    (refine aC (W:=W5) kR kR aS ?_;(repeat (go_big_quiet_step (first | (go_at_call 104;with_reducible exact AE (cL h z HZ.out _)) | (go_at_call 173;with_reducible exact AE (eZ h true HB.out _)) | (go_at_call 133;with_reducible exact AE (fx HD.out _)))));refine wpQuiet_nil ?_;intro w1 hx)
    (obtain ⟨uq,rfl⟩:∃u:ExtOf W5,w1=u.1:=⟨⟨w1,hx⟩,rfl⟩;clear hx;go_wp2_with fail)
    go_ret
    exact ⟨aD (by simp [HR.out]),_,_,HLK.at uq.2,by omega,by rw [HR.out];simp,HK7.out.trans (AW L uq.2)⟩
   have HYY:=zH (HY.out (by rw [HLG.out];simp))
   (refine aC (W:=W5) kR kR aS ?_;(repeat (go_big_quiet_step (first | (go_at_call 104;with_reducible exact AE (cL h z HZ.out _)) | (go_at_call 173;with_reducible exact AE (eZ h true HB.out _)) | (go_at_call 133;with_reducible exact AE (fx HD.out _)))));refine wpQuiet_nil ?_;intro w1 hx)
   (obtain ⟨uq,rfl⟩:∃u:ExtOf W5,w1=u.1:=⟨⟨w1,hx⟩,rfl⟩;clear hx;go_wp2_with fail)
   have hu:=uq.2
   (refine az (W:=W5) [(0,true),(1,true),(2,true),(3,true),(4,true),(5,true)] [] [6] kR kR (by intro c a d v w h;cases d <;>first | exact h | (cases h;done) | cases h.1.1 | cases h.1) aS ?_;simp only [aI,List.map_cons,List.map_nil,List.getD_cons_zero,List.getD_cons_succ];(repeat (go_big_quiet_step (fail)));refine wpQuiet_nil ?_;intro w1 hx;refine cD ?_)
   have HL6:=zH (HLK.at hx)
   have HX6:=zH hx
   have hzw:(Lit.int .i64 xa).wf=true:=by simp [Lit.wf,IntKind.min,IntKind.max,IntKind.signed,IntKind.bits];omega
   have HZW:=zH hzw
   clear hzw hx hu g g1 g2
   go_wp2_with (at_mapUpdate;refine fD rfl (.tmp 72) (.tmp 74) (.const (.bool true)) rfl HL6.out.st rfl (by simp [maxLen];omega) xa rfl rfl HZW.out ?_;intro w7 hs7 hg7;have HL7:=zH (HL6.out.put hmb hg7 hs7);have HK8:=zH ((HK7.out.trans (AW L HX6.out)).trans (Kc.map L HL6.out.st hg7));clear hs7 hg7)
   go_roundw
   case rel=>exact ⟨k+1,by omega,by go_num,by rw [←HTK.out];exact HL7,HK8,HYY⟩
   case measure=>simp [intOf];omega
  ·(refine ay gD rM ?_;intro K hK;go_simp)
   refine hK (fun w=>Ext W1 w∧∃cs,cs.size=5∧w.heap[w1.heap.size]?=some (.cells cs 85 (0,0))) _ _ (fun _ h=>h.1) ⟨hx.alloc _,_,rfl,World.alloc_heap_new _ _⟩ ?_
   clear hK K
   have hb:=aR w1 #[.int .i64 0,.int .i64 0,.int .i64 0,.bool false,.int .i64 0] 85 _ rfl
   have hx1':=hx.alloc (.cells #[.int .i64 0,.int .i64 0,.int .i64 0,.bool false,.int .i64 0] 85)
   have hXs:W1.heap.size≤w1.heap.size:=hx.size
   generalize w1.alloc (.cells #[.int .i64 0,.int .i64 0,.int .i64 0,.bool false,.int .i64 0] 85)=w3 at*
   generalize w1.heap.size=Y at*
   (refine ay gD rM ?_;intro K hK;go_simp)
   refine (fC (some ⟨c,0,none⟩) (some wv) xa h er HH.out HER.out _ (HAR.at hx1') hxb).mono ?_
   rintro e w2 ⟨rfl,hx2⟩
   refine hK (fun w=>Ext W1 w∧∃cs,cs.size=5∧w.heap[Y]?=some (.cells cs 85 (0,0))) _ _ (fun _ h=>h) ⟨hx1'.trans hx2,_,rfl,(hx2.block (aA hb)).trans hb⟩ ?_
   have hne:Nonempty (KeptT fun w=>Ext W1 w∧∃cs,cs.size=5∧w.heap[Y]?=some (.cells cs 85 (0,0))):=⟨⟨_,hx1'.trans hx2,_,rfl,(hx2.block (aA hb)).trans hb⟩⟩
   clear hK K hx hx2
   (refine bU gD ?_;(repeat (go_big_quiet_step (fail)));refine wpQuiet_nil ?_;intro w1 hx)
   (refine bU gD ?_;(repeat (go_big_quiet_step (fail)));refine wpQuiet_nil ?_;intro w1 hx)
   (refine bU gD ?_;(repeat (go_big_quiet_step (fail)));refine wpQuiet_nil ?_;intro w1 hx)
   obtain ⟨hx,cs,hcs,hbY⟩:=hx
   obtain ⟨v0,v1,v2,v3,v4,rfl⟩:=arr5 hcs
   obtain ⟨g3,g4⟩:=aB hbY
   have hb5:=aL (i:=4) (aL (i:=3) (aL (i:=2) (aL (i:=1) (aL (i:=0) hbY (.int .i64 h.k)) (.int .i64 h.f)) (.int .i64 h.r)) (.bool h.m)) (.int .i64 h.c)
   have hx5:=((((hx.setCell (p:=⟨Y,0,none⟩) hXs (.int .i64 h.k)).setCell (p:=⟨Y,1,none⟩) hXs (.int .i64 h.f)).setCell (p:=⟨Y,2,none⟩) hXs (.int .i64 h.r)).setCell (p:=⟨Y,3,none⟩) hXs (.bool h.m)).setCell (p:=⟨Y,4,none⟩) hXs (.int .i64 h.c)
   simp only [List.setIfInBounds_toArray,List.set_cons_succ,List.set_cons_zero]at hb5
   (refine ay gD rM ?_;intro K hK;go_simp)
   refine hK _ _ _ (fun _ h=>h) ⟨hx5,_,rfl,hb5⟩ ?_
   have HBH:=aP hb5
   have HX5:=zH hx5
   clear hK K hx hbY g3 g4 hcs hb5 hx5 hne hb hx1'
   (refine eW ?_)
   go_wp2_with fail
   generalize ((((w1.setCell ⟨Y,0,none⟩ (.int .i64 h.k)).setCell ⟨Y,1,none⟩ (.int .i64 h.f)).setCell ⟨Y,2,none⟩ (.int .i64 h.r)).setCell ⟨Y,3,none⟩ (.bool h.m)).setCell ⟨Y,4,none⟩ (.int .i64 h.c)=W5 at*
   clear g g1 hx1
   have HK7:=zH (HKR.out.trans (HK1.out.trans (AW L HX5.out)))
   replace HLK:=HLK.re HX5.out
   replace hB:=hB.re HX5.out
   replace hS:=hS.re HX5.out
   have g:=hB.cells
   have g1:=hS.cells
   have g2:=HBH.cells
   have hx5:=AD W5
   by_cases h0:er=0
   rotate_left
   ·have q0:(er !=0)=true:=by rw [bne_iff_ne];exact h0
    have HR:=zH (HNO.out (by rw [HLG.out,decide_eq_false h0];rfl))
    clear h0
    (refine aC (W:=W5) kR kR aS ?_;(repeat (go_big_quiet_step (fail)));refine wpQuiet_nil ?_;intro w1 hx)
    (obtain ⟨uq,rfl⟩:∃u:ExtOf W5,w1=u.1:=⟨⟨w1,hx⟩,rfl⟩;clear hx;go_wp2_with fail)
    go_ret
    exact ⟨aD (by simp [HR.out]),_,_,HLK.at uq.2,by omega,by rw [HR.out];simp,HK7.out.trans (AW L uq.2)⟩
   subst h0
   by_cases h1:z=xs
   rotate_left
   ·have q1:(z !=xs)=true:=by rw [bne_iff_ne];exact h1
    have q2:(z==xs)=false:=by rw [beq_eq_false_iff_ne];exact h1
    have HR:=zH (HNO.out (by rw [HLG.out,q2];rfl))
    clear h1 q2
    (refine aC (W:=W5) kR kR aS ?_;(repeat (go_big_quiet_step (first | (go_at_call 104;with_reducible exact AE (cL h z HZ.out _)))));refine wpQuiet_nil ?_;intro w1 hx)
    (obtain ⟨uq,rfl⟩:∃u:ExtOf W5,w1=u.1:=⟨⟨w1,hx⟩,rfl⟩;clear hx;go_wp2_with fail)
    go_ret
    exact ⟨aD (by simp [HR.out]),_,_,HLK.at uq.2,by omega,by rw [HR.out];simp,HK7.out.trans (AW L uq.2)⟩
   subst h1
   have q1:(z !=z)=false:=by simp
   cases b
   ·have HR:=zH (HNO.out (by rw [HLG.out];simp))
    (refine aC (W:=W5) kR kR aS ?_;(repeat (go_big_quiet_step (first | (go_at_call 104;with_reducible exact AE (cL h z HZ.out _)) | (go_at_call 173;with_reducible exact AE (eZ h false HB.out _)))));refine wpQuiet_nil ?_;intro w1 hx)
    (obtain ⟨uq,rfl⟩:∃u:ExtOf W5,w1=u.1:=⟨⟨w1,hx⟩,rfl⟩;clear hx;go_wp2_with fail)
    go_ret
    exact ⟨aD (by simp [HR.out]),_,_,HLK.at uq.2,by omega,by rw [HR.out];simp,HK7.out.trans (AW L uq.2)⟩
   cases d
   rotate_left
   ·have HR:=zH (HNO.out (by rw [HLG.out];simp))
    (refine aC (W:=W5) kR kR aS ?_;(repeat (go_big_quiet_step (first | (go_at_call 104;with_reducible exact AE (cL h z HZ.out _)) | (go_at_call 173;with_reducible exact AE (eZ h true HB.out _)) | (go_at_call 133;with_reducible exact AE (fx HD.out _)))));refine wpQuiet_nil ?_;intro w1 hx)
    (obtain ⟨uq,rfl⟩:∃u:ExtOf W5,w1=u.1:=⟨⟨w1,hx⟩,rfl⟩;clear hx;go_wp2_with fail)
    go_ret
    exact ⟨aD (by simp [HR.out]),_,_,HLK.at uq.2,by omega,by rw [HR.out];simp,HK7.out.trans (AW L uq.2)⟩
   have HYY:=zH (HY.out (by rw [HLG.out];simp))
   (refine aC (W:=W5) kR kR aS ?_;(repeat (go_big_quiet_step (first | (go_at_call 104;with_reducible exact AE (cL h z HZ.out _)) | (go_at_call 173;with_reducible exact AE (eZ h true HB.out _)) | (go_at_call 133;with_reducible exact AE (fx HD.out _)))));refine wpQuiet_nil ?_;intro w1 hx)
   (obtain ⟨uq,rfl⟩:∃u:ExtOf W5,w1=u.1:=⟨⟨w1,hx⟩,rfl⟩;clear hx;go_wp2_with fail)
   have hu:=uq.2
   (refine az (W:=W5) [(0,true),(1,true),(2,true),(3,true),(4,true),(5,true)] [] [6] kR kR (by intro c a d v w h;cases d <;>first | exact h | (cases h;done) | cases h.1.1 | cases h.1) aS ?_;simp only [aI,List.map_cons,List.map_nil,List.getD_cons_zero,List.getD_cons_succ];(repeat (go_big_quiet_step (fail)));refine wpQuiet_nil ?_;intro w1 hx;refine cD ?_)
   have HL6:=zH (HLK.at hx)
   have HX6:=zH hx
   have hzw:(Lit.int .i64 xa).wf=true:=by simp [Lit.wf,IntKind.min,IntKind.max,IntKind.signed,IntKind.bits];omega
   have HZW:=zH hzw
   clear hzw hx hu g g1 g2
   go_wp2_with (at_mapUpdate;refine fD rfl (.tmp 72) (.tmp 74) (.const (.bool true)) rfl HL6.out.st rfl (by simp [maxLen];omega) xa rfl rfl HZW.out ?_;intro w7 hs7 hg7;have HL7:=zH (HL6.out.put hmb hg7 hs7);have HK8:=zH ((HK7.out.trans (AW L HX6.out)).trans (Kc.map L HL6.out.st hg7));clear hs7 hg7)
   go_roundw
   case rel=>exact ⟨k+1,by omega,by go_num,by rw [←HTK.out];exact HL7,HK8,HYY⟩
   case measure=>simp [intOf];omega
end
def bq (S:Int→Bool) (z:Int):Bool:=decide (decE z=0) && (!(decT z==2) || S (decX z))
section
variable {cs : Array Value} {V W : World} {L c mb n : Nat} {A1 : Option Addr} {cap1 : Nat} {wv : List Int} {A2 : Option Addr} {cap2 : Nat} {zs : List Int} {S : Int → Bool}
theorem iT (x:Int) (r:Bool) (hr:bq S x=r) (g12:∀u:ExtOf W,u.1.cell? ⟨L,12,none⟩=some (.map (some mb))) (HM:Pers W (fun w=>SetI w mb n S)) (hx:0≤x∧x < 18446744073709551616) (w0:World) (hw:Ext W w0):
  Calls Tryz.prog 177 #[.pointer (some ⟨L,0,none⟩),.int .u64 x] w0 fun e w'=>e= .returned (.bool r)∧Ext w0 w':=by
 revert g12 HM
 intro g12' HM'
 have g12:∀u:ExtOf w0,u.1.cell? ⟨L,12,none⟩=some (.map (some mb)):=fun u=>g12' ⟨u.1,hw.trans u.2⟩
 have HM:=HM'.re hw
 clear g12' HM' hw
 generalize w0=W at*
 obtain ⟨t,ht⟩:∃t,decT x=t:=⟨_,rfl⟩
 obtain ⟨y,hy⟩:∃t,decX x=t:=⟨_,rfl⟩
 obtain ⟨er,her⟩:∃t,decE x=t:=⟨_,rfl⟩
 have hbd:=yy hx.1 hx.2
 rw [ht,hy,her]at hbd
 have HR:Hid (bq S x=(decide (er=0) && (!(t==2) || S y))):=zH (by rw [bq,ht,hy,her])
 rw [←hr]
 have HT:=zH ht
 have HY:=zH hy
 have HE:=zH her
 have hyw:(Lit.int .i64 y).wf=true:=by simp [Lit.wf,IntKind.min,IntKind.max,IntKind.signed,IntKind.bits];omega
 have hlk:∀u:ExtOf W,(Instr.lookup 122 (.map (some mb)) (.int .i64 y) false).run Tryz.prog u.1= .ok (.bool (S y)) u.1:=fun u=>(HM.at u.2).look hyw
 have HLKP:=zH hlk
 have HX0:=zH hx
 clear ht hy her hyw hbd hr hlk hx
 refine aM (W:=W) fun uq=> ?_
 go_enter Tryz.func177,Tryz.ntmps177
 go_wp2_with fail
 (refine (vw x t y er HT.out HY.out HE.out _ HX0.out).mono ?_;rintro e w1 ⟨rfl,hx⟩;replace hx:=AF (a:=W) zE hx)
 have HV:=aG w1 #[.int .i64 t,.int .i64 y] 71 _ rfl
 replace hx:=hx.alloc (.cells #[.int .i64 t,.int .i64 y] 71)
 go_wp2_with fail
 generalize w1.alloc (.cells #[.int .i64 t,.int .i64 y] 71)=W1 at*
 generalize w1.heap.size=X at*
 have g1:=HV.cells
 have g2:∀u:ExtOf W1,u.1.cell? ⟨L,12,none⟩=some (.map (some mb)):=fun u=>g12 ⟨u.1,hx.trans u.2⟩
 have HX:=zH hx
 have hx1:=AD W1
 clear hx g12
 by_cases h0:er=0
 rotate_left
 ·have q0:(er==0)=false:=by rw [beq_eq_false_iff_ne];exact h0
  have HRR:Hid (bq S x=false):=zH (by rw [HR.out,decide_eq_false h0];rfl)
  clear h0
  (refine aC (W:=W1) kR kR aS ?_;(repeat (go_big_quiet_step (fail)));refine wpQuiet_nil ?_;intro w1 hx)
  (obtain ⟨uq,rfl⟩:∃u:ExtOf W1,w1=u.1:=⟨⟨w1,hx⟩,rfl⟩;clear hx;go_wp2_with fail)
  go_ret
  exact ⟨aD HRR.out.symm,HX.out.trans (AH _)⟩
 subst h0
 by_cases h2:t=2
 rotate_left
 ·have q2:(t !=2)=true:=by rw [bne_iff_ne];exact h2
  have HRR:Hid (bq S x=true):=zH (by rw [HR.out];simp [h2])
  clear h2
  (refine aC (W:=W1) kR kR aS ?_;(repeat (go_big_quiet_step (fail)));refine wpQuiet_nil ?_;intro w1 hx)
  (obtain ⟨uq,rfl⟩:∃u:ExtOf W1,w1=u.1:=⟨⟨w1,hx⟩,rfl⟩;clear hx;go_wp2_with fail)
  go_ret
  exact ⟨aD HRR.out.symm,HX.out.trans (AH _)⟩
 subst h2
 have HRR:Hid (bq S x=S y):=zH (by rw [HR.out];simp)
 have g3:∀u:ExtOf W1,(Instr.lookup 122 (.map (some mb)) (.int .i64 y) false).run Tryz.prog u.1= .ok (.bool (S y)) u.1:=fun u=>HLKP.out ⟨u.1,HX.out.trans u.2⟩
 (refine aC (W:=W1) kR kR aS ?_;(repeat (go_big_quiet_step (fail)));refine wpQuiet_nil ?_;intro w1 hx)
 (obtain ⟨uq,rfl⟩:∃u:ExtOf W1,w1=u.1:=⟨⟨w1,hx⟩,rfl⟩;clear hx;go_wp2_with fail)
 go_ret
 exact ⟨aD HRR.out.symm,HX.out.trans (AH _)⟩
end
def be (S:Int→Bool) (x:Bool×Int×Int):Bool:= !x.1 || bq S x.2.2
def bf (l:Option (List Int)) (S:Int→Bool) (x:Int):Bool:=(List.range (aK l x).f.toNat).all fun k=>bq S (fldZ l x k false)
theorem zU {ws:List Int} (h:∀z∈ws,0≤z∧z < 18446744073709551616) (i k:Int) (raw:Bool):0≤fldZ (some ws) i k raw∧fldZ (some ws) i k raw < 18446744073709551616:=by
 rw [fldZ]
 split
 ·rename_i h0
  have h1:=(lP h0).2.2.2.1
  obtain ⟨ws',he,h2,h3⟩:=gy h1
  injection he with he
  subst he
  rw [rdA,if_pos h1]
  simp only [Option.getD_some]
  exact h _ (aF oM)
 ·omega
section
variable {c0 c1 c2 c3 : Int} {sn : Bool} {wA : Option Addr} {ws : List Int} {wc : Nat} {top : Int} {tA : Option Addr} {tb : List (Int × Int)} {tc : Nat} {fA : Option Addr} {fr : List (Int × Int)} {fc : Nat} {sA : Option Addr} {sl : List (Bool × Int × Int)} {sc : Nat}
variable {V W : World} {L c mb n : Nat} {A1 : Option Addr} {cap1 : Nat} {wv : List Int} {A2 : Option Addr} {cap2 : Nat} {zs : List Int} {S : Int → Bool}
theorem mX (hLk:LkW V W L #[.int .i64 c0,.int .i64 c1,.int .i64 c2,.int .i64 c3,.bool sn,.slice wA ws.length wc,.int .i64 top,.slice tA tb.length tc,.slice fA fr.length fc,.slice sA sl.length sc] c mb n A1 cap1 wv A2 cap2 zs S) (HS:Pers V (fun w=>SlotsAt w sA sl)) (hlen:sl.length≤98304) (hbd:∀x∈sl,0≤x.2.2∧x.2.2 < 18446744073709551616):
  Calls Tryz.prog 148 #[.pointer (some ⟨L,0,none⟩)] W fun e w'=>e= .returned (.bool (sl.all (be S)))∧Ext W w':=by
 have hB:Pers W (fun w=>w.heap[L]?=some (.cells #[.int .i64 c0,.int .i64 c1,.int .i64 c2,.int .i64 c3,.bool sn,.slice wA ws.length wc,.int .i64 top,.slice tA tb.length tc,.slice fA fr.length fc,.slice sA sl.length sc,.pointer (some ⟨c,0,none⟩),.slice A2 zs.length cap2,.map (some mb)] 124 (0,0))):=fun w k=>(hLk.grow k).blk
 have HM:Pers W (fun w=>SetI w mb n S):=fun w k=>(hLk.grow k).st
 have HSW:=HS.re hLk.ext
 have HBD:=zH hbd
 have g:=hB.cells
 clear hLk hbd
 refine aM (W:=W) fun uq=> ?_
 go_enter Tryz.func148,Tryz.ntmps148
 go_wp2_with fail
 go_loopw [4,11] (fun _ i wr=>∃k:Nat,k≤sl.length∧i= .int .i64 k∧Ext W wr∧Hid (∀i,i < k→be S (sl.getD i (false,0,0))=true)) (fun _ i _=>sl.length - (intOf i).toNat)
 case atStart=>exact ⟨0,by omega,rfl,uq.2,zH oM⟩
 case round=>
  obtain ⟨k,hk,rfl,hxr,hq⟩:=hrel
  obtain ⟨uq,rfl⟩:∃u:ExtOf W,wr=u.1:=⟨⟨wr,hxr⟩,rfl⟩
  clear hxr
  by_cases hlt:k < sl.length
  rotate_left
  ·have HA:Hid (sl.all (be S)=true):=zH (d9 fun i hi=>hq.out i oM)
   clear hq
   go_wp2_with fail
   go_ret
   exact ⟨aD HA.out.symm,uq.2⟩
  obtain ⟨lb,off,rfl,hc⟩:=(HSW.at uq.2).get oM
  obtain ⟨c1',c2',c3'⟩:=dC hc hlt
  have hzb:=HBD.out _ (aF (d:=(false,0,0)) hlt)
  have ib1:(k:Int) < (sl.length:Int):=by omega
  have HY:=zH (fun (h:be S (sl.getD k (false,0,0))=true)=>upTo hq.out h)
  have HNO:=zH (fun (h:be S (sl.getD k (false,0,0))=false)=>cg (p:=be S) hlt h)
  clear hc hq
  generalize sl.getD k (false,0,0)=x at*
  obtain ⟨b,y,z⟩:=x
  simp only at c1' c2' c3' hzb
  obtain ⟨r,hr⟩:∃r,bq S z=r:=⟨_,rfl⟩
  have HR:=zH hr
  have HHB:Hid (be S (b,y,z)=(!b || r)):=zH (by simp only [be,hr])
  have HZB:=zH hzb
  clear hr hzb
  cases b
  ·have HYY:=zH (HY.out (by rw [HHB.out];rfl))
   go_wp2_with fail
   go_roundw
   case rel=>exact ⟨k+1,by omega,by go_num,uq.2.alloc _,HYY⟩
   case measure=>simp [intOf];omega
  ·have hS:=aG uq.1 #[.bool true,.int .i64 y,.int .u64 z] 73 _ rfl
   have hx:=uq.2.alloc (.cells #[.bool true,.int .i64 y,.int .u64 z] 73)
   go_wp2_with fail
   generalize uq.1.alloc (.cells #[.bool true,.int .i64 y,.int .u64 z] 73)=W1 at*
   generalize uq.1.heap.size=X at*
   have HX:=zH hx
   have g1:=hS.cells
   have hB1:=hB.re hx
   have HM1:=HM.re hx
   clear g hx c1' c2' c3'
   cases r
   ·((first | refine aM (W:=W1) ?_ | refine aT (W:=W1) ?_);intro uq;(try go_wp2_with fail))
    (refine (iT z _ HR.out (fun u=>hB1.cells u 12) HM1 HZB.out _ zE).mono ?_;rintro e wq ⟨rfl,hx⟩;replace hx:=AF (a:=W1) zE hx;obtain ⟨uq,rfl⟩:∃u:ExtOf W1,wq=u.1:=⟨⟨wq,hx⟩,rfl⟩;clear hx;go_wp2_with fail)
    go_ret
    exact ⟨aD (HNO.out (by rw [HHB.out];rfl)).symm,HX.out.trans (AH _)⟩
   ·((first | refine aM (W:=W1) ?_ | refine aT (W:=W1) ?_);intro uq;(try go_wp2_with fail))
    (refine (iT z _ HR.out (fun u=>hB1.cells u 12) HM1 HZB.out _ zE).mono ?_;rintro e wq ⟨rfl,hx⟩;replace hx:=AF (a:=W1) zE hx;obtain ⟨uq,rfl⟩:∃u:ExtOf W1,wq=u.1:=⟨⟨wq,hx⟩,rfl⟩;clear hx;go_wp2_with fail)
    go_roundw
    case rel=>exact ⟨k+1,by omega,by go_num,HX.out.trans (AH _),zH (HY.out (by rw [HHB.out];rfl))⟩
    case measure=>simp [intOf];omega
end
theorem mz (p:Option Addr) (l:Option (List Int)) (i k z er:Int) (h1:fldZ l i k false=z) (h2:placeE l i k false=er) (V:World) (hp:ArP V p l) (hi: -9223372036854775808≤i∧i≤9223372036854775807):
  Calls Tryz.prog 176 #[.pointer p,.int .i64 i,.int .i64 k] V fun e w'=>e= .returned (.tuple #[.int .u64 z,.int .i64 er])∧Ext V w':=by
 rw [←h1,←h2];exact rq p l i k V hp hi
section
variable {c0 c1 c2 c3 : Int} {sn : Bool} {wA : Option Addr} {ws : List Int} {wc : Nat} {top : Int} {tA : Option Addr} {tb : List (Int × Int)} {tc : Nat} {fA : Option Addr} {fr : List (Int × Int)} {fc : Nat} {sA : Option Addr} {sl : List (Bool × Int × Int)} {sc : Nat}
variable {V W : World} {L c mb n : Nat} {A1 : Option Addr} {cap1 : Nat} {wv : List Int} {A2 : Option Addr} {cap2 : Nat} {zs : List Int} {S : Int → Bool}
theorem ot (hLk:LkW V W L #[.int .i64 c0,.int .i64 c1,.int .i64 c2,.int .i64 c3,.bool sn,.slice wA ws.length wc,.int .i64 top,.slice tA tb.length tc,.slice fA fr.length fc,.slice sA sl.length sc] c mb n A1 cap1 wv A2 cap2 zs S) (R:Bool) (hR1:R=true→∀x,S x=true→bf (some wv) S x=true) (hR2:(∀x,S x=true→bf (some wv) S x=true)→R=true):
  Calls Tryz.prog 147 #[.pointer (some ⟨L,0,none⟩)] W fun e w'=>e= .returned (.bool R)∧Ext W w':=by
 have hB:Pers W (fun w=>w.heap[L]?=some (.cells #[.int .i64 c0,.int .i64 c1,.int .i64 c2,.int .i64 c3,.bool sn,.slice wA ws.length wc,.int .i64 top,.slice tA tb.length tc,.slice fA fr.length fc,.slice sA sl.length sc,.pointer (some ⟨c,0,none⟩),.slice A2 zs.length cap2,.map (some mb)] 124 (0,0))):=fun w k=>(hLk.grow k).blk
 have HAR:Pers W (fun w=>ArP w (some ⟨c,0,none⟩) (some wv)):=fun w k=>(hLk.grow k).ar.p
 have HM:Pers W (fun w=>SetI w mb n S):=fun w k=>(hLk.grow k).st
 have HFB:=zH (fun i k=>zU hLk.ar.bd i k false)
 have H1:=zH hR1
 have H2:=zH hR2
 have g:=hB.cells
 clear hLk hR1 hR2
 refine aM (W:=W) fun uq=> ?_
 go_enter Tryz.func147,Tryz.ntmps147
 go_wp2_with (first | (at_range;refine jY rfl (.tmp 12) rfl (HM.at uq.2) rfl ?_;intro w0 cnt hrg hx0;have HRG:=zH hrg;have HX0:=zH (uq.2.trans hx0);clear hrg hx0) | go_in)
 go_frame
 have hr0:W.heap.size≤uq.1.heap.size:=uq.2.size
 generalize uq.1.heap.size=r at*
 go_loopw [3,4,5,6,7,8,29] (fun _ _ _ _ _ _ _ wr=>∃(left:Int→Bool) (cnt:Nat),Hid (RngI wr mb r n S left cnt)∧Ext W wr∧Hid (∀x,S x=true→left x=false→bf (some wv) S x=true)∧Hid (∀x,left x=true→S x=true)) (fun _ _ _ _ _ _ _ wr=>wr.rangeLeft mb r)
 case atStart=>exact ⟨S,cnt,HRG,HX0.out,zH (fun x h1 h2=>by rw [h1]at h2;cases h2),zH (fun x h=>h)⟩
 case round=>
  obtain ⟨left,cnt',HR,hxr,HF,HLS⟩:=hrel
  clear HRG
  have HXR:=zH hxr
  clear hxr
  go_wp2_with (first | (at_next;refine jy rfl (.tmp 13) rfl rfl HR.out ?_ ?_) | go_in)
  ·intro hl0
   have HT:=zH (H2.out fun x hx=>HF.out x hx (hl0 x))
   clear hl0
   go_wp2_with fail
   go_ret
   exact ⟨aD HT.out.symm,HXR.out⟩
  intro x w1 cnt1 hwx hlx hrg1 hlt hg1 hs1 hen
  have hx1:Ext W w1:=Below.grown HXR.out hg1 HXR.out.size (fun k hk=>by injection hk with hk;omega)
  have HRG1:=hrg1.pers
  have hlf:=HR.out.left_eq
  have HLE:=zH hlf
  have HLT:=zH hlt
  have hxb: -9223372036854775808≤x∧x≤9223372036854775807:=vJ hwx
  have HSX:=zH (HLS.out x hlx)
  obtain ⟨er,her⟩:∃e,aU (some wv) x=e:=⟨_,rfl⟩
  obtain ⟨h,hh⟩:∃h,aK (some wv) x=h:=⟨_,rfl⟩
  have hfb:0≤h.f∧h.f≤4096:=by
   by_cases h0:aU (some wv) x=0
   ·have:=ft h0;rw [hh]at this;omega
   ·have h2:=cW rfl h0
    rw [hh]at h2
    rw [h2];exact ⟨by decide,by decide⟩
  obtain ⟨hf1,hf2⟩:=hfb
  have HER:=zH her
  have HH:=zH hh
  have HX1:=zH hx1
  clear hrg1 hlt hg1 hs1 hwx hlx her hlf g hx1
  replace hB:=hB.re HX1.out
  replace HAR:=HAR.re HX1.out
  replace HM:=HM.re HX1.out
  have g1:=(aB hB.here).1
  clear HR
  go_wp2_with fail
  (refine (fC (some ⟨c,0,none⟩) (some wv) x h er HH.out HER.out _ (HAR.at zE) hxb).mono ?_;rintro e w2 ⟨rfl,hx⟩;replace hx:=AF (a:=w1) zE hx)
  have HBH:=aG w2 #[.int .i64 h.k,.int .i64 h.f,.int .i64 h.r,.bool h.m,.int .i64 h.c] 85 _ rfl
  replace hx:=hx.alloc (.cells #[.int .i64 h.k,.int .i64 h.f,.int .i64 h.r,.bool h.m,.int .i64 h.c] 85)
  clear hen g1
  go_wp2_with fail
  generalize w2.alloc (.cells #[.int .i64 h.k,.int .i64 h.f,.int .i64 h.r,.bool h.m,.int .i64 h.c] 85)=W3 at*
  generalize w2.heap.size=X at*
  (replace hB:=hB.re hx;replace HAR:=HAR.re hx;replace HM:=HM.re hx;replace HRG1:=HRG1.re hx)
  have HX3:=zH (HX1.out.trans hx)
  have g:=hB.cells
  clear hx HBH
  have hx3:=AD W3
  go_loopw [6,7,8,29] (fun _ _ _ i wr=>∃k:Nat,i= .int .i64 k∧(k:Int)≤h.f∧Ext W3 wr∧Hid (∀j:Nat,j < k→bq S (fldZ (some wv) x j false)=true)) (fun _ _ _ i _=>(h.f - intOf i).toNat)
  case atStart=>exact ⟨0,rfl,by omega,hx3,zH oM⟩
  case round=>
   obtain ⟨k,rfl,hk,hxr,hq⟩:=hrel
   obtain ⟨uq,rfl⟩:∃u:ExtOf W3,wr=u.1:=⟨⟨wr,hxr⟩,rfl⟩
   clear hxr
   by_cases hlt:(k:Int) < h.f
   rotate_left
   ·have d1:decide ((k:Int) < h.f)=false:=by simpa using hlt
    have HFO:Hid (bf (some wv) S x=true):=zH (by
     rw [bf,HH.out,List.all_eq_true]
     intro j hj
     exact hq.out j (by have:=List.mem_range.1 hj;omega))
    have HRG4:=zH (HRG1.at uq.2)
    have HX4:=zH (HX3.out.trans uq.2)
    have HF4:Hid (∀y,S y=true→(left y && !(y==x))=false→bf (some wv) S y=true):=zH (fun y hy hl=>by
     by_cases e:y=x
     ·rw [e];exact HFO.out
     ·refine HF.out y hy ?_
      have h0:(y==x)=false:=by rw [beq_eq_false_iff_ne];exact e
      simpa [h0]using hl)
    have HL4:Hid (∀y,(left y && !(y==x))=true→S y=true):=zH (fun y hy=>HLS.out y (by
     simp only [Bool.and_eq_true]at hy;exact hy.1))
    clear hq hlt hk
    go_wp2_with fail
    go_roundw
    case rel=>exact ⟨_,cnt1,HRG4,HX4.out,HF4,HL4⟩
    case measure=>rw [HRG4.out.left_eq,HLE.out];exact HLT.out
   have d1:decide ((k:Int) < h.f)=true:=by simpa using hlt
   obtain ⟨z,hz⟩:∃z,fldZ (some wv) x k false=z:=⟨_,rfl⟩
   obtain ⟨er2,her2⟩:∃z,placeE (some wv) x k false=z:=⟨_,rfl⟩
   obtain ⟨r,hr⟩:∃r,bq S z=r:=⟨_,rfl⟩
   have hzb:=HFB.out x k
   rw [hz]at hzb
   have HZ:=zH hz
   have HE2:=zH her2
   have HR:=zH hr
   have HZB:=zH hzb
   clear hz her2 hr hzb
   cases r
   ·have HRF : Hid (R = false) := zH (by
     cases hR:R
     ·rfl
     ·have h0:=H1.out hR x HSX.out
      rw [bf,HH.out,List.all_eq_true]at h0
      have h2:=h0 k (List.mem_range.2 oM)
      rw [HZ.out,HR.out]at h2
      cases h2)
    go_wp2_with fail
    (refine (mz (some ⟨c,0,none⟩) (some wv) x k z er2 HZ.out HE2.out _ (HAR.at zE) hxb).mono ?_;rintro e wq ⟨rfl,hx⟩;replace hx:=AF (a:=W3) zE hx;obtain ⟨uq,rfl⟩:∃u:ExtOf W3,wq=u.1:=⟨⟨wq,hx⟩,rfl⟩;clear hx;go_wp2_with fail)
    (refine (iT z _ HR.out (fun u=>hB.cells u 12) HM HZB.out _ zE).mono ?_;rintro e wq ⟨rfl,hx⟩;replace hx:=AF (a:=W3) zE hx;obtain ⟨uq,rfl⟩:∃u:ExtOf W3,wq=u.1:=⟨⟨wq,hx⟩,rfl⟩;clear hx;go_wp2_with fail)
    go_ret
    exact ⟨aD HRF.out.symm,HX3.out.trans (AH _)⟩
   ·have HQ : Hid (∀ j : Nat, j < k + 1 → bq S (fldZ (some wv) x j false) = true) := zH (fun j hj => by
     rcases Nat.lt_or_ge j k with h' | h'
     ·exact hq.out j h'
     ·obtain rfl:j=k:=by omega
      rw [HZ.out];exact HR.out)
    clear hq
    go_wp2_with fail
    (refine (mz (some ⟨c,0,none⟩) (some wv) x k z er2 HZ.out HE2.out _ (HAR.at zE) hxb).mono ?_;rintro e wq ⟨rfl,hx⟩;replace hx:=AF (a:=W3) zE hx;obtain ⟨uq,rfl⟩:∃u:ExtOf W3,wq=u.1:=⟨⟨wq,hx⟩,rfl⟩;clear hx;go_wp2_with fail)
    (refine (iT z _ HR.out (fun u=>hB.cells u 12) HM HZB.out _ zE).mono ?_;rintro e wq ⟨rfl,hx⟩;replace hx:=AF (a:=W3) zE hx;obtain ⟨uq,rfl⟩:∃u:ExtOf W3,wq=u.1:=⟨⟨wq,hx⟩,rfl⟩;clear hx;go_wp2_with fail)
    go_roundw
    case rel=>exact ⟨k+1,by go_num,by omega,AH _,HQ⟩
    case measure=>simp [intOf];omega
end
def smallsL (c0 c1 c2 c3:Int) (sn:Bool) (ws:List Int) (top:Int):List Int:=bn (some ws) (bL c0 c1 c2 c3 sn) (bO c0 c1 c2 c3) top
def bh (zs:List Int) (tb:List (Int×Int)):Int→Bool:=fun x=>decide (x∈zs) || decide (x∈tb.map (·.1))
noncomputable def qS (c0 c1 c2 c3:Int) (sn:Bool) (ws:List Int) (top:Int) (tb fr:List (Int×Int)) (sl:List (Bool×Int×Int)):List Bool:=
 [cfgB c0 c1 c2 c3,decide ((ws.length:Int)=cZ c0 c1 c2 c3),topB c0 c1 c2 c3 sn top,decide (bN (some ws) (bL c0 c1 c2 c3 sn) (bO c0 c1 c2 c3) top=0),(smallsL c0 c1 c2 c3 sn ws top).all (ce (some ws) c0 c1 c2 c3),
  ledR (bE c0 c1 c2 c3) (bC c0 c1 c2 c3) tb fr && tb.all (cF (some ws) c0 c1 c2 c3),bQ sl c2,(smallsL c0 c1 c2 c3 sn ws top++tb.map (·.1)).all (bf (some ws) (bh (smallsL c0 c1 c2 c3 sn ws top) tb)),
  sl.all (be (bh (smallsL c0 c1 c2 c3 sn ws top) tb))]
def eF (rs:List Bool):Int:=match rs.findIdx? (fun b=> !b)with
 | some i=>i+1
 | none=>0
noncomputable def checkZ (c0 c1 c2 c3:Int) (sn:Bool) (ws:List Int) (top:Int) (tb fr:List (Int×Int)) (sl:List (Bool×Int×Int)):Int:=eF (qS c0 c1 c2 c3 sn ws top tb fr sl)
theorem qT {rs:List Bool} {k:Nat} (hk:k < rs.length) (h:∀j,j < k→rs.getD j true=true) (h0:rs.getD k true=false):eF rs=k+1:=by
 have:rs.findIdx? (fun b=> !b)=some k:=by
  rw [List.findIdx?_eq_some_iff_getElem]
  refine ⟨hk,by simpa [hk]using h0,fun j hj=> ?_⟩
  have:=h j hj
  simpa [show j < rs.length by omega]using this
 rw [eF,this]
theorem rx {rs:List Bool} (h:∀j,j < rs.length→rs.getD j true=true):eF rs=0:=by
 have:rs.findIdx? (fun b=> !b)=none:=by
  rw [List.findIdx?_eq_none_iff]
  intro x hx
  obtain ⟨i,hi,rfl⟩:=List.getElem_of_mem hx
  have:=h i hi
  simpa [hi]using this
 rw [eF,this]
def nB:Array Value:= #[.func (.func 79) #[] #[],.func (.func 142) #[] #[],.func (.func 80) #[] #[],.func (.func 143) #[] #[],.func (.func 144) #[] #[],.func (.func 145) #[] #[],.func (.func 146) #[] #[],.func (.func 147) #[] #[],.func (.func 148) #[] #[]]
theorem uR (w:World):Calls Tryz.prog 105 #[] w fun e w'=>e= .returned (.slice (some ⟨w.heap.size,0,none⟩) 9 9)∧w'=w.alloc (.cells nB 153):=by
 go_enter Tryz.func105,Tryz.ntmps105
 go_wp2
 go_ret
 exact ⟨rfl,rfl⟩
def JLk (V:World) (cs:Array Value) (L k:Nat) (ws zs:List Int) (tb:List (Int×Int)) (W:World):Prop:=
 (k≤3∧W.heap[L]?=some (.cells (cs++ #[.pointer none,.slice none 0 0,.map none]) 124 (0,0)))∨
 (4≤k∧∃c mb n A1 cap1 A2 cap2,V.heap.size≤mb∧n≤2199023255553+98304∧(k≤5→n≤2199023255553)∧LkW V W L cs c mb n A1 cap1 ws A2 cap2 zs (if k≤5 then fun x=>decide (x∈zs)else bh zs tb))
structure JSt (V:World) (cs:Array Value) (L R k:Nat) (ws zs:List Int) (tb:List (Int×Int)) (rs:List Bool) (W:World):Prop where
 ext:Ext V W
 low:V.heap.size≤L
 rul:W.heap[R]?=some (.cells nB 153 (0,0))
 ne:R≠L
 lk:JLk V cs L k ws zs tb W
 ok:∀j,j < k→rs.getD j true=true
theorem JSt.grow {V:World} {cs:Array Value} {L R k:Nat} {ws zs:List Int} {tb:List (Int×Int)} {rs:List Bool} {W W':World} (h:JSt V cs L R k ws zs tb rs W) (hx:Ext W W'):JSt V cs L R k ws zs tb rs W':=
 ⟨h.ext.trans hx,h.low,(hx.block (aA h.rul)).trans h.rul,h.ne,h.lk.imp (fun h=>⟨h.1,(hx.block (aA h.2)).trans h.2⟩) (fun ⟨h0,c,mb,n,A1,cap1,A2,cap2,h1,h2,h3,h4⟩=>⟨h0,c,mb,n,A1,cap1,A2,cap2,h1,h2,h3,h4.grow hx⟩),h.ok⟩
theorem JSt.next {V:World} {cs:Array Value} {L R k:Nat} {ws zs:List Int} {tb:List (Int×Int)} {rs:List Bool} {W:World} (h:JSt V cs L R k ws zs tb rs W) (h3:k≠3) (h5:k≠5) (hr:rs.getD k true=true):JSt V cs L R (k+1) ws zs tb rs W:=
 ⟨h.ext,h.low,h.rul,h.ne,h.lk.imp (fun h=>⟨by omega,h.2⟩) (fun ⟨h0,c,mb,n,A1,cap1,A2,cap2,h1,h2,h4,h6⟩=>⟨by omega,c,mb,n,A1,cap1,A2,cap2,h1,h2,fun hk=>h4 oM,by
  by_cases hk:k≤5
  ·rw [if_pos hk]at h6;rw [if_pos oM];exact h6
  ·rw [if_neg hk]at h6;rw [if_neg oM];exact h6⟩),fun j hj=>by
  rcases Nat.lt_or_ge j k with h' | h'
  ·exact h.ok j h'
  ·obtain rfl:j=k:=by omega
   exact hr⟩
section
variable {c0 c1 c2 c3 : Int} {sn : Bool} {wA : Option Addr} {ws : List Int} {wc : Nat} {top : Int} {tA : Option Addr} {tb : List (Int × Int)} {tc : Nat} {fA : Option Addr} {fr : List (Int × Int)} {fc : Nat} {sA : Option Addr} {sl : List (Bool × Int × Int)} {sc : Nat}
def RetJ (V:World) (cs:Array Value) (n:Int) (ws zs:List Int) (tb:List (Int×Int)) (e:Ending) (w':World):Prop:=
 ∃L,e= .returned (.tuple #[.pointer (some ⟨L,0,none⟩),.int .i64 n])∧Ext V w'∧(n=0→∃c mb k A1 cap1 A2 cap2,LkW V w' L cs c mb k A1 cap1 ws A2 cap2 zs (bh zs tb))
theorem nC (V:World) (HW:Pers V (fun w=>WordsAt w wA ws)) (HT:Pers V (fun w=>SpansAt w tA tb)) (HF:Pers V (fun w=>SpansAt w fA fr)) (HS:Pers V (fun w=>SlotsAt w sA sl)) (hwl:ws.length≤98304) (htl:tb.length≤98304) (hfl:fr.length≤98304) (hsl:sl.length≤98304)
  (hwb:∀z∈ws,0≤z∧z < 18446744073709551616) (htb:∀x∈tb,(-9223372036854775808≤x.1∧x.1≤9223372036854775807)) (hsb:∀x∈sl,0≤x.2.2∧x.2.2 < 18446744073709551616):
  Calls Tryz.prog 62 #[.agg #[.int .i64 c0,.int .i64 c1,.int .i64 c2,.int .i64 c3,.bool sn,.slice wA ws.length wc,.int .i64 top,.slice tA tb.length tc,.slice fA fr.length fc,.slice sA sl.length sc]] V (RetJ V #[.int .i64 c0,.int .i64 c1,.int .i64 c2,.int .i64 c3,.bool sn,.slice wA ws.length wc,.int .i64 top,.slice tA tb.length tc,.slice fA fr.length fc,.slice sA sl.length sc] (checkZ c0 c1 c2 c3 sn ws top tb fr sl) ws (smallsL c0 c1 c2 c3 sn ws top) tb):=by
 have hzb:=fun x (h:x∈smallsL c0 c1 c2 c3 sn ws top)=>od (l:=some ws) (a:=bL c0 c1 c2 c3 sn) (s:=bO c0 c1 c2 c3) (top:=top) h
 have hzl:(smallsL c0 c1 c2 c3 sn ws top).length≤2199023255553:=hP (some ws) (bL c0 c1 c2 c3 sn) (bO c0 c1 c2 c3) top
 obtain ⟨zs,hz⟩:∃zs,smallsL c0 c1 c2 c3 sn ws top=zs:=⟨_,rfl⟩
 obtain ⟨rs,hrs⟩:∃rs,qS c0 c1 c2 c3 sn ws top tb fr sl=rs:=⟨_,rfl⟩
 rw [hz]at hzb hzl
 have HRS:=zH hrs
 have hRL:rs.length=9:=by rw [←hrs];rfl
 have HRL:=zH hRL
 have HCK:Hid (checkZ c0 c1 c2 c3 sn ws top tb fr sl=eF rs):=zH (by rw [checkZ,hrs])
 rw [HCK.out,hz]
 have HZ:=zH hz
 have HZB:=zH hzb
 have HWB:=zH hwb
 have HTB:=zH htb
 have HSB:=zH hsb
 have hL0:=b8 (o2:= .cells nB 153) (aR (V.alloc (.cells #[.int .i64 c0,.int .i64 c1,.int .i64 c2,.int .i64 c3,.bool sn,.slice wA ws.length wc,.int .i64 top,.slice tA tb.length tc,.slice fA fr.length fc,.slice sA sl.length sc] 34)) #[.int .i64 c0,.int .i64 c1,.int .i64 c2,.int .i64 c3,.bool sn,.slice wA ws.length wc,.int .i64 top,.slice tA tb.length tc,.slice fA fr.length fc,.slice sA sl.length sc,.pointer none,.slice none 0 0,.map none] 124 (V.heap.size+1) sM)
 have hR0:=aR ((V.alloc (.cells #[.int .i64 c0,.int .i64 c1,.int .i64 c2,.int .i64 c3,.bool sn,.slice wA ws.length wc,.int .i64 top,.slice tA tb.length tc,.slice fA fr.length fc,.slice sA sl.length sc] 34)).alloc (.cells #[.int .i64 c0,.int .i64 c1,.int .i64 c2,.int .i64 c3,.bool sn,.slice wA ws.length wc,.int .i64 top,.slice tA tb.length tc,.slice fA fr.length fc,.slice sA sl.length sc,.pointer none,.slice none 0 0,.map none] 124)) nB 153 (V.heap.size+1+1) sM
 have hX0:=(((AD V).alloc (.cells #[.int .i64 c0,.int .i64 c1,.int .i64 c2,.int .i64 c3,.bool sn,.slice wA ws.length wc,.int .i64 top,.slice tA tb.length tc,.slice fA fr.length fc,.slice sA sl.length sc] 34)).alloc (.cells #[.int .i64 c0,.int .i64 c1,.int .i64 c2,.int .i64 c3,.bool sn,.slice wA ws.length wc,.int .i64 top,.slice tA tb.length tc,.slice fA fr.length fc,.slice sA sl.length sc,.pointer none,.slice none 0 0,.map none] 124)).alloc (.cells nB 153)
 have HJ0:Hid (JSt V #[.int .i64 c0,.int .i64 c1,.int .i64 c2,.int .i64 c3,.bool sn,.slice wA ws.length wc,.int .i64 top,.slice tA tb.length tc,.slice fA fr.length fc,.slice sA sl.length sc] (V.heap.size+1) (V.heap.size+1+1) 0 ws zs tb rs _):=zH ⟨hX0,by omega,hR0,by omega,.inl ⟨by omega,hL0⟩,by omega⟩
 clear hz hrs hRL hzb hwb htb hsb hL0 hR0 hX0
 go_enter Tryz.func62,Tryz.ntmps62
 go_wp2_with fail
 refine (uR _).mono ?_
 rintro e w1 ⟨rfl,rfl⟩
 go_wp2_with fail
 generalize ((V.alloc (.cells #[.int .i64 c0,.int .i64 c1,.int .i64 c2,.int .i64 c3,.bool sn,.slice wA ws.length wc,.int .i64 top,.slice tA tb.length tc,.slice fA fr.length fc,.slice sA sl.length sc] 34)).alloc (.cells #[.int .i64 c0,.int .i64 c1,.int .i64 c2,.int .i64 c3,.bool sn,.slice wA ws.length wc,.int .i64 top,.slice tA tb.length tc,.slice fA fr.length fc,.slice sA sl.length sc,.pointer none,.slice none 0 0,.map none] 124)).alloc (.cells nB 153)=W0 at*
 generalize V.heap.size+1+1=R at*
 generalize V.heap.size+1=L at*
 go_loopw [5,6,12] (fun _ _ i wr=>∃k:Nat,k≤9∧i= .int .i64 k∧Hid (JSt V #[.int .i64 c0,.int .i64 c1,.int .i64 c2,.int .i64 c3,.bool sn,.slice wA ws.length wc,.int .i64 top,.slice tA tb.length tc,.slice fA fr.length fc,.slice sA sl.length sc] L R k ws zs tb rs wr)) (fun _ _ i _=>9 - (intOf i).toNat)
 case atStart=>exact ⟨0,by omega,rfl,HJ0⟩
 case round=>
  obtain ⟨k,hk,rfl,HJ⟩:=hrel
  clear HJ0
  have hk9:k=0∨k=1∨k=2∨k=3∨k=4∨k=5∨k=6∨k=7∨k=8∨k=9:=by omega
  have gR:=(aB HJ.out.rul).1 k
  have HNO:=zH (fun (w':World) (n:Nat) (hn:n=k+1) (hk:k < 9) (h:rs.getD k true=false) (hx:Ext V w')=>(show RetJ V #[.int .i64 c0,.int .i64 c1,.int .i64 c2,.int .i64 c3,.bool sn,.slice wA ws.length wc,.int .i64 top,.slice tA tb.length tc,.slice fA fr.length fc,.slice sA sl.length sc] (eF rs) ws zs tb (.returned (.tuple #[.pointer (some ⟨L,0,none⟩),.int .i64 (n:Int)])) w' from ⟨L,by rw [qT (by rw [HRL.out];exact hk) HJ.out.ok h,hn];rfl,hx,fun h0=>by rw [qT (by rw [HRL.out];exact hk) HJ.out.ok h]at h0;omega⟩))
  rcases hk9 with rfl | rfl | rfl | rfl | rfl | rfl | rfl | rfl | rfl | rfl
  ·
   replace gR:wr.cell? ⟨R,0,none⟩=some (.func (.func 79) #[] #[]):=gR
   have hb:=HJ.out.lk.elim (fun h=>h.2) (fun h=>absurd h.1 dM)
   obtain ⟨b,hbv⟩:∃b,(cfgB c0 c1 c2 c3)=b:=⟨_,rfl⟩
   have HRK:Hid (rs.getD 0 true=b):=zH (by rw [←HRS.out,←hbv];rfl)
   have HBV:=zH hbv
   clear hbv
   have Z:=oe (aP hb)
   rw [HBV.out]at Z
   cases b
   ·go_wp2_with fail
    refine Z.mono ?_
    clear Z
    rintro e w2 ⟨rfl,hx⟩
    have HX2:=zH hx
    clear hx
    clear gR hb
    go_wp2_with fail
    go_ret2
    exact HNO.out _ 1 rfl dM HRK.out (HJ.out.ext.trans HX2.out)
   ·go_wp2_with fail
    refine Z.mono ?_
    clear Z
    rintro e w2 ⟨rfl,hx⟩
    have HX2:=zH hx
    clear hx
    clear gR hb
    go_wp2_with fail
    have HJ2:Hid (JSt V #[.int .i64 c0,.int .i64 c1,.int .i64 c2,.int .i64 c3,.bool sn,.slice wA ws.length wc,.int .i64 top,.slice tA tb.length tc,.slice fA fr.length fc,.slice sA sl.length sc] L R 1 ws zs tb rs w2):=zH ((HJ.out.grow HX2.out).next dM dM HRK.out)
    go_roundw
    case rel=>exact ⟨1,by omega,by first | rfl | go_num,HJ2⟩
    case measure=>simp [intOf]
  ·
   replace gR:wr.cell? ⟨R,1,none⟩=some (.func (.func 142) #[] #[]):=gR
   have hb:=HJ.out.lk.elim (fun h=>h.2) (fun h=>absurd h.1 dM)
   obtain ⟨b,hbv⟩:∃b,(decide ((ws.length:Int)=cZ c0 c1 c2 c3))=b:=⟨_,rfl⟩
   have HRK:Hid (rs.getD 1 true=b):=zH (by rw [←HRS.out,←hbv];rfl)
   have HBV:=zH hbv
   clear hbv
   have Z:=qO (aP hb) oM
   rw [HBV.out]at Z
   cases b
   ·go_wp2_with fail
    refine Z.mono ?_
    clear Z
    rintro e w2 ⟨rfl,hx⟩
    have HX2:=zH hx
    clear hx
    clear gR hb
    go_wp2_with fail
    go_ret2
    exact HNO.out _ 2 rfl dM HRK.out (HJ.out.ext.trans HX2.out)
   ·go_wp2_with fail
    refine Z.mono ?_
    clear Z
    rintro e w2 ⟨rfl,hx⟩
    have HX2:=zH hx
    clear hx
    clear gR hb
    go_wp2_with fail
    have HJ2:Hid (JSt V #[.int .i64 c0,.int .i64 c1,.int .i64 c2,.int .i64 c3,.bool sn,.slice wA ws.length wc,.int .i64 top,.slice tA tb.length tc,.slice fA fr.length fc,.slice sA sl.length sc] L R 2 ws zs tb rs w2):=zH ((HJ.out.grow HX2.out).next dM dM HRK.out)
    go_roundw
    case rel=>exact ⟨2,by omega,by first | rfl | go_num,HJ2⟩
    case measure=>simp [intOf]
  ·
   replace gR:wr.cell? ⟨R,2,none⟩=some (.func (.func 80) #[] #[]):=gR
   have hb:=HJ.out.lk.elim (fun h=>h.2) (fun h=>absurd h.1 dM)
   obtain ⟨b,hbv⟩:∃b,(topB c0 c1 c2 c3 sn top)=b:=⟨_,rfl⟩
   have HRK:Hid (rs.getD 2 true=b):=zH (by rw [←HRS.out,←hbv];rfl)
   have HBV:=zH hbv
   clear hbv
   have Z:=uM (aP hb)
   rw [HBV.out]at Z
   cases b
   ·go_wp2_with fail
    refine Z.mono ?_
    clear Z
    rintro e w2 ⟨rfl,hx⟩
    have HX2:=zH hx
    clear hx
    clear gR hb
    go_wp2_with fail
    go_ret2
    exact HNO.out _ 3 rfl dM HRK.out (HJ.out.ext.trans HX2.out)
   ·go_wp2_with fail
    refine Z.mono ?_
    clear Z
    rintro e w2 ⟨rfl,hx⟩
    have HX2:=zH hx
    clear hx
    clear gR hb
    go_wp2_with fail
    have HJ2:Hid (JSt V #[.int .i64 c0,.int .i64 c1,.int .i64 c2,.int .i64 c3,.bool sn,.slice wA ws.length wc,.int .i64 top,.slice tA tb.length tc,.slice fA fr.length fc,.slice sA sl.length sc] L R 3 ws zs tb rs w2):=zH ((HJ.out.grow HX2.out).next dM dM HRK.out)
    go_roundw
    case rel=>exact ⟨3,by omega,by first | rfl | go_num,HJ2⟩
    case measure=>simp [intOf]
  ·
   replace gR:wr.cell? ⟨R,3,none⟩=some (.func (.func 143) #[] #[]):=gR
   have hb:=HJ.out.lk.elim (fun h=>h.2) (fun h=>absurd h.1 dM)
   obtain ⟨b,hbv⟩:∃b,(decide (bN (some ws) (bL c0 c1 c2 c3 sn) (bO c0 c1 c2 c3) top=0))=b:=⟨_,rfl⟩
   have HRK:Hid (rs.getD 3 true=b):=zH (by rw [←HRS.out,←hbv];rfl)
   have HBV:=zH hbv
   clear hbv
   have Z:=qQ HJ.out.ext HJ.out.low hb HW hwl HWB.out
   rw [show bn (some ws) (bL c0 c1 c2 c3 sn) (bO c0 c1 c2 c3) top=zs from HZ.out,HBV.out]at Z
   cases b
   ·go_wp2_with fail
    refine Z.mono ?_
    clear Z
    rintro e w2 ⟨c,mb,A1,cap1,A2,cap2,rfl,hmb,hlk,hkc⟩
    have HL2:=zH hlk
    have HK2:=zH hkc
    clear hlk hkc
    clear gR hb
    go_wp2_with fail
    go_ret2
    exact HNO.out _ 4 rfl dM HRK.out (HL2.out.ext)
   ·go_wp2_with fail
    refine Z.mono ?_
    clear Z
    rintro e w2 ⟨c,mb,A1,cap1,A2,cap2,rfl,hmb,hlk,hkc⟩
    have HL2:=zH hlk
    have HK2:=zH hkc
    clear hlk hkc
    clear gR hb
    go_wp2_with fail
    have HJ2:Hid (JSt V #[.int .i64 c0,.int .i64 c1,.int .i64 c2,.int .i64 c3,.bool sn,.slice wA ws.length wc,.int .i64 top,.slice tA tb.length tc,.slice fA fr.length fc,.slice sA sl.length sc] L R 4 ws zs tb rs w2):=zH ⟨HL2.out.ext,HJ.out.low,HK2.out.keep R _ HJ.out.ne HJ.out.rul rfl,HJ.out.ne,.inr ⟨by decide,c,mb,zs.length,A1,cap1,A2,cap2,hmb,by omega,fun _=>hzl,by simp only [show (4:Nat)≤5 from by decide,if_true];exact HL2.out⟩,fun j hj=>by
     rcases Nat.lt_or_ge j 3 with h' | h'
     ·exact HJ.out.ok j h'
     ·obtain rfl:j=3:=by omega
      exact HRK.out⟩
    go_roundw
    case rel=>exact ⟨4,by omega,by first | rfl | go_num,HJ2⟩
    case measure=>simp [intOf]
  ·
   replace gR:wr.cell? ⟨R,4,none⟩=some (.func (.func 144) #[] #[]):=gR
   obtain ⟨-,c,mb,n,A1,cap1,A2,cap2,hmb,hn,hn5,hlk⟩:=HJ.out.lk.elim (fun h=>absurd h.1 dM) (fun h=>h)
   simp only [show (4:Nat)≤5 from by decide,if_true]at hlk
   have HLK:=zH hlk
   clear hlk
   obtain ⟨b,hbv⟩:∃b,(zs.all (ce (some ws) c0 c1 c2 c3))=b:=⟨_,rfl⟩
   have HRK:Hid (rs.getD 4 true=b):=zH (by rw [←HRS.out,←hbv,←HZ.out];rfl)
   have HBV:=zH hbv
   clear hbv
   have Z:=oo HLK.out (fun x hx=>(HZB.out x hx).2.2) hzl
   rw [HBV.out]at Z
   cases b
   ·go_wp2_with fail
    refine Z.mono ?_
    clear Z
    rintro e w2 ⟨rfl,hx⟩
    have HX2:=zH hx
    clear hx
    clear gR
    go_wp2_with fail
    go_ret2
    exact HNO.out _ 5 rfl dM HRK.out (HJ.out.ext.trans HX2.out)
   ·go_wp2_with fail
    refine Z.mono ?_
    clear Z
    rintro e w2 ⟨rfl,hx⟩
    have HX2:=zH hx
    clear hx
    clear gR
    go_wp2_with fail
    have HJ2:Hid (JSt V #[.int .i64 c0,.int .i64 c1,.int .i64 c2,.int .i64 c3,.bool sn,.slice wA ws.length wc,.int .i64 top,.slice tA tb.length tc,.slice fA fr.length fc,.slice sA sl.length sc] L R 5 ws zs tb rs w2):=zH ((HJ.out.grow HX2.out).next dM dM HRK.out)
    go_roundw
    case rel=>exact ⟨5,by omega,by first | rfl | go_num,HJ2⟩
    case measure=>simp [intOf]
  ·
   replace gR:wr.cell? ⟨R,5,none⟩=some (.func (.func 145) #[] #[]):=gR
   obtain ⟨-,c,mb,n,A1,cap1,A2,cap2,hmb,hn,hn5,hlk⟩:=HJ.out.lk.elim (fun h=>absurd h.1 dM) (fun h=>h)
   simp only [show (5:Nat)≤5 from by decide,if_true]at hlk
   have HLK:=zH hlk
   clear hlk
   obtain ⟨b,hbv⟩:∃b,(ledR (bE c0 c1 c2 c3) (bC c0 c1 c2 c3) tb fr && tb.all (cF (some ws) c0 c1 c2 c3))=b:=⟨_,rfl⟩
   have HRK:Hid (rs.getD 5 true=b):=zH (by rw [←HRS.out,←hbv];rfl)
   have HBV:=zH hbv
   clear hbv
   have Z:=oq HLK.out hmb (hn5 dM) HT HF htl hfl HTB.out
   rw [HBV.out]at Z
   cases b
   ·go_wp2_with fail
    refine Z.mono ?_
    clear Z
    rintro e w2 ⟨rfl,n',S',hlk,hle,hS,hkc⟩
    have HL2:=zH hlk
    have HK2:=zH hkc
    have HS2:=zH hS
    clear hlk hkc hS
    clear gR
    go_wp2_with fail
    go_ret2
    exact HNO.out _ 6 rfl dM HRK.out (HL2.out.ext)
   ·go_wp2_with fail
    refine Z.mono ?_
    clear Z
    rintro e w2 ⟨rfl,n',S',hlk,hle,hS,hkc⟩
    have HL2:=zH hlk
    have HK2:=zH hkc
    have HS2:Hid (S'=bh zs tb):=zH (hS rfl)
    clear hlk hkc hS
    clear gR
    go_wp2_with fail
    have HJ2:Hid (JSt V #[.int .i64 c0,.int .i64 c1,.int .i64 c2,.int .i64 c3,.bool sn,.slice wA ws.length wc,.int .i64 top,.slice tA tb.length tc,.slice fA fr.length fc,.slice sA sl.length sc] L R 6 ws zs tb rs w2):=zH ⟨HL2.out.ext,HJ.out.low,HK2.out.keep R _ HJ.out.ne HJ.out.rul rfl,HJ.out.ne,.inr ⟨by decide,c,mb,n',A1,cap1,A2,cap2,hmb,by have:=hn5 dM;omega,fun h=>absurd h dM,by
     have h7:=HL2.out
     rw [HS2.out]at h7
     simp only [show ¬(6:Nat)≤5 from by decide,if_false]
     exact h7⟩,fun j hj=>by
     rcases Nat.lt_or_ge j 5 with h' | h'
     ·exact HJ.out.ok j h'
     ·obtain rfl:j=5:=by omega
      exact HRK.out⟩
    go_roundw
    case rel=>exact ⟨6,by omega,by first | rfl | go_num,HJ2⟩
    case measure=>simp [intOf]
  ·
   replace gR:wr.cell? ⟨R,6,none⟩=some (.func (.func 146) #[] #[]):=gR
   obtain ⟨-,c,mb,n,A1,cap1,A2,cap2,hmb,hn,hn5,hlk⟩:=HJ.out.lk.elim (fun h=>absurd h.1 dM) (fun h=>h)
   simp only [show ¬(6:Nat)≤5 from by decide,if_false]at hlk
   have HLK:=zH hlk
   clear hlk
   obtain ⟨b,hbv⟩:∃b,(bQ sl c2)=b:=⟨_,rfl⟩
   have HRK:Hid (rs.getD 6 true=b):=zH (by rw [←HRS.out,←hbv];rfl)
   have HBV:=zH hbv
   clear hbv
   have Z:=qP (p:= .pointer (some ⟨c,0,none⟩)) (fun w k=>(HLK.out.grow k).blk) (HS.re HJ.out.ext) oM HSB.out
   rw [HBV.out]at Z
   cases b
   ·go_wp2_with fail
    refine Z.mono ?_
    clear Z
    rintro e w2 ⟨rfl,hx⟩
    have HX2:=zH hx
    clear hx
    clear gR
    go_wp2_with fail
    go_ret2
    exact HNO.out _ 7 rfl dM HRK.out (HJ.out.ext.trans HX2.out)
   ·go_wp2_with fail
    refine Z.mono ?_
    clear Z
    rintro e w2 ⟨rfl,hx⟩
    have HX2:=zH hx
    clear hx
    clear gR
    go_wp2_with fail
    have HJ2:Hid (JSt V #[.int .i64 c0,.int .i64 c1,.int .i64 c2,.int .i64 c3,.bool sn,.slice wA ws.length wc,.int .i64 top,.slice tA tb.length tc,.slice fA fr.length fc,.slice sA sl.length sc] L R 7 ws zs tb rs w2):=zH ((HJ.out.grow HX2.out).next dM dM HRK.out)
    go_roundw
    case rel=>exact ⟨7,by omega,by first | rfl | go_num,HJ2⟩
    case measure=>simp [intOf]
  ·
   replace gR:wr.cell? ⟨R,7,none⟩=some (.func (.func 147) #[] #[]):=gR
   obtain ⟨-,c,mb,n,A1,cap1,A2,cap2,hmb,hn,hn5,hlk⟩:=HJ.out.lk.elim (fun h=>absurd h.1 dM) (fun h=>h)
   simp only [show ¬(7:Nat)≤5 from by decide,if_false]at hlk
   have HLK:=zH hlk
   clear hlk
   obtain ⟨b,hbv⟩:∃b,((zs++tb.map (·.1)).all (bf (some ws) (bh zs tb)))=b:=⟨_,rfl⟩
   have HRK:Hid (rs.getD 7 true=b):=zH (by rw [←HRS.out,←hbv,←HZ.out];rfl)
   have HBV:=zH hbv
   clear hbv
   have HF1:Hid (b=true→∀x,bh zs tb x=true→bf (some ws) (bh zs tb) x=true):=zH (fun h x hx=>by
    have h0:=HBV.out
    rw [h,List.all_eq_true]at h0
    refine h0 x ?_
    simp only [bh,Bool.or_eq_true,decide_eq_true_eq]at hx
    exact List.mem_append.2 hx)
   have HF2:Hid ((∀x,bh zs tb x=true→bf (some ws) (bh zs tb) x=true)→b=true):=zH (fun h=>by
    rw [←HBV.out,List.all_eq_true]
    intro x hx
    refine h x ?_
    simp only [bh,Bool.or_eq_true,decide_eq_true_eq]
    exact List.mem_append.1 hx)
   have Z:=ot HLK.out b HF1.out HF2.out
   cases b
   ·go_wp2_with fail
    refine Z.mono ?_
    clear Z
    rintro e w2 ⟨rfl,hx⟩
    have HX2:=zH hx
    clear hx
    clear gR
    go_wp2_with fail
    go_ret2
    exact HNO.out _ 8 rfl dM HRK.out (HJ.out.ext.trans HX2.out)
   ·go_wp2_with fail
    refine Z.mono ?_
    clear Z
    rintro e w2 ⟨rfl,hx⟩
    have HX2:=zH hx
    clear hx
    clear gR
    go_wp2_with fail
    have HJ2:Hid (JSt V #[.int .i64 c0,.int .i64 c1,.int .i64 c2,.int .i64 c3,.bool sn,.slice wA ws.length wc,.int .i64 top,.slice tA tb.length tc,.slice fA fr.length fc,.slice sA sl.length sc] L R 8 ws zs tb rs w2):=zH ((HJ.out.grow HX2.out).next dM dM HRK.out)
    go_roundw
    case rel=>exact ⟨8,by omega,by first | rfl | go_num,HJ2⟩
    case measure=>simp [intOf]
  ·
   replace gR:wr.cell? ⟨R,8,none⟩=some (.func (.func 148) #[] #[]):=gR
   obtain ⟨-,c,mb,n,A1,cap1,A2,cap2,hmb,hn,hn5,hlk⟩:=HJ.out.lk.elim (fun h=>absurd h.1 dM) (fun h=>h)
   simp only [show ¬(8:Nat)≤5 from by decide,if_false]at hlk
   have HLK:=zH hlk
   clear hlk
   obtain ⟨b,hbv⟩:∃b,(sl.all (be (bh zs tb)))=b:=⟨_,rfl⟩
   have HRK:Hid (rs.getD 8 true=b):=zH (by rw [←HRS.out,←hbv,←HZ.out];rfl)
   have HBV:=zH hbv
   clear hbv
   have Z:=mX HLK.out HS hsl HSB.out
   rw [HBV.out]at Z
   cases b
   ·go_wp2_with fail
    refine Z.mono ?_
    clear Z
    rintro e w2 ⟨rfl,hx⟩
    have HX2:=zH hx
    clear hx
    clear gR
    go_wp2_with fail
    go_ret2
    exact HNO.out _ 9 rfl dM HRK.out (HJ.out.ext.trans HX2.out)
   ·go_wp2_with fail
    refine Z.mono ?_
    clear Z
    rintro e w2 ⟨rfl,hx⟩
    have HX2:=zH hx
    clear hx
    clear gR
    go_wp2_with fail
    have HJ2:Hid (JSt V #[.int .i64 c0,.int .i64 c1,.int .i64 c2,.int .i64 c3,.bool sn,.slice wA ws.length wc,.int .i64 top,.slice tA tb.length tc,.slice fA fr.length fc,.slice sA sl.length sc] L R 9 ws zs tb rs w2):=zH ((HJ.out.grow HX2.out).next dM dM HRK.out)
    go_roundw
    case rel=>exact ⟨9,by omega,by first | rfl | go_num,HJ2⟩
    case measure=>simp [intOf]
  ·obtain ⟨-,c,mb,n,A1,cap1,A2,cap2, -, -, -,hlk⟩:=HJ.out.lk.elim (fun h=>absurd h.1 dM) (fun h=>h)
   simp only [show ¬(9:Nat)≤5 from by decide,if_false]at hlk
   have HLK:=zH hlk
   have H0:Hid (eF rs=0):=zH (rx (fun j hj=>HJ.out.ok j (by rw [←HRL.out];exact hj)))
   clear hlk gR HNO
   go_wp2_with fail
   go_ret2
   exact ⟨L,by rw [H0.out];rfl,HJ.out.ext,fun _=>⟨c,mb,n,A1,cap1,A2,cap2,HLK.out⟩⟩
end
section
variable {c0 c1 c2 c3 : Int} {sn : Bool} {wA : Option Addr} {ws : List Int} {wc : Nat} {top : Int} {tA : Option Addr} {tb : List (Int × Int)} {tc : Nat} {fA : Option Addr} {fr : List (Int × Int)} {fc : Nat} {sA : Option Addr} {sl : List (Bool × Int × Int)} {sc : Nat}
theorem qU (V:World) (HW:Pers V (fun w=>WordsAt w wA ws)) (HT:Pers V (fun w=>SpansAt w tA tb)) (HF:Pers V (fun w=>SpansAt w fA fr)) (HS:Pers V (fun w=>SlotsAt w sA sl)) (hwl:ws.length≤98304) (htl:tb.length≤98304) (hfl:fr.length≤98304) (hsl:sl.length≤98304)
  (hwb:∀z∈ws,0≤z∧z < 18446744073709551616) (htb:∀x∈tb,(-9223372036854775808≤x.1∧x.1≤9223372036854775807)) (hsb:∀x∈sl,0≤x.2.2∧x.2.2 < 18446744073709551616):
  Calls Tryz.prog 19 #[.agg #[.int .i64 c0,.int .i64 c1,.int .i64 c2,.int .i64 c3,.bool sn,.slice wA ws.length wc,.int .i64 top,.slice tA tb.length tc,.slice fA fr.length fc,.slice sA sl.length sc]] V fun e w'=>e= .returned (.int .i64 (checkZ c0 c1 c2 c3 sn ws top tb fr sl))∧Ext V w':=by
 have hx0:=(AD V).alloc (.cells #[.int .i64 c0,.int .i64 c1,.int .i64 c2,.int .i64 c3,.bool sn,.slice wA ws.length wc,.int .i64 top,.slice tA tb.length tc,.slice fA fr.length fc,.slice sA sl.length sc] 34)
 have Z:=nC (c0:=c0) (c1:=c1) (c2:=c2) (c3:=c3) (sn:=sn) (wc:=wc) (top:=top) (tc:=tc) (fc:=fc) (sc:=sc) _ (HW.re hx0) (HT.re hx0) (HF.re hx0) (HS.re hx0) hwl htl hfl hsl hwb htb hsb
 have HX0:=zH hx0
 clear hx0 HW HT HF HS hwb htb hsb
 generalize checkZ c0 c1 c2 c3 sn ws top tb fr sl=k at*
 go_enter Tryz.func19,Tryz.ntmps19
 go_wp2_with fail
 refine Z.mono ?_
 clear Z
 rintro e w1 ⟨L,rfl,hx, -⟩
 have HX:=zH hx
 clear hx
 go_wp2_with fail
 go_ret
 exact ⟨rfl,HX0.out.trans HX.out⟩
theorem mY (V:World) (HW:Pers V (fun w=>WordsAt w wA ws)) (HT:Pers V (fun w=>SpansAt w tA tb)) (HF:Pers V (fun w=>SpansAt w fA fr)) (HS:Pers V (fun w=>SlotsAt w sA sl)) (hwl:ws.length≤98304) (htl:tb.length≤98304) (hfl:fr.length≤98304) (hsl:sl.length≤98304)
  (hwb:∀z∈ws,0≤z∧z < 18446744073709551616) (htb:∀x∈tb,(-9223372036854775808≤x.1∧x.1≤9223372036854775807)) (hsb:∀x∈sl,0≤x.2.2∧x.2.2 < 18446744073709551616):
  Calls Tryz.prog 57 #[.agg #[.int .i64 c0,.int .i64 c1,.int .i64 c2,.int .i64 c3,.bool sn,.slice wA ws.length wc,.int .i64 top,.slice tA tb.length tc,.slice fA fr.length fc,.slice sA sl.length sc]] V fun e w'=>(checkZ c0 c1 c2 c3 sn ws top tb fr sl≠0∧e= .returned (.tuple #[.slice none 0 0,.int .i64 4])∧Ext V w')∨
   (checkZ c0 c1 c2 c3 sn ws top tb fr sl=0∧∃A cap,e= .returned (.tuple #[.slice A (smallsL c0 c1 c2 c3 sn ws top++tb.map (·.1)).length cap,.int .i64 0])∧Own 3 1 intC w' V.heap.size (.slice A (smallsL c0 c1 c2 c3 sn ws top++tb.map (·.1)).length cap) (smallsL c0 c1 c2 c3 sn ws top++tb.map (·.1))∧Ext V w'):=by
 have hx0:=(AD V).alloc (.cells #[.int .i64 c0,.int .i64 c1,.int .i64 c2,.int .i64 c3,.bool sn,.slice wA ws.length wc,.int .i64 top,.slice tA tb.length tc,.slice fA fr.length fc,.slice sA sl.length sc] 34)
 have Z:=nC (c0:=c0) (c1:=c1) (c2:=c2) (c3:=c3) (sn:=sn) (wc:=wc) (top:=top) (tc:=tc) (fc:=fc) (sc:=sc) _ (HW.re hx0) (HT.re hx0) (HF.re hx0) (HS.re hx0) hwl htl hfl hsl hwb htb hsb
 have hb:=aG V #[.int .i64 c0,.int .i64 c1,.int .i64 c2,.int .i64 c3,.bool sn,.slice wA ws.length wc,.int .i64 top,.slice tA tb.length tc,.slice fA fr.length fc,.slice sA sl.length sc] 34 _ rfl
 have hzl:(smallsL c0 c1 c2 c3 sn ws top).length≤2199023255553:=hP (some ws) (bL c0 c1 c2 c3 sn) (bO c0 c1 c2 c3) top
 have HX0:=zH hx0
 clear HW HF HS hwb htb hsb
 replace HT:=HT.re hx0
 clear hx0
 have hV:V.heap.size≤(V.alloc (.cells #[.int .i64 c0,.int .i64 c1,.int .i64 c2,.int .i64 c3,.bool sn,.slice wA ws.length wc,.int .i64 top,.slice tA tb.length tc,.slice fA fr.length fc,.slice sA sl.length sc] 34)).heap.size:=by simp
 generalize checkZ c0 c1 c2 c3 sn ws top tb fr sl=k at*
 generalize smallsL c0 c1 c2 c3 sn ws top=zs at*
 have hd:decide (k=0)=decide (k=0):=rfl
 obtain ⟨b,hbv⟩:∃b,(k==0)=b:=⟨_,rfl⟩
 go_enter Tryz.func57,Tryz.ntmps57
 go_wp2_with fail
 refine Z.mono ?_
 clear Z
 rintro e w1 ⟨L,rfl,hx,hlk⟩
 cases b
 ·have hk:k≠0:=by simpa using hbv
  have HX:=zH hx
  have HK:=zH hk
  clear hx hlk hb hk
  go_wp2_with fail
  go_ret2
  exact .inl ⟨HK.out,rfl,HX0.out.trans HX.out⟩
 ·obtain rfl:k=0:=by simpa using hbv
  obtain ⟨c,mb,n,A1,cap1,A2,cap2,hlk⟩:=hlk rfl
  have hB:Pers w1 (fun w=>w.heap[L]?=some (.cells #[.int .i64 c0,.int .i64 c1,.int .i64 c2,.int .i64 c3,.bool sn,.slice wA ws.length wc,.int .i64 top,.slice tA tb.length tc,.slice fA fr.length fc,.slice sA sl.length sc,.pointer (some ⟨c,0,none⟩),.slice A2 zs.length cap2,.map (some mb)] 124 (0,0))):=fun w k=>(hlk.grow k).blk
  have HZ:Pers w1 (fun w=>IntsAt w A2 zs):=fun w k=>(ag (hlk.grow k).sm aO dM).1
  replace HT:=HT.re hx
  replace hb:=hb.re hx
  have HX:=zH hx
  have g:=hB.cells
  clear hx hlk
  ((first | refine aM (W:=w1) ?_ | refine aT (W:=w1) ?_);intro uq;(try go_wp2_with fail))
  (refine (rP A2 cap2 zs _ oM (HZ.at zE)).mono ?_;rintro e w2 ⟨A3,cap3,rfl,hown,hx⟩;replace hx:=AF (a:=w1) zE hx)
  have HO0:Hid (Own 3 1 intC w2 w1.heap.size (.slice A3 zs.length cap3) zs):=zH (hown.mono uq.2.size)
  clear hown g
  have gb:=(hb.re hx).cells
  have hx2:=hx
  clear hx uq
  ((first | refine aM (W:=w2) ?_ | refine aT (W:=w2) ?_);intro uq;(try go_wp2_with fail))
  have hbase:=uq.2
  go_loopw [6,8,24] (fun o _ i wr=>∃(A:Option Addr) (cap k:Nat),k≤tb.length∧o= .slice A (zs.length+k:Nat) cap∧i= .int .i64 k∧Hid (Own 3 1 intC wr w1.heap.size (.slice A (zs.length+k) cap) (zs++(tb.take k).map (·.1)))∧Ext w1 wr) (fun _ _ i _=>tb.length - (intOf i).toNat)
  case atStart=>exact ⟨A3,cap3,0,by omega,rfl,rfl,zH (by simpa using HO0.out.ext uq.2),hx2.trans uq.2⟩
  case round=>
   obtain ⟨A,cap,k,hk,rfl,rfl,HO,hxr⟩:=hrel
   clear HO0 gb hx2 uq hbase
   by_cases hlt:k < tb.length
   rotate_left
   ·obtain rfl:k=tb.length:=by omega
    have HXR:=zH hxr
    clear hxr
    go_wp2_with fail
    go_ret2
    have hlen:(zs++tb.map (·.1)).length=zs.length+tb.length:=by simp
    have ho:=HO.out
    rw [List.take_length]at ho
    exact ⟨A,cap,rfl,ho.mono (Nat.le_trans HX0.out.size HX.out.size),HX0.out.trans (HX.out.trans HXR.out)⟩
   have HO1:=cK HO.out
   have hBr:=hxr.size
   replace HT:=HT.re hxr
   replace hb:=hb.re hxr
   obtain ⟨lb,off,rfl,hc⟩:=HT.here.get oM
   obtain ⟨cc1,cc2⟩:=aQ hc hlt
   have c1':=aJ cc1
   have c2':=aJ cc2
   have ib1:(k:Int) < (tb.length:Int):=by omega
   have HTK:Hid (zs++(tb.take (k+1)).map (·.1)=(zs++(tb.take k).map (·.1))++ [(tb.getD k (0,0)).1]):=zH (by
    rw [List.take_succ_eq_append_getElem hlt,List.map_append,List.append_assoc]
    congr 2
    simp [hlt])
   have HTL:Hid ((zs++(tb.take k).map (·.1)).length=zs.length+k):=zH (by simp;omega)
   have HXR:=zH hxr
   clear hxr hc cc1 cc2
   generalize tb.getD k (0,0)=x at*
   obtain ⟨x1,x2⟩:=x
   simp only at c1' c2' HTK
   have gb:=hb.cells
   refine aT (W:=wr) ?_
   intro uq
   have hx3:=uq.2
   go_wp2_with (at_builtin;refine aH rfl (.tmp 28) (.tmp 31) 38 rfl bj aO rfl (by exact HO1.at zE) [x1] 1 _ rfl (zs.length+(k+1)) 1 (by rw [HTL.out];rfl) rfl _ rfl (by first | rfl | simp) oM (by simp [maxLen];try omega) (by exact Nat.le_trans hBr (AG (AF (a:=_) (AD _) zE))) ?_;intro A4 cap4 w4 hown4 hgr4 hat4;have HO4:=zH hown4;have HX4:Hid (Ext w1 w4):=zH (AI (HO1.here) (AF HXR.out zE) hgr4 (by exact Nat.le_trans hBr (AG zE)));clear hown4 hgr4 hat4)
   go_roundw
   case rel=>exact ⟨A4,cap4,k+1,by omega,by first | rfl | go_num,by go_num,by rw [HTK.out];exact HO4,HX4.out⟩
   case measure=>simp [intOf];omega
end
end Go.Proofs.YtphpppjfogpohaaGreat
