/- Merged by program (merge.py) out of: StG, StH. -/
import Derived.Test.YtphpppjfogpohaaGreatMq0
import Derived.Test.YtphpppjfogpohaaGreatMq20
import Derived.Test.YtphpppjfogpohaaGreatMq24
import Derived.Test.YtphpppjfogpohaaGreatMq27
set_option linter.unusedSimpArgs false
set_option linter.unusedVariables false
set_option maxRecDepth 100000
set_option maxHeartbeats 16000000
namespace Go.Proofs.YtphpppjfogpohaaGreat
open Go.RowKit Go.Shelf
structure LkW (V W:World) (L:Nat) (cs:Array Value) (b mb n:Nat) (wA:Option Addr) (wc:Nat) (ws:List Int) (smA:Option Addr) (smc:Nat) (zs:List Int) (S:Int→Bool):Prop where
 ext:Ext V W
 low:V.heap.size≤L
 blk:W.heap[L]?=some (.cells (cs++ #[.pointer (some ⟨b,0,none⟩),.slice smA zs.length smc,.map (some mb)]) 124 (0,0))
 ar:ArO V.heap.size W b wA wc ws
 sm:Own 3 1 intC W V.heap.size (.slice smA zs.length smc) zs
 st:SetI W mb n S
section
variable {V W W' : World} {L b mb n : Nat} {cs : Array Value} {wA : Option Addr} {wc : Nat} {ws : List Int} {smA : Option Addr} {smc : Nat} {zs : List Int} {S : Int → Bool}
theorem LkW.grow (h:LkW V W L cs b mb n wA wc ws smA smc zs S) (hx:Ext W W'):LkW V W' L cs b mb n wA wc ws smA smc zs S:=
 ⟨h.ext.trans hx,h.low,(hx.block (aA h.blk)).trans h.blk,h.ar.ext hx,h.sm.ext hx,h.st.ext hx⟩
theorem LkW.pers (h:LkW V W L cs b mb n wA wc ws smA smc zs S):Pers W (fun w=>LkW V w L cs b mb n wA wc ws smA smc zs S):=fun _ k=>h.grow k
theorem LkW.put (h:LkW V W L cs b mb n wA wc ws smA smc zs S) (hV:V.heap.size≤mb) {m:Nat} {S':Int→Bool} (hg:W.grownBy W' (some mb)) (hs:SetI W' mb m S'):LkW V W' L cs b mb m wA wc ws smA smc zs S':=
 have hk:=Kc.map L h.st hg
 ⟨Below.grown h.ext hg h.ext.size (fun k hk=>by injection hk with hk;omega),h.low,(hg.block L (aA h.blk) (fun e=>by injection e with e;exact h.st.ne h.blk e.symm)).trans h.blk,h.ar.kc hk h.blk dM dM,h.sm.kc hk h.blk dM,hs⟩
end
section
variable {c0 c1 c2 c3 : Int} {sn : Bool} {wA : Option Addr} {ws : List Int} {wc : Nat} {top : Int} {tA : Option Addr} {tb : List (Int × Int)} {tc : Nat} {fA : Option Addr} {fr : List (Int × Int)} {fc : Nat} {sA : Option Addr} {sl : List (Bool × Int × Int)} {sc : Nat}
variable {p sm m : Value} {V W : World} {L : Nat}
def zS (V W:World) (L:Nat) (cs:Array Value) (ws zs:List Int) (r:Bool) (e:Ending) (w':World):Prop:=∃b mb A cap smA smc,e= .returned (.bool r)∧V.heap.size≤mb∧LkW V w' L cs b mb zs.length A cap ws smA smc zs (fun x=>decide (x∈zs))∧Kc L W w'
theorem qQ (hVW:Ext V W) (hVL:V.heap.size≤L) (hL:W.heap[L]?=some (.cells #[.int .i64 c0,.int .i64 c1,.int .i64 c2,.int .i64 c3,.bool sn,.slice wA ws.length wc,.int .i64 top,.slice tA tb.length tc,.slice fA fr.length fc,.slice sA sl.length sc,p,sm,m] 124 (0,0))) (HW:Pers V (fun w=>WordsAt w wA ws)) (hlen:ws.length≤98304) (hbd:∀z∈ws,0≤z∧z < 18446744073709551616):
  Calls Tryz.prog 143 #[.pointer (some ⟨L,0,none⟩)] W (zS V W L #[.int .i64 c0,.int .i64 c1,.int .i64 c2,.int .i64 c3,.bool sn,.slice wA ws.length wc,.int .i64 top,.slice tA tb.length tc,.slice fA fr.length fc,.slice sA sl.length sc] ws (bn (some ws) (bL c0 c1 c2 c3 sn) (bO c0 c1 c2 c3) top) (decide (bN (some ws) (bL c0 c1 c2 c3 sn) (bO c0 c1 c2 c3) top=0))):=by
 obtain ⟨a,ha⟩:∃b,bL c0 c1 c2 c3 sn=b:=⟨_,rfl⟩
 obtain ⟨s,hs⟩:∃b,bO c0 c1 c2 c3=b:=⟨_,rfl⟩
 have HA:=zH ha
 have HS:=zH hs
 rw [ha,hs]
 obtain ⟨zs,hz⟩:∃x,bn (some ws) a s top=x:=⟨_,rfl⟩
 obtain ⟨er,her⟩:∃x,bN (some ws) a s top=x:=⟨_,rfl⟩
 have hzl:=hP (some ws) a s top
 have HZB:=zH (fun x (h:x∈bn (some ws) a s top)=>od h)
 rw [hz]at hzl HZB
 have HZ:=zH hz
 have HE:=zH her
 rw [hz,her]
 obtain ⟨r,hr⟩:∃r,(er==0)=r:=⟨_,rfl⟩
 have HR:Hid (decide (er=0)=r):=zH (by rw [←hr];exact Bool.eq_iff_iff.2 sM)
 have HBD:=zH hbd
 have HX:=zH hVW
 have hB:=aP hL
 clear ha hs hz her hbd hVW
 have g:=hB.cells
 have g2:=hB.frees
 have hmm:= @run_makeMap Tryz.prog
 refine aM (W:=W) fun uq=> ?_
 go_enter Tryz.func143,Tryz.ntmps143
 go_wp2_with fail
 (refine (yL wA wc ws _ (HW.at (HX.out.trans uq.2)) hlen HBD.out).mono ?_;rintro e W1 ⟨⟨c,A1,cap1,rfl,hA⟩,hx⟩;replace hx:=AF (a:=W) zE hx;replace hB:=hB.re hx)
 have hV1:V.heap.size≤uq.1.heap.size:=(HX.out.trans uq.2).size
 have HA1:=zH (show ArO V.heap.size W1 c A1 cap1 ws from ⟨hA.blk,hA.own.mono hV1,Nat.le_trans hV1 hA.base,hA.len,hA.bd⟩)
 replace HX:=zH (HX.out.trans hx)
 have HK:=zH (AW L hx)
 clear g g2 hx hA hL
 have g:=hB.cells
 have g2:=hB.frees
 ((first | refine aM (W:=W1) ?_ | refine aT (W:=W1) ?_);intro uq;(try go_wp2_with fail))
 have hb2:=aL (i:=10) (hB.at uq.2) (.pointer (some ⟨c,0,none⟩))
 have hx2:=(HX.out.trans uq.2).setCell (p:=⟨L,10,none⟩) hVL (.pointer (some ⟨c,0,none⟩))
 have ha2:=(HA1.out.ext uq.2).kc (Kc.set L uq.1 10 (.pointer (some ⟨c,0,none⟩))) (hB.at uq.2) dM dM
 simp only [List.setIfInBounds_toArray,List.set_cons_succ,List.set_cons_zero]at hb2
 have hk2:=(HK.out.trans (AW L uq.2)).trans (Kc.set L uq.1 10 (.pointer (some ⟨c,0,none⟩)))
 generalize uq.1.setCell ⟨L,10,none⟩ (.pointer (some ⟨c,0,none⟩))=W2 at*
 replace HK:=zH hk2
 replace hB:=aP hb2
 replace HX:=zH hx2
 have HAR:=wV ha2
 have HAO:Pers W2 (fun w=>ArO V.heap.size w c A1 cap1 ws):=fun _ k=>ha2.ext k
 clear g g2 hx2 hb2 ha2 HA1 hk2
 have g:=hB.cells
 have hxw:=AD W2
 (refine bW (W:=W2) [([(0,true),(1,true),(2,true),(3,true),(4,true),(5,true),(6,true),(7,true),(8,true),(9,true),(10,true),(11,true),(12,true),(13,true),(15,true),(16,true),(17,true),(18,true),(19,true),(14,false)],20)] [(21,true),(22,true),(23,true),(24,true),(25,true)] [] kR kR (by intro c a d v w h;cases d <;>first | exact h | (cases h;done) | cases h.1.1 | cases h.1) aS ?_;simp only [aI,List.map_cons,List.map_nil,List.getD_cons_zero,List.getD_cons_succ])
 ((first | refine bz ?_ | refine cA ?_);(repeat (go_big_quiet_step (first | (go_at_call 81;with_reducible exact AE (lU HA.out HS.out _)))));refine wpQuiet_nil ?_;intro w1 hx)
 ((refine fe ?_ ?_;(focus rfl);intro K hK;go_simp);refine (wP (some ⟨c,0,none⟩) (some ws) a s top er zs HZ.out HE.out _ (HAR.at hx)).mono ?_;rintro e W3 ⟨A2,cap2,rfl,ho2,hx2⟩;refine hK W3 _ _ (hx.trans hx2) (AD _) ?_;have hz2:=hx.size;replace hx2:=hx.trans hx2;replace hB:=hB.re hx2;replace HAO:=HAO.re hx2;clear hK K hx)
 have hV3:V.heap.size≤w1.heap.size:=Nat.le_trans HX.out.size hz2
 have HO:=cK (ho2.mono hV3)
 replace HX:=zH (HX.out.trans hx2)
 replace HK:=zH (HK.out.trans (AW L hx2))
 clear hx2 ho2 g hxw HAR
 have g:=hB.cells
 have g2:=hB.frees
 have g3:=hB.lt
 ((first | refine bz ?_ | refine cA ?_);(repeat (go_big_quiet_step (fail)));refine wpQuiet_nil ?_;intro w1 hx)
 (obtain ⟨uq,rfl⟩:∃u:ExtOf W3,w1=u.1:=⟨⟨w1,hx⟩,rfl⟩;clear hx;go_wp2_with fail)
 have hw0:LkW V (((uq.1.setCell ⟨L,11,none⟩ (.slice A2 zs.length cap2)).setCell ⟨L,12,none⟩ (.map (some uq.1.heap.size))).alloc (.map #[] 0)) L #[.int .i64 c0,.int .i64 c1,.int .i64 c2,.int .i64 c3,.bool sn,.slice wA ws.length wc,.int .i64 top,.slice tA tb.length tc,.slice fA fr.length fc,.slice sA sl.length sc] c uq.1.heap.size 0 A1 cap1 ws A2 cap2 zs (fun x=>decide (x∈zs.take 0)):=by
  have hk:=((Kc.set L uq.1 11 (.slice A2 zs.length cap2)).trans (Kc.set L _ 12 (.map (some uq.1.heap.size)))).trans (AW L ((AD _).alloc (.map #[] 0)))
  have hb:=hB.at uq.2
  have hsz:((uq.1.setCell ⟨L,11,none⟩ (.slice A2 zs.length cap2)).setCell ⟨L,12,none⟩ (.map (some uq.1.heap.size))).heap.size=uq.1.heap.size:=by simp
  refine ⟨(((HX.out.trans uq.2).setCell (p:=⟨L,11,none⟩) hVL _).setCell (p:=⟨L,12,none⟩) hVL _).alloc _,hVL,?_,(HAO.at uq.2).kc hk hb dM dM,(HO.at uq.2).kc hk hb dM,?_⟩
  ·have h3:=b8 (o2:= .map #[] 0) (aL (i:=12) (aL (i:=11) hb (.slice A2 zs.length cap2)) (.map (some uq.1.heap.size)))
   exact h3
  ·have h4:=SetI.made ((uq.1.setCell ⟨L,11,none⟩ (.slice A2 zs.length cap2)).setCell ⟨L,12,none⟩ (.map (some uq.1.heap.size)))
   rw [hsz]at h4
   simpa using h4
 have hmb:V.heap.size≤uq.1.heap.size:=(HX.out.trans uq.2).size
 have hk4:=(HK.out.trans (AW L uq.2)).trans (((Kc.set L uq.1 11 (.slice A2 zs.length cap2)).trans (Kc.set L _ 12 (.map (some uq.1.heap.size)))).trans (AW L ((AD _).alloc (.map #[] 0))))
 have HW0:=zH hw0
 generalize ((uq.1.setCell ⟨L,11,none⟩ (.slice A2 zs.length cap2)).setCell ⟨L,12,none⟩ (.map (some uq.1.heap.size))).alloc (.map #[] 0)=W4 at*
 generalize uq.1.heap.size=mb at*
 replace HK:=zH hk4
 clear hw0 g g2 g3 hmm hB hk4
 go_loopw [6,53] (fun _ i wr=>∃k:Nat,k≤zs.length∧i= .int .i64 k∧Hid (LkW V wr L #[.int .i64 c0,.int .i64 c1,.int .i64 c2,.int .i64 c3,.bool sn,.slice wA ws.length wc,.int .i64 top,.slice tA tb.length tc,.slice fA fr.length fc,.slice sA sl.length sc] c mb k A1 cap1 ws A2 cap2 zs (fun x=>decide (x∈zs.take k)))∧Hid (Kc L W wr)) (fun _ i _=>zs.length - (intOf i).toNat)
 case atStart=>exact ⟨0,by omega,rfl,HW0,HK⟩
 case round=>
  obtain ⟨k,hk,rfl,HL,HKR⟩:=hrel
  clear HW0 HK
  by_cases hlt:k < zs.length
  rotate_left
  ·obtain rfl:k=zs.length:=by omega
   go_wp2_with fail
   go_ret
   exact ⟨c,mb,A1,cap1,A2,cap2,aD HR.out.symm,hmb,by have:=HL.out;simpa only [List.take_length]using this,HKR.out⟩
  have hlb:=HL.out.blk
  have hB:=aP hlb
  have g:=hB.cells
  obtain ⟨lb,off,rfl,hc⟩:=(ag HL.out.sm aO dM).1.get oM
  have c1:=bD hc hlt
  have hzb:=HZB.out _ (aF (d:=0) hlt)
  have ib1:(k:Int) < (zs.length:Int):=by omega
  have HTK:Hid ((fun x=>decide (x∈zs.take k) || x==zs.getD k 0)=fun x=>decide (x∈zs.take (k+1))):=zH (by
   funext x
   rw [List.take_succ_eq_append_getElem hlt]
   simp only [List.mem_append,List.mem_singleton,Bool.decide_or]
   congr 1
   have:zs.getD k 0=zs[k]:=by simp [hlt]
   rw [this]
   exact Bool.eq_iff_iff.2 sM)
  generalize zs.getD k 0=z at*
  have hzw:(Lit.int .i64 z).wf=true:=by simp [Lit.wf,IntKind.min,IntKind.max,IntKind.signed,IntKind.bits];omega
  have HZW:=zH hzw
  have k1:wr.cell? ⟨L,12,none⟩=some (.map (some mb)):=by simp [World.cell?,hlb]
  clear hc hzw g hlb
  go_wp2_with (at_mapUpdate;refine fD rfl (.tmp 60) (.tmp 61) (.const (.bool true)) rfl HL.out.st rfl (by simp [maxLen];omega) z rfl rfl HZW.out ?_;intro w5 hs5 hg5;have HL5:=zH (HL.out.put hmb hg5 hs5);have HK5:=zH (HKR.out.trans (Kc.map L HL.out.st hg5));clear hs5 hg5)
  go_roundw
  case rel=>exact ⟨k+1,by omega,by go_num,by rw [←HTK.out];exact HL5,HK5⟩
  case measure=>simp [intOf];omega
end
def ce (l:Option (List Int)) (c0 c1 c2 c3 z:Int):Bool:=dT (aK l z) && dq c0 c1 c2 c3 (av (aK l z))
section
variable {c0 c1 c2 c3 : Int} {sn : Bool} {wA : Option Addr} {ws : List Int} {wc : Nat} {top : Int} {tA : Option Addr} {tb : List (Int × Int)} {tc : Nat} {fA : Option Addr} {fr : List (Int × Int)} {fc : Nat} {sA : Option Addr} {sl : List (Bool × Int × Int)} {sc : Nat}
variable {V W : World} {L c mb n : Nat} {A1 : Option Addr} {cap1 : Nat} {wv : List Int} {A2 : Option Addr} {cap2 : Nat} {zs : List Int} {S : Int → Bool}
theorem oo (hLk:LkW V W L #[.int .i64 c0,.int .i64 c1,.int .i64 c2,.int .i64 c3,.bool sn,.slice wA ws.length wc,.int .i64 top,.slice tA tb.length tc,.slice fA fr.length fc,.slice sA sl.length sc] c mb n A1 cap1 wv A2 cap2 zs S) (hzb:∀x∈zs,0≤x∧x < 2199023255552) (hzl:zs.length≤2199023255553):
  Calls Tryz.prog 144 #[.pointer (some ⟨L,0,none⟩)] W fun e w'=>e= .returned (.bool (zs.all (ce (some wv) c0 c1 c2 c3)))∧Ext W w':=by
 have HLK:=hLk.pers
 have hB:Pers W (fun w=>w.heap[L]?=some (.cells #[.int .i64 c0,.int .i64 c1,.int .i64 c2,.int .i64 c3,.bool sn,.slice wA ws.length wc,.int .i64 top,.slice tA tb.length tc,.slice fA fr.length fc,.slice sA sl.length sc,.pointer (some ⟨c,0,none⟩),.slice A2 zs.length cap2,.map (some mb)] 124 (0,0))):=fun w k=>(hLk.grow k).blk
 have HAR:Pers W (fun w=>ArP w (some ⟨c,0,none⟩) (some wv)):=fun w k=>(hLk.grow k).ar.p
 have HZ:Pers W (fun w=>IntsAt w A2 zs):=fun w k=>(ag (hLk.grow k).sm aO dM).1
 have HZB:=zH hzb
 have g:=hB.cells
 clear hLk hzb
 refine aM (W:=W) fun uq=> ?_
 go_enter Tryz.func144,Tryz.ntmps144
 go_wp2_with fail
 go_loopw [4,5,6,12] (fun _ _ _ i wr=>∃k:Nat,k≤zs.length∧i= .int .i64 k∧Ext W wr∧Hid (∀i,i < k→ce (some wv) c0 c1 c2 c3 (zs.getD i 0)=true)) (fun _ _ _ i _=>zs.length - (intOf i).toNat)
 case atStart=>exact ⟨0,by omega,rfl,uq.2,zH oM⟩
 case round=>
  obtain ⟨k,hk,rfl,hxr,hq⟩:=hrel
  obtain ⟨uq,rfl⟩:∃u:ExtOf W,wr=u.1:=⟨⟨wr,hxr⟩,rfl⟩
  clear hxr
  by_cases hlt:k < zs.length
  rotate_left
  ·have HA:Hid (zs.all (ce (some wv) c0 c1 c2 c3)=true):=zH (d9 fun i hi=>hq.out i oM)
   clear hq
   go_wp2_with fail
   go_ret
   exact ⟨aD HA.out.symm,uq.2⟩
  obtain ⟨lb,off,rfl,hc⟩:=HZ.here.get oM
  have c1':=aJ (bD hc hlt)
  have hzb:=HZB.out _ (aF (d:=0) hlt)
  have ib1:(k:Int) < (zs.length:Int):=by omega
  have HY:=zH (fun (h:ce (some wv) c0 c1 c2 c3 (zs.getD k 0)=true)=>upTo hq.out h)
  have HNO:=zH (fun (h:ce (some wv) c0 c1 c2 c3 (zs.getD k 0)=false)=>cg (p:=ce (some wv) c0 c1 c2 c3) hlt h)
  clear hc hq
  generalize zs.getD k 0=z at*
  obtain ⟨er,her⟩:∃e,aU (some wv) z=e:=⟨_,rfl⟩
  obtain ⟨h,hh⟩:∃h,aK (some wv) z=h:=⟨_,rfl⟩
  obtain ⟨s,hs⟩:∃n,av h=n:=⟨_,rfl⟩
  obtain ⟨b,hb⟩:∃b,dT h=b:=⟨_,rfl⟩
  obtain ⟨d,hd⟩:∃b,dq c0 c1 c2 c3 s=b:=⟨_,rfl⟩
  have HSM:Hid (ce (some wv) c0 c1 c2 c3 z=(b && d)):=zH (by rw [ce,hh,hs,hb,hd])
  have HER:=zH her
  have HH:=zH hh
  have HS:=zH hs
  have HB:=zH hb
  have HD:=zH hd
  clear her hh hs hb hd
  go_wp2_with fail
  (refine (fC (some ⟨c,0,none⟩) (some wv) z h er HH.out HER.out _ (HAR.at zE) ⟨by omega,by omega⟩).mono ?_;rintro e w2 ⟨rfl,hx⟩;replace hx:=AF (a:=W) zE hx)
  have HBH:=aG w2 #[.int .i64 h.k,.int .i64 h.f,.int .i64 h.r,.bool h.m,.int .i64 h.c] 85 _ rfl
  replace hx:=hx.alloc (.cells #[.int .i64 h.k,.int .i64 h.f,.int .i64 h.r,.bool h.m,.int .i64 h.c] 85)
  replace hB:=hB.re hx
  have HX:=zH hx
  clear c1' g hx
  go_wp2_with fail
  generalize w2.alloc (.cells #[.int .i64 h.k,.int .i64 h.f,.int .i64 h.r,.bool h.m,.int .i64 h.c] 85)=W3 at*
  generalize w2.heap.size=X at*
  have g:=hB.cells
  have g1:=HBH.cells
  have hx3:=AD W3
  cases b
  ·have HR:=zH (HNO.out (by rw [HSM.out];rfl))
   (refine aC (W:=W3) kR kR aS ?_;(repeat (go_big_quiet_step (first | (go_at_call 173;with_reducible exact AE (eZ h false HB.out _)))));refine wpQuiet_nil ?_;intro w1 hx)
   (obtain ⟨uq,rfl⟩:∃u:ExtOf W3,w1=u.1:=⟨⟨w1,hx⟩,rfl⟩;clear hx;go_wp2_with fail)
   go_ret
   exact ⟨aD HR.out.symm,HX.out.trans (AH _)⟩
  ·(refine aC (W:=W3) kR kR aS ?_;(repeat (go_big_quiet_step (first | (go_at_call 173;with_reducible exact AE (eZ h true HB.out _)) | (go_at_call 104;with_reducible exact AE (cL h s HS.out _)) | (go_at_call 133;with_reducible exact AE (fx HD.out _)))));refine wpQuiet_nil ?_;intro w1 hx)
   cases d
   ·have HR:=zH (HNO.out (by rw [HSM.out];rfl))
    (obtain ⟨uq,rfl⟩:∃u:ExtOf W3,w1=u.1:=⟨⟨w1,hx⟩,rfl⟩;clear hx;go_wp2_with fail)
    go_ret
    exact ⟨aD HR.out.symm,HX.out.trans (AH _)⟩
   ·(obtain ⟨uq,rfl⟩:∃u:ExtOf W3,w1=u.1:=⟨⟨w1,hx⟩,rfl⟩;clear hx;go_wp2_with fail)
    go_roundw
    case rel=>exact ⟨k+1,by omega,by go_num,HX.out.trans (AH _),zH (HY.out (by rw [HSM.out];rfl))⟩
    case measure=>simp [intOf];omega
end
end Go.Proofs.YtphpppjfogpohaaGreat
