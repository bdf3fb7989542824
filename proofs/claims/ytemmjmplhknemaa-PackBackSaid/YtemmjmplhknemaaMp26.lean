/- Merged by program (merge.py) out of: StG, StH. -/
import Derived.Test.YtemmjmplhknemaaMp19
import Derived.Test.YtemmjmplhknemaaMp22
import Derived.Test.YtemmjmplhknemaaMp25
set_option linter.unusedSimpArgs false
set_option linter.unusedVariables false
set_option maxRecDepth 100000
set_option maxHeartbeats 16000000
namespace Go.Proofs.Ytemmjmplhknemaa
open Go.RowKit Go.Shelf
structure LkW (V W:World) (L:Nat) (cs:Array Value) (b mb n:Nat) (wA:Option Addr) (wc:Nat) (ws:List Int) (smA:Option Addr) (smc:Nat) (zs:List Int) (S:Int→Bool):Prop where
 ext:Ext V W
 low:V.heap.size≤L
 blk:W.heap[L]?=some (.cells (cs++ #[.pointer (some ⟨b,0,none⟩),.slice smA zs.length smc,.map (some mb)]) 86 (0,0))
 ar:ArO V.heap.size W b wA wc ws
 sm:Own 3 1 intC W V.heap.size (.slice smA zs.length smc) zs
 st:SetI W mb n S
section
variable {V W W' : World} {L b mb n : Nat} {cs : Array Value} {wA : Option Addr} {wc : Nat} {ws : List Int} {smA : Option Addr} {smc : Nat} {zs : List Int} {S : Int → Bool}
theorem LkW.grow (h:LkW V W L cs b mb n wA wc ws smA smc zs S) (hx:Ext W W'):LkW V W' L cs b mb n wA wc ws smA smc zs S:=
 ⟨h.ext.trans hx,h.low,(hx.block (lt_of_heap h.blk)).trans h.blk,h.ar.ext hx,h.sm.ext hx,h.st.ext hx⟩
theorem LkW.pers (h:LkW V W L cs b mb n wA wc ws smA smc zs S):Pers W (fun w=>LkW V w L cs b mb n wA wc ws smA smc zs S):=fun _ k=>h.grow k
theorem LkW.put (h:LkW V W L cs b mb n wA wc ws smA smc zs S) (hV:V.heap.size≤mb) {m:Nat} {S':Int→Bool} (hg:W.grownBy W' (some mb)) (hs:SetI W' mb m S'):LkW V W' L cs b mb m wA wc ws smA smc zs S':=
 have hk:=Kc.map L h.st hg
 ⟨Below.grown h.ext hg h.ext.size (fun k hk=>by injection hk with hk;omega),h.low,(hg.block L (lt_of_heap h.blk) (fun e=>by injection e with e;exact h.st.ne h.blk e.symm)).trans h.blk,h.ar.kc hk h.blk (by decide) (by decide),h.sm.kc hk h.blk (by decide),hs⟩
end
section
variable {c0 c1 c2 c3 : Int} {sn : Bool} {wA : Option Addr} {ws : List Int} {wc : Nat} {top : Int} {tA : Option Addr} {tb : List (Int × Int)} {tc : Nat} {fA : Option Addr} {fr : List (Int × Int)} {fc : Nat} {sA : Option Addr} {sl : List (Bool × Int × Int)} {sc : Nat}
variable {p sm m : Value} {V W : World} {L : Nat}
def RetWks (V W:World) (L:Nat) (cs:Array Value) (ws zs:List Int) (r:Bool) (e:Ending) (w':World):Prop:=∃b mb A cap smA smc,e= .returned (.bool r)∧V.heap.size≤mb∧LkW V w' L cs b mb zs.length A cap ws smA smc zs (fun x=>decide (x∈zs))∧Kc L W w'
theorem stwalks_any (hVW:Ext V W) (hVL:V.heap.size≤L) (hL:W.heap[L]?=some (.cells #[.int .i64 c0,.int .i64 c1,.int .i64 c2,.int .i64 c3,.bool sn,.slice wA ws.length wc,.int .i64 top,.slice tA tb.length tc,.slice fA fr.length fc,.slice sA sl.length sc,p,sm,m] 86 (0,0))) (HW:Pers V (fun w=>WordsAt w wA ws)) (hlen:ws.length≤98304) (hbd:∀z∈ws,0≤z∧z < 18446744073709551616):
  Calls Try.prog 44 #[.pointer (some ⟨L,0,none⟩)] W (RetWks V W L #[.int .i64 c0,.int .i64 c1,.int .i64 c2,.int .i64 c3,.bool sn,.slice wA ws.length wc,.int .i64 top,.slice tA tb.length tc,.slice fA fr.length fc,.slice sA sl.length sc] ws (listA (some ws) (halfA c0 c1 c2 c3 sn) (halfS c0 c1 c2 c3) top) (decide (stopE (some ws) (halfA c0 c1 c2 c3 sn) (halfS c0 c1 c2 c3) top=0))):=by
 obtain ⟨a,ha⟩:∃b,halfA c0 c1 c2 c3 sn=b:=⟨_,rfl⟩
 obtain ⟨s,hs⟩:∃b,halfS c0 c1 c2 c3=b:=⟨_,rfl⟩
 have HA:=zH ha
 have HS:=zH hs
 rw [ha,hs]
 obtain ⟨zs,hz⟩:∃x,listA (some ws) a s top=x:=⟨_,rfl⟩
 obtain ⟨er,her⟩:∃x,stopE (some ws) a s top=x:=⟨_,rfl⟩
 have hzl:=list_len (some ws) a s top
 have HZB:=zH (fun x (h:x∈listA (some ws) a s top)=>list_bd h)
 rw [hz]at hzl HZB
 have HZ:=zH hz
 have HE:=zH her
 rw [hz,her]
 obtain ⟨r,hr⟩:∃r,(er==0)=r:=⟨_,rfl⟩
 have HR:Hid (decide (er=0)=r):=zH (by rw [←hr];exact Bool.eq_iff_iff.2 (by simp))
 have HBD:=zH hbd
 have HX:=zH hVW
 have hB:=pers_blk hL
 clear ha hs hz her hbd hVW
 have g:=hB.cells
 have g2:=hB.frees
 have hmm:= @run_makeMap Try.prog
 refine at_baseC (W:=W) fun uq=> ?_
 go_enter Try.func44,Try.ntmps44
 go_wp2_with fail
 (refine (aof_any wA wc ws _ (HW.at (HX.out.trans uq.2)) hlen HBD.out).mono ?_;rintro e W1 ⟨⟨c,A1,cap1,rfl,hA⟩,hx⟩;replace hx:=Ext.trans (a:=W) zE hx;replace hB:=hB.re hx)
 have hV1:V.heap.size≤uq.1.heap.size:=(HX.out.trans uq.2).size
 have HA1:=zH (show ArO V.heap.size W1 c A1 cap1 ws from ⟨hA.blk,hA.own.mono hV1,Nat.le_trans hV1 hA.base,hA.len,hA.bd⟩)
 replace HX:=zH (HX.out.trans hx)
 have HK:=zH (Kc.ext L hx)
 clear g g2 hx hA hL
 have g:=hB.cells
 have g2:=hB.frees
 ((first | refine at_baseC (W:=W1) ?_ | refine at_base (W:=W1) ?_);intro uq;(try go_wp2_with fail))
 have hb2:=blk_set (i:=10) (hB.at uq.2) (.pointer (some ⟨c,0,none⟩))
 have hx2:=(HX.out.trans uq.2).setCell (p:=⟨L,10,none⟩) hVL (.pointer (some ⟨c,0,none⟩))
 have ha2:=(HA1.out.ext uq.2).kc (Kc.set L uq.1 10 (.pointer (some ⟨c,0,none⟩))) (hB.at uq.2) (by decide) (by decide)
 simp only [List.setIfInBounds_toArray,List.set_cons_succ,List.set_cons_zero]at hb2
 have hk2:=(HK.out.trans (Kc.ext L uq.2)).trans (Kc.set L uq.1 10 (.pointer (some ⟨c,0,none⟩)))
 generalize uq.1.setCell ⟨L,10,none⟩ (.pointer (some ⟨c,0,none⟩))=W2 at*
 replace HK:=zH hk2
 replace hB:=pers_blk hb2
 replace HX:=zH hx2
 have HAR:=arO_pers ha2
 have HAO:Pers W2 (fun w=>ArO V.heap.size w c A1 cap1 ws):=fun _ k=>ha2.ext k
 clear g g2 hx2 hb2 ha2 HA1 hk2
 have g:=hB.cells
 have hxw:=Ext.refl W2
 (refine wp_region_seg (W:=W2) [([(0,true),(1,true),(2,true),(3,true),(4,true),(5,true),(6,true),(7,true),(8,true),(9,true),(10,true),(11,true),(12,true),(13,true),(15,true),(16,true),(17,true),(18,true),(19,true),(14,false)],20)] [(21,true),(22,true),(23,true),(24,true),(25,true)] [] (by kernel_rfl) (by kernel_rfl) (by intro c a d v w h;cases d <;>first | exact h | (cases h;done) | cases h.1.1 | cases h.1) (by with_reducible assumption) ?_;simp only [opsOf,List.map_cons,List.map_nil,List.getD_cons_zero,List.getD_cons_succ])
 ((first | refine seg_cons ?_ | refine seg_last ?_);(repeat (go_big_quiet_step (first | (go_at_call 50;with_reducible exact Calls.ext_of (lfrom_is HA.out HS.out _)))));refine wpQuiet_nil ?_;intro w1 hx)
 ((refine seg_step ?_ ?_;(focus rfl);intro K hK;go_simp);refine (listO_is (some ⟨c,0,none⟩) (some ws) a s top er zs HZ.out HE.out _ (HAR.at hx)).mono ?_;rintro e W3 ⟨A2,cap2,rfl,ho2,hx2⟩;refine hK W3 _ _ (hx.trans hx2) (Ext.refl _) ?_;have hz2:=hx.size;replace hx2:=hx.trans hx2;replace hB:=hB.re hx2;replace HAO:=HAO.re hx2;clear hK K hx)
 have hV3:V.heap.size≤w1.heap.size:=Nat.le_trans HX.out.size hz2
 have HO:=pers_own (ho2.mono hV3)
 replace HX:=zH (HX.out.trans hx2)
 replace HK:=zH (HK.out.trans (Kc.ext L hx2))
 clear hx2 ho2 g hxw HAR
 have g:=hB.cells
 have g2:=hB.frees
 have g3:=hB.lt
 ((first | refine seg_cons ?_ | refine seg_last ?_);(repeat (go_big_quiet_step (fail)));refine wpQuiet_nil ?_;intro w1 hx)
 (obtain ⟨uq,rfl⟩:∃u:ExtOf W3,w1=u.1:=⟨⟨w1,hx⟩,rfl⟩;clear hx;go_wp2_with fail)
 have hw0:LkW V (((uq.1.setCell ⟨L,11,none⟩ (.slice A2 zs.length cap2)).setCell ⟨L,12,none⟩ (.map (some uq.1.heap.size))).alloc (.map #[] 0)) L #[.int .i64 c0,.int .i64 c1,.int .i64 c2,.int .i64 c3,.bool sn,.slice wA ws.length wc,.int .i64 top,.slice tA tb.length tc,.slice fA fr.length fc,.slice sA sl.length sc] c uq.1.heap.size 0 A1 cap1 ws A2 cap2 zs (fun x=>decide (x∈zs.take 0)):=by
  have hk:=((Kc.set L uq.1 11 (.slice A2 zs.length cap2)).trans (Kc.set L _ 12 (.map (some uq.1.heap.size)))).trans (Kc.ext L ((Ext.refl _).alloc (.map #[] 0)))
  have hb:=hB.at uq.2
  have hsz:((uq.1.setCell ⟨L,11,none⟩ (.slice A2 zs.length cap2)).setCell ⟨L,12,none⟩ (.map (some uq.1.heap.size))).heap.size=uq.1.heap.size:=by simp
  refine ⟨(((HX.out.trans uq.2).setCell (p:=⟨L,11,none⟩) hVL _).setCell (p:=⟨L,12,none⟩) hVL _).alloc _,hVL,?_,(HAO.at uq.2).kc hk hb (by decide) (by decide),(HO.at uq.2).kc hk hb (by decide),?_⟩
  ·have h3:=blk_old (o2:= .map #[] 0) (blk_set (i:=12) (blk_set (i:=11) hb (.slice A2 zs.length cap2)) (.map (some uq.1.heap.size)))
   exact h3
  ·have h4:=SetI.made ((uq.1.setCell ⟨L,11,none⟩ (.slice A2 zs.length cap2)).setCell ⟨L,12,none⟩ (.map (some uq.1.heap.size)))
   rw [hsz]at h4
   simpa using h4
 have hmb:V.heap.size≤uq.1.heap.size:=(HX.out.trans uq.2).size
 have hk4:=(HK.out.trans (Kc.ext L uq.2)).trans (((Kc.set L uq.1 11 (.slice A2 zs.length cap2)).trans (Kc.set L _ 12 (.map (some uq.1.heap.size)))).trans (Kc.ext L ((Ext.refl _).alloc (.map #[] 0))))
 have HW0:=zH hw0
 generalize ((uq.1.setCell ⟨L,11,none⟩ (.slice A2 zs.length cap2)).setCell ⟨L,12,none⟩ (.map (some uq.1.heap.size))).alloc (.map #[] 0)=W4 at*
 generalize uq.1.heap.size=mb at*
 replace HK:=zH hk4
 clear hw0 g g2 g3 hmm hB hk4
 go_loopw [6,53] (fun _ i wr=>∃k:Nat,k≤zs.length∧i= .int .i64 k∧Hid (LkW V wr L #[.int .i64 c0,.int .i64 c1,.int .i64 c2,.int .i64 c3,.bool sn,.slice wA ws.length wc,.int .i64 top,.slice tA tb.length tc,.slice fA fr.length fc,.slice sA sl.length sc] c mb k A1 cap1 ws A2 cap2 zs (fun x=>decide (x∈zs.take k)))∧Hid (Kc L W wr)) (fun _ i _=>zs.length - (intOf i).toNat)
 case atStart=>exact ⟨0,by omega,rfl,HW0,HK⟩
 case round=>
  obtain ⟨k,hk,rfl,HL,HKR⟩:=hrel
  clear HW0 HK
  by_cases hlt:k < zs.length
  rotate_left
  ·obtain rfl:k=zs.length:=by omega
   go_wp2_with fail
   go_ret
   exact ⟨c,mb,A1,cap1,A2,cap2,ret_bool HR.out.symm,hmb,by have:=HL.out;simpa only [List.take_length]using this,HKR.out⟩
  have hlb:=HL.out.blk
  have hB:=pers_blk hlb
  have g:=hB.cells
  obtain ⟨lb,off,rfl,hc⟩:=(own_row HL.out.sm intCells (by decide)).1.get (by omega)
  have c1:=ints_cell hc hlt
  have hzb:=HZB.out _ (getD_mem (d:=0) hlt)
  have ib1:(k:Int) < (zs.length:Int):=by omega
  have HTK:Hid ((fun x=>decide (x∈zs.take k) || x==zs.getD k 0)=fun x=>decide (x∈zs.take (k+1))):=zH (by
   funext x
   rw [List.take_succ_eq_append_getElem hlt]
   simp only [List.mem_append,List.mem_singleton,Bool.decide_or]
   congr 1
   have:zs.getD k 0=zs[k]:=by simp [hlt]
   rw [this]
   exact Bool.eq_iff_iff.2 (by simp))
  generalize zs.getD k 0=z at*
  have hzw:(Lit.int .i64 z).wf=true:=by simp [Lit.wf,IntKind.min,IntKind.max,IntKind.signed,IntKind.bits];omega
  have HZW:=zH hzw
  have k1:wr.cell? ⟨L,12,none⟩=some (.map (some mb)):=by simp [World.cell?,hlb]
  clear hc hzw g hlb
  go_wp2_with (at_mapUpdate;refine wpList_set_put rfl (.tmp 60) (.tmp 61) (.const (.bool true)) rfl HL.out.st rfl (by simp [maxLen];omega) z rfl rfl HZW.out ?_;intro w5 hs5 hg5;have HL5:=zH (HL.out.put hmb hg5 hs5);have HK5:=zH (HKR.out.trans (Kc.map L HL.out.st hg5));clear hs5 hg5)
  go_roundw
  case rel=>exact ⟨k+1,by omega,by go_num,by rw [←HTK.out];exact HL5,HK5⟩
  case measure=>simp [intOf];omega
end
def smallO (l:Option (List Int)) (c0 c1 c2 c3 z:Int):Bool:=quietB (headH l z) && smallB c0 c1 c2 c3 (hsize (headH l z))
section
variable {c0 c1 c2 c3 : Int} {sn : Bool} {wA : Option Addr} {ws : List Int} {wc : Nat} {top : Int} {tA : Option Addr} {tb : List (Int × Int)} {tc : Nat} {fA : Option Addr} {fr : List (Int × Int)} {fc : Nat} {sA : Option Addr} {sl : List (Bool × Int × Int)} {sc : Nat}
variable {V W : World} {L c mb n : Nat} {A1 : Option Addr} {cap1 : Nat} {wv : List Int} {A2 : Option Addr} {cap2 : Nat} {zs : List Int} {S : Int → Bool}
theorem stsmalls_any (hLk:LkW V W L #[.int .i64 c0,.int .i64 c1,.int .i64 c2,.int .i64 c3,.bool sn,.slice wA ws.length wc,.int .i64 top,.slice tA tb.length tc,.slice fA fr.length fc,.slice sA sl.length sc] c mb n A1 cap1 wv A2 cap2 zs S) (hzb:∀x∈zs,0≤x∧x < 2199023255552) (hzl:zs.length≤2199023255553):
  Calls Try.prog 45 #[.pointer (some ⟨L,0,none⟩)] W fun e w'=>e= .returned (.bool (zs.all (smallO (some wv) c0 c1 c2 c3)))∧Ext W w':=by
 have HLK:=hLk.pers
 have hB:Pers W (fun w=>w.heap[L]?=some (.cells #[.int .i64 c0,.int .i64 c1,.int .i64 c2,.int .i64 c3,.bool sn,.slice wA ws.length wc,.int .i64 top,.slice tA tb.length tc,.slice fA fr.length fc,.slice sA sl.length sc,.pointer (some ⟨c,0,none⟩),.slice A2 zs.length cap2,.map (some mb)] 86 (0,0))):=fun w k=>(hLk.grow k).blk
 have HAR:Pers W (fun w=>ArP w (some ⟨c,0,none⟩) (some wv)):=fun w k=>(hLk.grow k).ar.p
 have HZ:Pers W (fun w=>IntsAt w A2 zs):=fun w k=>(own_row (hLk.grow k).sm intCells (by decide)).1
 have HZB:=zH hzb
 have g:=hB.cells
 clear hLk hzb
 refine at_baseC (W:=W) fun uq=> ?_
 go_enter Try.func45,Try.ntmps45
 go_wp2_with fail
 go_loopw [4,5,6,12] (fun _ _ _ i wr=>∃k:Nat,k≤zs.length∧i= .int .i64 k∧Ext W wr∧Hid (∀i,i < k→smallO (some wv) c0 c1 c2 c3 (zs.getD i 0)=true)) (fun _ _ _ i _=>zs.length - (intOf i).toNat)
 case atStart=>exact ⟨0,by omega,rfl,uq.2,zH (by omega)⟩
 case round=>
  obtain ⟨k,hk,rfl,hxr,hq⟩:=hrel
  obtain ⟨uq,rfl⟩:∃u:ExtOf W,wr=u.1:=⟨⟨wr,hxr⟩,rfl⟩
  clear hxr
  by_cases hlt:k < zs.length
  rotate_left
  ·have HA:Hid (zs.all (smallO (some wv) c0 c1 c2 c3)=true):=zH (all_ofD fun i hi=>hq.out i (by omega))
   clear hq
   go_wp2_with fail
   go_ret
   exact ⟨ret_bool HA.out.symm,uq.2⟩
  obtain ⟨lb,off,rfl,hc⟩:=HZ.here.get (by omega)
  have c1':=pers_cell (ints_cell hc hlt)
  have hzb:=HZB.out _ (getD_mem (d:=0) hlt)
  have ib1:(k:Int) < (zs.length:Int):=by omega
  have HY:=zH (fun (h:smallO (some wv) c0 c1 c2 c3 (zs.getD k 0)=true)=>upTo hq.out h)
  have HNO:=zH (fun (h:smallO (some wv) c0 c1 c2 c3 (zs.getD k 0)=false)=>all_notD (p:=smallO (some wv) c0 c1 c2 c3) hlt h)
  clear hc hq
  generalize zs.getD k 0=z at*
  obtain ⟨er,her⟩:∃e,headE (some wv) z=e:=⟨_,rfl⟩
  obtain ⟨h,hh⟩:∃h,headH (some wv) z=h:=⟨_,rfl⟩
  obtain ⟨s,hs⟩:∃n,hsize h=n:=⟨_,rfl⟩
  obtain ⟨b,hb⟩:∃b,quietB h=b:=⟨_,rfl⟩
  obtain ⟨d,hd⟩:∃b,smallB c0 c1 c2 c3 s=b:=⟨_,rfl⟩
  have HSM:Hid (smallO (some wv) c0 c1 c2 c3 z=(b && d)):=zH (by rw [smallO,hh,hs,hb,hd])
  have HER:=zH her
  have HH:=zH hh
  have HS:=zH hs
  have HB:=zH hb
  have HD:=zH hd
  clear her hh hs hb hd
  go_wp2_with fail
  (refine (ohead_is (some ⟨c,0,none⟩) (some wv) z h er HH.out HER.out _ (HAR.at zE) ⟨by omega,by omega⟩).mono ?_;rintro e w2 ⟨rfl,hx⟩;replace hx:=Ext.trans (a:=W) zE hx)
  have HBH:=pers_new w2 #[.int .i64 h.k,.int .i64 h.f,.int .i64 h.r,.bool h.m,.int .i64 h.c] 99 _ rfl
  replace hx:=hx.alloc (.cells #[.int .i64 h.k,.int .i64 h.f,.int .i64 h.r,.bool h.m,.int .i64 h.c] 99)
  replace hB:=hB.re hx
  have HX:=zH hx
  clear c1' g hx
  go_wp2_with fail
  generalize w2.alloc (.cells #[.int .i64 h.k,.int .i64 h.f,.int .i64 h.r,.bool h.m,.int .i64 h.c] 99)=W3 at*
  generalize w2.heap.size=X at*
  have g:=hB.cells
  have g1:=HBH.cells
  have hx3:=Ext.refl W3
  cases b
  ·have HR:=zH (HNO.out (by rw [HSM.out];rfl))
   (refine wp_region_ext (W:=W3) (by kernel_rfl) (by kernel_rfl) (by with_reducible assumption) ?_;(repeat (go_big_quiet_step (first | (go_at_call 54;with_reducible exact Calls.ext_of (quiet_is h false HB.out _)))));refine wpQuiet_nil ?_;intro w1 hx)
   (obtain ⟨uq,rfl⟩:∃u:ExtOf W3,w1=u.1:=⟨⟨w1,hx⟩,rfl⟩;clear hx;go_wp2_with fail)
   go_ret
   exact ⟨ret_bool HR.out.symm,HX.out.trans (ExtOf.ext _)⟩
  ·(refine wp_region_ext (W:=W3) (by kernel_rfl) (by kernel_rfl) (by with_reducible assumption) ?_;(repeat (go_big_quiet_step (first | (go_at_call 54;with_reducible exact Calls.ext_of (quiet_is h true HB.out _)) | (go_at_call 56;with_reducible exact Calls.ext_of (hsize_is h s HS.out _)) | (go_at_call 55;with_reducible exact Calls.ext_of (lsmall_is HD.out _)))));refine wpQuiet_nil ?_;intro w1 hx)
   cases d
   ·have HR:=zH (HNO.out (by rw [HSM.out];rfl))
    (obtain ⟨uq,rfl⟩:∃u:ExtOf W3,w1=u.1:=⟨⟨w1,hx⟩,rfl⟩;clear hx;go_wp2_with fail)
    go_ret
    exact ⟨ret_bool HR.out.symm,HX.out.trans (ExtOf.ext _)⟩
   ·(obtain ⟨uq,rfl⟩:∃u:ExtOf W3,w1=u.1:=⟨⟨w1,hx⟩,rfl⟩;clear hx;go_wp2_with fail)
    go_roundw
    case rel=>exact ⟨k+1,by omega,by go_num,HX.out.trans (ExtOf.ext _),zH (HY.out (by rw [HSM.out];rfl))⟩
    case measure=>simp [intOf];omega
end
end Go.Proofs.Ytemmjmplhknemaa
