/- Merged by program (merge.py) out of: GraK, GraL, GraM, GraN, GraO, GraP, GraQ, GraR. -/
import Derived.Test.YtphpppjfogpohaaGreatMq0
import Derived.LoopIn
import Derived.LoopNIn
import Derived.Test.YtphpppjfogpohaaGreatMq33
import Derived.Test.YtphpppjfogpohaaGreatMq4
import Derived.Test.YtphpppjfogpohaaGreatMq7
set_option linter.unusedSimpArgs false
set_option linter.unusedVariables false
set_option maxRecDepth 100000
set_option maxHeartbeats 16000000
namespace Go.Proofs.YtphpppjfogpohaaGreat
open Go.RowKit Go.Shelf
attribute [local go_sem] Oper.semAt_some
theorem sF (nA:Option Addr) (n ncap:Nat) (rA:Option Addr) (m rcap:Nat) (w:World):
  Calls Tryz.prog 77 #[.agg #[.slice nA n ncap,.slice rA m rcap]] w fun e w'=>e= .returned (.func (.func 131) #[] #[.pointer (some ⟨w.heap.size,0,none⟩)])∧w'=w.alloc (.cells #[.slice nA n ncap,.slice rA m rcap] 27):=by
 go_enter Tryz.func77,Tryz.ntmps77
 go_wp2
 go_ret
 exact ⟨rfl,rfl⟩
theorem wX (G:GraphD):aV G=(G.ns.all okN && (allV G.ns G.rs).all (okV G.ns.length)):=by
 unfold aV allV ee
 rw [Bool.eq_iff_iff]
 simp only [Bool.and_eq_true,List.all_eq_true,List.mem_append,List.mem_flatMap]
 constructor
 ·rintro ⟨h1,h2⟩
  refine ⟨fun x hx=>(h1 x hx).1,fun v hv=> ?_⟩
  rcases hv with ⟨x,hx,hv⟩ | hv
  ·exact (h1 x hx).2 v hv
  ·exact h2 v hv
 ·rintro ⟨h1,h2⟩
  exact ⟨fun x hx=>⟨h1 x hx,fun v hv=>h2 v (.inl ⟨x,hx,hv⟩)⟩,fun v hv=>h2 v (.inr hv)⟩
theorem qa (G:GraphD) (k x:Int) (b:Bool) (hb:okV G.ns.length (k,x)=b) (V:World) (hn:G.ns.length≤9223372036854775807):
  Calls Tryz.prog 78 #[.agg #[.slice G.nA G.ns.length G.ncap,.slice G.rA G.rs.length G.rcap],.agg #[.int .i64 k,.int .i64 x]] V fun e w'=>e= .returned (.bool b)∧Ext V w':=by
 subst hb;exact uB G k x V hn
theorem yP (nA:Option Addr) (ncap:Nat) (ns:List NodeD) (rA:Option Addr) (rcap:Nat) (rs:List (Int×Int)) (V:World) (hN:NodesAt V nA ns) (hR:SpansAt V rA rs) (hn:ns.length≤9223372036854775807) (hr:rs.length≤9223372036854775807) (hf:∀x∈ns,x.fields.length≤9223372036854775807):
  Calls Tryz.prog 33 #[.agg #[.slice nA ns.length ncap,.slice rA rs.length rcap]] V fun e w'=>e= .returned (.bool (ns.all okN && (allV ns rs).all (okV ns.length)))∧Ext V w':=by
 have HN:=zH hN
 have HR:=zH hR
 have HF:=zH hf
 clear hN hR hf
 refine (callsIn_wide (n:=5)).1 ?_
 have hro:Fence.wide.round=none:=rfl
 refine callsIn_of_wp_marks Tryz.func33 rfl trivial ?_ hro
 simp only [Tryz.ntmps33,List.size_toArray,List.length_cons,List.length_nil,Nat.reduceAdd,Nat.reduceSub,Array.replicate_succ,Array.replicate_zero,List.push_toArray,List.append_toArray,List.nil_append,List.cons_append]
 have hw0:Ext V ((V.alloc (.cells #[.slice nA ns.length ncap,.slice rA rs.length rcap] 27)).alloc (.cells #[.bool false] 4)):=((AD V).alloc _).alloc _
 have hws:((V.alloc (.cells #[.slice nA ns.length ncap,.slice rA rs.length rcap] 27)).alloc (.cells #[.bool false] 4)).heap.size=V.heap.size+2:=by simp
 have hbg:((V.alloc (.cells #[.slice nA ns.length ncap,.slice rA rs.length rcap] 27)).alloc (.cells #[.bool false] 4)).heap[V.heap.size]?=some (.cells #[.slice nA ns.length ncap,.slice rA rs.length rcap] 27 (0,0)):=(Below.heap_alloc _ _ _ sM).trans (World.alloc_heap_new _ _)
 have hbr:((V.alloc (.cells #[.slice nA ns.length ncap,.slice rA rs.length rcap] 27)).alloc (.cells #[.bool false] 4)).heap[V.heap.size+1]?=some (.cells #[.bool false] 4 (0,0)):=by
  have:=World.alloc_heap_new (V.alloc (.cells #[.slice nA ns.length ncap,.slice rA rs.length rcap] 27)) (.cells #[.bool false] 4)
  simpa using this
 gi_wp2
 generalize (V.alloc (.cells #[.slice nA ns.length ncap,.slice rA rs.length rcap] 27)).alloc (.cells #[.bool false] 4)=w0 at*
 gi_loopw [9] (fun i wr=>∃k:Nat,k≤ns.length∧i= .int .i64 k∧Hid (Ext w0 wr)∧Hid (∀i,i < k→okN (ns.getD i default)=true)) (fun i _=>ns.length - (intOf i).toNat)
 case atStart=>exact ⟨0,by omega,rfl,zH (AD _),zH oM⟩
 case round=>
  obtain ⟨k,hk,rfl,hx,hq⟩:=hrel
  by_cases hlt:k < ns.length
  rotate_left
  ·obtain rfl:k=ns.length:=by omega
   have b0:wr.cell? ⟨V.heap.size,0,none⟩=some (.slice nA ns.length ncap):=hx.out.cell (by simp [World.cell?,hbg])
   have b1:wr.cell? ⟨V.heap.size,1,none⟩=some (.slice rA rs.length rcap):=hx.out.cell (by simp [World.cell?,hbg])
   gi_wp2_with (refine ⟨trivial,?_⟩;gi_at_call 77;refine (callsIn_wide.2 (sF _ _ _ _ _ _ _)).mono ?_;rintro e w' ⟨rfl,rfl⟩)
   have HQ:=zH (d9 (p:=okN) (l:=ns) (d:=default) hq.out)
   have hsw:=hx.out.size
   have hwx:Ext w0 (wr.alloc (.cells #[.slice nA ns.length ncap,.slice rA rs.length rcap] 27)):=hx.out.alloc _
   have hws2:(wr.alloc (.cells #[.slice nA ns.length ncap,.slice rA rs.length rcap] 27)).heap.size=wr.heap.size+1:=by simp
   have hbv:(wr.alloc (.cells #[.slice nA ns.length ncap,.slice rA rs.length rcap] 27)).heap[wr.heap.size]?=some (.cells #[.slice nA ns.length ncap,.slice rA rs.length rcap] 27 (0,0)):=World.alloc_heap_new _ _
   clear hq hlt b0 b1
   generalize wr.alloc (.cells #[.slice nA ns.length ncap,.slice rA rs.length rcap] 27)=w2 at*
   have hbg2:=(hwx.block (aA hbg)).trans hbg
   have hbr2:=(hwx.block (aA hbr)).trans hbr
   have hV2:Ext V w2:=hw0.trans hwx
   have hnl:∀b,¬Led w2 (V.heap.size+1) b:=fun b ⟨n,c,h⟩=>by simp [World.cell?,hbr2]at h
   refine ki (gf:=131) (lb:= #[.pointer (some ⟨wr.heap.size,0,none⟩)]) rfl (enters_of Tryz.func131 kR rfl)
    (mZ wr.heap.size (V.heap.size+1) nA ncap ns rA rcap rs w2 oM (by simp [World.cell?,hbv]) (by simp [World.cell?,hbv]) (HN.out.ext hV2) (HR.out.ext hV2) hn hr HF.out oM)
    (Nat.le_refl _) (fun _=>rfl)
    (fun pre W=>Ext w2 W∧Hid (∀x∈pre,okV ns.length x=true))
    (fun c pre W=>c= .ret∧Ext V W∧W.heap[V.heap.size+1]?=some (.cells #[.bool false] 4 (0,0))∧w2.heap.size≤W.heap.size∧∃x∈pre,okV ns.length x=false)
    (fun s A B h hab=>⟨Below.trans h.1 hab.below,h.2⟩)
    (fun c s A B h hab=>⟨h.1,Below.trans h.2.1 (Below.mono hab.below (by have:=hV2.size;omega)),(hab.below.block (V.heap.size+1) oM).trans h.2.2.1,Nat.le_trans h.2.2.2.1 hab.below.size,h.2.2.2.2⟩)
    ⟨AD _,zH sM⟩
    (fun pre x a' W=>Ext w2 W∧Hid (∀x∈pre,okV ns.length x=true)∧∃X,w2.heap.size≤X∧W.heap[X]?=some (.cells #[.int .i64 x.1,.int .i64 x.2] 71 (0,0))∧
     a'= {tmps:= #[.agg #[.slice nA ns.length ncap,.slice rA rs.length rcap],.pointer (some ⟨V.heap.size,0,none⟩),.pointer (some ⟨V.heap.size+1,0,none⟩),undef,u4,.pointer (some ⟨X,0,none⟩),.pointer (some ⟨V.heap.size,0,none⟩),.slice nA ns.length ncap,.int .i64 ns.length,.int .i64 ns.length,.bool false,u11,u12,u13,u14,u15,u16,u17,u18,u19,u20,u21,u22,u23,u24,u25,u26,u27,u28,u29,u30,u31,u32,u33,
      .agg #[.slice nA ns.length ncap,.slice rA rs.length rcap],.func (.func 131) #[] #[.pointer (some ⟨wr.heap.size,0,none⟩)],.agg #[.int .i64 (x.1),.int .i64 (x.2)],undef,undef,undef,undef],defers:= []})
    ?hax ?assign ?body ?done ?stop
   case hax=>
    rintro pre x a' A B ⟨h1,h2,X,hX,hbX,rfl⟩ hb hk
    exact ⟨Below.trans h1 hb,h2,X,hX,hk X _ hbX rfl,rfl⟩
   case assign=>
    rintro l pre x W K ⟨h1,h2⟩ hK
    have hsz:=h1.size
    have H1:=zH h1
    clear h1
    gi_wp2
    exact hK _ _ ⟨H1.out.alloc _,h2,W.heap.size,hsz,World.alloc_heap_new _ _,rfl⟩ ((KeepsOthers.alloc _ _).from _) (Ac ((Below.refl _ W).alloc (Nat.le_refl _) _) hsz oM)
   case body=>
    rintro l pre x a' W ⟨h1,h2,X,hX,hbX,rfl⟩ hgd
    clear hgd
    obtain ⟨p,q⟩:=x
    have g0:W.cell? ⟨X,0,none⟩=some (.int .i64 p):=by simp [World.cell?,hbX]
    have g1:W.cell? ⟨X,1,none⟩=some (.int .i64 q):=by simp [World.cell?,hbX]
    have hG:=(h1.block (aA hbg2)).trans hbg2
    have hB:=(h1.block (aA hbr2)).trans hbr2
    have g2:W.cell? ⟨V.heap.size,0,none⟩=some (.slice nA ns.length ncap):=by simp [World.cell?,hG]
    have g3:W.cell? ⟨V.heap.size,1,none⟩=some (.slice rA rs.length rcap):=by simp [World.cell?,hG]
    have H1:=zH h1
    have HB:=zH hB
    have hs1:=h1.size
    clear h1 hG hB hbX
    obtain ⟨b,hb⟩:∃b,okV ns.length (p,q)=b:=⟨_,rfl⟩
    have HO:=zH hb
    clear hb
    have hVB:V.heap.size+1 < W.heap.size:=by omega
    cases b
    ·gi_wp2_with (refine ⟨trivial,?_⟩;gi_at_call 78;refine (callsIn_wide.2 (qa ⟨nA,ncap,ns,rA,rcap,rs⟩ p q false HO.out _ hn)).mono ?_;rintro e w1 ⟨rfl,hx1⟩;have hb1:=(hx1.block hVB).trans HB.out;have e1:w1.cell? ⟨V.heap.size+1,0,none⟩=some (.bool false):=(by simp [World.cell?,hb1]);have e2:w1.frozen? ⟨V.heap.size+1,0,none⟩=false:=(by simp [World.frozen?,hb1]);have hb1:=zH hb1)
     have hsx:=hx1.size
     refine ⟨(dK hx1).trans ((KeepsOthers.setCell _ _ _).from _),rfl,((hV2.trans H1.out).trans hx1).setCell sM _,?_,by simp;omega,⟨_,by simp,HO.out⟩⟩
     rw [heap_setCell_same w1 (V.heap.size+1) 0 _ _ _ hb1.out]
     rfl
    ·gi_wp2_with (refine ⟨trivial,?_⟩;gi_at_call 78;refine (callsIn_wide.2 (qa ⟨nA,ncap,ns,rA,rcap,rs⟩ p q true HO.out _ hn)).mono ?_;rintro e w1 ⟨rfl,hx1⟩)
     refine ⟨dK hx1,Ac hx1 hs1 oM,H1.out.trans hx1,zH fun y hy=> ?_⟩
     rw [List.mem_append,List.mem_singleton]at hy
     rcases hy with hy | rfl
     ·exact h2.out y hy
     ·exact HO.out
   case done=>
    rintro D ys W hD rfl ⟨h1,h2⟩ hK
    have hB:=(h1.block (aA hbr2)).trans hbr2
    have e1:W.cell? ⟨V.heap.size+1,0,none⟩=some (.bool false):=by simp [World.cell?,hB]
    have e2:W.frozen? ⟨V.heap.size+1,0,none⟩=false:=by simp [World.frozen?,hB]
    have hDn:D≠V.heap.size+1:=by omega
    have hxs:Ext V (W.setCell ⟨V.heap.size+1,0,none⟩ (.bool true)):=(hV2.trans h1).setCell sM _
    have hK2:(W.setCell ⟨V.heap.size+1,0,none⟩ (.bool true)).heap[D]?=some (.deferred (some [])):=(Below.heap_setCell W ⟨V.heap.size+1,0,none⟩ _ D hDn).trans hK
    have hB2:(W.setCell ⟨V.heap.size+1,0,none⟩ (.bool true)).heap[V.heap.size+1]?=some (.cells #[.bool true] 4 (0,0)):=by rw [heap_setCell_same W (V.heap.size+1) 0 _ _ _ hB];rfl
    have HA:=zH (show (ns.all okN && (allV ns rs).all (okV ns.length))=true by rw [HQ.out,List.all_eq_true.2 h2.out];rfl)
    have HXS:=zH hxs
    have HK2:=zH hK2
    have HB2:=zH hB2
    clear hK hxs hK2 hB2 hB
    gi_wp2
    generalize W.setCell ⟨V.heap.size+1,0,none⟩ (.bool true)=W3 at*
    refine ⟨by simp,.inl ⟨_,_,rfl,run_takeDeferred HK2.out,?_⟩⟩
    have hab:AbI w2.heap.size (V.heap.size+1) W3 (W3.putObj D (.deferred none)):=AP hD HK2.out rfl
    have g:(W3.putObj D (.deferred none)).cell? ⟨V.heap.size+1,0,none⟩=some (.bool true):=by
     have:=(hab.below.block (V.heap.size+1) oM).trans HB2.out
     simp [World.cell?,this]
    have hxx:=Below.trans HXS.out (Below.mono hab.below oM)
    generalize W3.putObj D (.deferred none)=W4 at*
    exact ⟨.bool true,(by simp only [results,Tryz.results33];go_simp),aD HA.out.symm,hxx⟩
   case stop=>
    rintro D c pre W hD hpre ⟨rfl,h1,h2,h3,h4⟩ hK
    obtain ⟨y,hy,hyn⟩:=h4
    have HA:=zH (show (ns.all okN && (allV ns rs).all (okV ns.length))=false by
     have:(allV ns rs).all (okV ns.length)=false:=List.all_eq_false.2 ⟨y,hpre.subset hy,by rw [hyn];simp⟩
     rw [this,Bool.and_false])
    gi_wp2
    refine ⟨by simp,.inl ⟨_,_,rfl,run_takeDeferred hK,?_⟩⟩
    have hab:AbI w2.heap.size (V.heap.size+1) W (W.putObj D (.deferred none)):=AP hD hK rfl
    have g:(W.putObj D (.deferred none)).cell? ⟨V.heap.size+1,0,none⟩=some (.bool false):=by
     have:=(hab.below.block (V.heap.size+1) oM).trans h2
     simp [World.cell?,this]
    have hxx:=Below.trans h1 (Below.mono hab.below oM)
    generalize W.putObj D (.deferred none)=W4 at*
    exact ⟨.bool false,(by simp only [results,Tryz.results33];go_simp),aD HA.out.symm,hxx⟩
  have b0:wr.cell? ⟨V.heap.size,0,none⟩=some (.slice nA ns.length ncap):=hx.out.cell (by simp [World.cell?,hbg])
  have hb1:=(hx.out.block (aA hbr)).trans hbr
  have e1:wr.cell? ⟨V.heap.size+1,0,none⟩=some (.bool false):=by simp [World.cell?,hb1]
  have e2:wr.frozen? ⟨V.heap.size+1,0,none⟩=false:=by simp [World.frozen?,hb1]
  obtain ⟨nb,noff,rfl,hcn⟩:=HN.out.row.get oM
  obtain ⟨d0,d1,d2⟩:=ah hcn hlt
  have f0:=hx.out.cell (hw0.cell d0)
  have f1:=hx.out.cell (hw0.cell d1)
  have f2:=hx.out.cell (hw0.cell d2)
  have HU:=zH (fun h=>upTo (p:=okN) (l:=ns) (d:=default) hq.out h)
  have HNN:=zH (show okN (ns.getD k default)=false→(ns.all okN && (allV ns rs).all (okV ns.length))=false from fun h=>by rw [cg (p:=okN) (l:=ns) (d:=default) hlt h,Bool.false_and])
  have ib1:(k:Int) < (ns.length:Int):=by omega
  have hsw:=hx.out.size
  clear hcn d0 d1 d2 hq
  generalize ns.getD k default=x at*
  obtain ⟨xk,xA,xc,fs,yA,yc,ys⟩:=x
  simp only at f0 f1 f2
  have HB1:=zH hb1
  clear hb1
  have hfin:∀o,Ext V ((wr.setCell ⟨V.heap.size+1,0,none⟩ (.bool false)).alloc o):=fun o=>((hw0.trans hx.out).setCell sM _).alloc o
  have HFIN:=zH hfin
  have hvw:V.heap.size+1 < wr.heap.size:=by omega
  clear hfin
  by_cases h1:xk < 0
  ·have hd1:decide (xk < 0)=true:=by simpa using h1
   have HR:=zH (HNN.out (by simp [okN];omega))
   clear HNN HU h1
   gi_wp2
   exact ⟨.bool false,(by simp only [results,Tryz.results33];go_simp),aD HR.out.symm,HFIN.out _⟩
  have hd1:decide (xk < 0)=false:=by simpa using h1
  by_cases h2:31 < xk
  ·have hd2:decide (31 < xk)=true:=by simpa using h2
   have HR:=zH (HNN.out (by simp [okN];omega))
   clear HNN HU h1 h2
   gi_wp2
   exact ⟨.bool false,(by simp only [results,Tryz.results33];go_simp),aD HR.out.symm,HFIN.out _⟩
  have hd2:decide (31 < xk)=false:=by simpa using h2
  by_cases h3:4096 < fs.length
  ·have hd3:decide ((4096:Int) < (fs.length:Int))=true:=by simp;omega
   have HR:=zH (HNN.out (by simp [okN];omega))
   clear HNN HU h1 h2 h3
   gi_wp2
   exact ⟨.bool false,(by simp only [results,Tryz.results33];go_simp),aD HR.out.symm,HFIN.out _⟩
  have hd3:decide ((4096:Int) < (fs.length:Int))=false:=by simp;omega
  by_cases h4:4096 < ys.length
  ·have hd4:decide ((4096:Int) < (ys.length:Int))=true:=by simp;omega
   have HR:=zH (HNN.out (by simp [okN];omega))
   clear HNN HU h1 h2 h3 h4
   gi_wp2
   exact ⟨.bool false,(by simp only [results,Tryz.results33];go_simp),aD HR.out.symm,HFIN.out _⟩
  have hd4:decide ((4096:Int) < (ys.length:Int))=false:=by simp;omega
  have HR:=zH (HU.out (by simp [okN];omega))
  clear HNN HU h1 h2 h3 h4
  gi_wp2
  exact ⟨⟨k+1,by omega,by go_num,zH (hx.out.alloc _),HR⟩,by simp [intOf];omega⟩
theorem lj (G:GraphD) (V:World) (hG:GraphAt V G) (hn:G.ns.length≤9223372036854775807) (hr:G.rs.length≤9223372036854775807) (hf:∀x∈G.ns,x.fields.length≤9223372036854775807):
  Calls Tryz.prog 33 #[.agg #[.slice G.nA G.ns.length G.ncap,.slice G.rA G.rs.length G.rcap]] V fun e w'=>e= .returned (.bool (aV G))∧Ext V w':=by
 rw [wX]
 exact yP _ _ _ _ _ _ V hG.nodes hG.roots hn hr hf
def aY (x:NodeD):Int×List (Int×Int)×List Int:=(x.kind,x.fields,x.raws)
def dA (x y:NodeD):Bool:=decide (x.kind=y.kind) && (decide (x.fields=y.fields) && decide (x.raws=y.raws))
def gF (a b:List NodeD):Bool:=decide (a.map aY=b.map aY)
def ia (G H:GraphD):Bool:=decide (G.rs=H.rs) && gF G.ns H.ns
theorem nK {x y:NodeD}:dA x y=true↔aY x=aY y:=by simp [dA,aY]
theorem nL {a b:List NodeD} (hl:a.length=b.length) (h:∀i,i < a.length→dA (a.getD i default) (b.getD i default)=true):gF a b=true:=by
 unfold gF
 rw [decide_eq_true_eq]
 refine List.ext_getElem (by simpa using hl) fun i h1 h2=> ?_
 have h1':i < a.length:=by simpa using h1
 have h2':i < b.length:=by simpa using h2
 have:=nK.1 (h i h1')
 simpa [List.getElem?_eq_getElem h1',List.getElem?_eq_getElem h2']using this
theorem nM {a b:List NodeD} (h:a.length≠b.length):gF a b=false:=by
 unfold gF
 rw [decide_eq_false_iff_not]
 intro e
 have:=congrArg List.length e
 simp at this
 exact h this
theorem nN {a b:List NodeD} {k:Nat} (hk:k < a.length) (hk2:k < b.length) (h:dA (a.getD k default) (b.getD k default)=false):gF a b=false:=by
 unfold gF
 rw [decide_eq_false_iff_not]
 intro e
 have h2:(a.map aY)[k]?=(b.map aY)[k]?:=by rw [e]
 rw [List.getElem?_map,List.getElem?_map,List.getElem?_eq_getElem hk,List.getElem?_eq_getElem hk2]at h2
 simp only [Option.map_some,Option.some.injEq]at h2
 have h3:=nK.2 h2
 rw [List.getD_eq_getElem?_getD,List.getD_eq_getElem?_getD,List.getElem?_eq_getElem hk,List.getElem?_eq_getElem hk2]at h
 simp only [Option.getD_some]at h
 rw [h3]at h
 cases h
theorem yu {a b:List NodeD} {k:Nat} (hq:∀i,i < k→dA (a.getD i default) (b.getD i default)=true) (h:dA (a.getD k default) (b.getD k default)=true):∀i,i < k+1→dA (a.getD i default) (b.getD i default)=true:=fun i hi=>by
 rcases Nat.lt_or_ge i k with h' | h'
 ·exact hq i h'
 ·obtain rfl:i=k:=by omega
  exact h
def jo (x:NodeD):Prop:=x.fields.length≤9223372036854775807∧x.raws.length≤9223372036854775807
theorem nO (A A2:Option Addr) (cap cap2:Nat) (xs ys:List (Int×Int)) (b:Bool) (hb:decide (xs=ys)=b) (W:World) (hlen:xs.length≤9223372036854775807) (hlen2:ys.length≤9223372036854775807) (hl:SpansAt W A xs) (hl2:SpansAt W A2 ys):
  Calls Tryz.prog 107 #[.slice A xs.length cap,.slice A2 ys.length cap2] W fun e w'=>e= .returned (.bool b)∧Ext W w':=by
 subst hb;exact rg A A2 cap cap2 xs ys W hlen hlen2 hl hl2
theorem uY (A A2:Option Addr) (cap cap2:Nat) (xs ys:List Int) (b:Bool) (hb:decide (xs=ys)=b) (W:World) (hlen:xs.length≤9223372036854775807) (hlen2:ys.length≤9223372036854775807) (hl:WordsAt W A xs) (hl2:WordsAt W A2 ys):
  Calls Tryz.prog 110 #[.slice A xs.length cap,.slice A2 ys.length cap2] W fun e w'=>e= .returned (.bool b)∧Ext W w':=by
 subst hb;exact rh A A2 cap cap2 xs ys W hlen hlen2 hl hl2
theorem jC (A A2:Option Addr) (cap cap2:Nat) (xs ys:List (Int×Int)) (b:Bool) (hb:decide (xs=ys)=b) (W:World) (hlen:xs.length≤9223372036854775807) (hlen2:ys.length≤9223372036854775807) (hl:SpansAt W A xs) (hl2:SpansAt W A2 ys):
  Calls Tryz.prog 30 #[.slice A xs.length cap,.slice A2 ys.length cap2] W fun e w'=>e= .returned (.bool b)∧Ext W w':=by
 subst hb;exact vv A A2 cap cap2 xs ys W hlen hlen2 hl hl2
theorem iD (A A2:Option Addr) (cap cap2:Nat) (xs ys:List Int) (b:Bool) (hb:decide (xs=ys)=b) (W:World) (hlen:xs.length≤9223372036854775807) (hlen2:ys.length≤9223372036854775807) (hl:WordsAt W A xs) (hl2:WordsAt W A2 ys):
  Calls Tryz.prog 54 #[.slice A xs.length cap,.slice A2 ys.length cap2] W fun e w'=>e= .returned (.bool b)∧Ext W w':=by
 subst hb;exact mT A A2 cap cap2 xs ys W hlen hlen2 hl hl2
theorem uZ (x y:NodeD) (W:World) (hx:NodeAt W x) (hy:NodeAt W y) (bx:jo x) (bY:jo y):
  Calls Tryz.prog 109 #[.agg #[.int .i64 x.kind,.slice x.fA x.fields.length x.fcap,.slice x.rA x.raws.length x.rcap],.agg #[.int .i64 y.kind,.slice y.fA y.fields.length y.fcap,.slice y.rA y.raws.length y.rcap]] W fun e w'=>e= .returned (.bool (dA x y))∧Ext W w':=by
 have HX:=zH hx
 have HY:=zH hy
 obtain ⟨x1,x2⟩:=bx
 obtain ⟨y1,y2⟩:=bY
 clear hx hy
 have hw:Ext W ((W.alloc (.cells #[.int .i64 x.kind,.slice x.fA x.fields.length x.fcap,.slice x.rA x.raws.length x.rcap] 66)).alloc (.cells #[.int .i64 y.kind,.slice y.fA y.fields.length y.fcap,.slice y.rA y.raws.length y.rcap] 66)):=((AD W).alloc _).alloc _
 have k2:=fun w' (h:Ext ((W.alloc (.cells #[.int .i64 x.kind,.slice x.fA x.fields.length x.fcap,.slice x.rA x.raws.length x.rcap] 66)).alloc (.cells #[.int .i64 y.kind,.slice y.fA y.fields.length y.fcap,.slice y.rA y.raws.length y.rcap] 66)) w')=>aa W #[.int .i64 x.kind,.slice x.fA x.fields.length x.fcap,.slice x.rA x.raws.length x.rcap] 66 2 (.slice x.rA x.raws.length x.rcap) rfl w' (((AD _).alloc _).trans h)
 have k5:=fun w'=>aa (W.alloc (.cells #[.int .i64 x.kind,.slice x.fA x.fields.length x.fcap,.slice x.rA x.raws.length x.rcap] 66)) #[.int .i64 y.kind,.slice y.fA y.fields.length y.fcap,.slice y.rA y.raws.length y.rcap] 66 2 (.slice y.rA y.raws.length y.rcap) rfl w'
 simp only [World.size_alloc]at k5
 by_cases h1:x.kind=y.kind
 rotate_left
 ·have hd:(x.kind==y.kind)=false:=by simpa using h1
  have HR:=zH (show dA x y=false by simp [dA,h1])
  clear h1 k2 k5
  go_enter Tryz.func109,Tryz.ntmps109
  go_wp2_with fail
  go_ret
  exact ⟨aD HR.out.symm,hw⟩
 have hd:(x.kind==y.kind)=true:=by simpa using h1
 obtain ⟨b,hb⟩:∃b,decide (x.fields=y.fields)=b:=⟨_,rfl⟩
 obtain ⟨c,hc⟩:∃c,decide (x.raws=y.raws)=c:=⟨_,rfl⟩
 have HR:=zH (show dA x y=(b && c)by simp [dA,h1,hb,hc])
 have HB:=zH hb
 have HC:=zH hc
 clear hb hc h1
 go_enter Tryz.func109,Tryz.ntmps109
 go_wp2_with fail
 refine (nO x.fA y.fA x.fcap y.fcap x.fields y.fields b HB.out _ x1 y1 (HX.out.fields.ext hw) (HY.out.fields.ext hw)).mono ?_
 rintro e w1 ⟨rfl,hx1⟩
 have HW:=zH (hw.trans hx1)
 have c2:=k2 w1 hx1
 have c5:=k5 w1 hx1
 clear hx1 k2 k5 hw
 cases b
 ·go_wp2_with fail
  go_ret
  exact ⟨aD HR.out.symm,HW.out⟩
 ·go_wp2_with fail
  refine (uY x.rA y.rA x.rcap y.rcap x.raws y.raws c HC.out _ x2 y2 (HX.out.raws.ext HW.out) (HY.out.raws.ext HW.out)).mono ?_
  rintro e w2 ⟨rfl,hx2⟩
  have HW2:=zH (HW.out.trans hx2)
  clear hx2
  go_wp2_with fail
  go_ret
  exact ⟨aD (HR.out.trans (Bool.true_and _)).symm,HW2.out⟩
theorem sG (A A2:Option Addr) (cap cap2:Nat) (xs ys:List NodeD) (W:World) (hlen:xs.length≤9223372036854775807) (hlen2:ys.length≤9223372036854775807) (hl:NodesAt W A xs) (hl2:NodesAt W A2 ys) (bx:∀x∈xs,jo x) (bY:∀x∈ys,jo x):
  Calls Tryz.prog 108 #[.slice A xs.length cap,.slice A2 ys.length cap2,.func (.func 109) #[] #[]] W fun e w'=>e= .returned (.bool (gF xs ys))∧Ext W w':=by
 have HL:=zH hl
 have HL2:=zH hl2
 have HBX:=zH bx
 have HBY:=zH bY
 clear hl hl2 bx bY
 by_cases hne:xs.length=ys.length
 rotate_left
 ·have h1:((xs.length:Int) !=(ys.length:Int))=true:=by rw [bne_iff_ne];omega
  have HR:=zH (nM hne)
  clear hne
  go_enter Tryz.func108,Tryz.ntmps108
  go_wp2_with fail
  go_ret
  exact ⟨aD (by rw [HR.out]),AD _⟩
 have HN:=zH hne
 have h1:((xs.length:Int) !=(ys.length:Int))=false:=by rw [←HN.out];simp
 clear hne
 go_enter Tryz.func108,Tryz.ntmps108
 go_wp2_with fail
 go_loopw [17] (fun i wr=>∃k:Nat,k≤xs.length∧i= .int .i64 k∧Ext W wr∧Hid (∀i,i < k→dA (xs.getD i default) (ys.getD i default)=true)) (fun i _=>xs.length - (intOf i).toNat)
 case atStart=>exact ⟨0,by omega,rfl,AD _,zH oM⟩
 case round=>
  obtain ⟨k,hk,rfl,hxr,hq⟩:=hrel
  by_cases hlt:k < xs.length
  rotate_left
  ·have HR:=zH (nL HN.out (fun i hi=>hq.out i oM))
   clear hq
   go_wp2_with fail
   go_ret
   exact ⟨aD (by rw [HR.out]),hxr⟩
  have hlt2:k < ys.length:=by have:=HN.out;omega
  obtain ⟨lb,off,rfl,hc⟩:=HL.out.row.get oM
  obtain ⟨lb2,off2,rfl,hc2⟩:=HL2.out.row.get oM
  obtain ⟨d0,d1,d2⟩:=ah hc hlt
  obtain ⟨d3,d4,d5⟩:=ah hc2 hlt2
  have e0:=hxr.cell d0
  have e1:=hxr.cell d1
  have e2:=hxr.cell d2
  have e3:=hxr.cell d3
  have e4:=hxr.cell d4
  have e5:=hxr.cell d5
  have HNX:=zH (HL.out.each _ (aF (d:=default) hlt))
  have HNY:=zH (HL2.out.each _ (aF (d:=default) hlt2))
  have hbx:=zH (HBX.out _ (aF (d:=default) hlt))
  have hby:=zH (HBY.out _ (aF (d:=default) hlt2))
  have HU:=zH (fun h=>yu (a:=xs) (b:=ys) hq.out h)
  have HO:=zH (fun h=>nN (a:=xs) (b:=ys) hlt hlt2 h)
  have hlb:lb < wr.heap.size:=by
   have h:lb < W.heap.size:=by
    unfold World.cell? at d0
    rcases Nat.lt_or_ge lb W.heap.size with h | h
    ·exact h
    ·rw [Array.getElem?_eq_none h]at d0;cases d0
   have:=AG hxr;omega
  have hlb2:lb2 < wr.heap.size:=by
   have h:lb2 < W.heap.size:=by
    unfold World.cell? at d3
    rcases Nat.lt_or_ge lb2 W.heap.size with h | h
    ·exact h
    ·rw [Array.getElem?_eq_none h]at d3;cases d3
   have:=AG hxr;omega
  have ib1:(k:Int) < (xs.length:Int):=by omega
  have ib2:(k:Int) < (ys.length:Int):=by omega
  have ib3:(0:Int)≤(k:Int):=by omega
  clear hc hc2 d0 d1 d2 d3 d4 d5 hq HL HL2 HBX HBY
  generalize xs.getD k default=x at*
  generalize ys.getD k default=y at*
  have hw:Ext W ((wr.alloc (.cells #[.int .i64 x.kind,.slice x.fA x.fields.length x.fcap,.slice x.rA x.raws.length x.rcap] 66)).alloc (.cells #[.int .i64 y.kind,.slice y.fA y.fields.length y.fcap,.slice y.rA y.raws.length y.rcap] 66)):=(hxr.alloc _).alloc _
  go_wp2_with fail
  refine (uZ x y _ (HNX.out.ext hw) (HNY.out.ext hw) hbx.out hby.out).mono ?_
  rintro e w1 ⟨rfl,hx1⟩
  have hW1:=hw.trans hx1
  clear hw hx1
  cases hs:dA x y
  ·have HR:=zH (HO.out hs)
   clear HU HO hs
   go_wp2_with fail
   go_ret
   exact ⟨aD HR.out.symm,hW1⟩
  ·have HR:=zH (HU.out hs)
   clear HU HO hs
   go_wp2_with fail
   go_roundw
   case rel=>exact ⟨k+1,by omega,by go_num,hW1,HR⟩
   case measure=>simp [intOf];omega
theorem wY (G H:GraphD) (W:World) (hG:GraphAt W G) (hH:GraphAt W H) (oG:GraphOk G) (oH:GraphOk H):
  Calls Tryz.prog 64 #[.agg #[.slice G.nA G.ns.length G.ncap,.slice G.rA G.rs.length G.rcap],.agg #[.slice H.nA H.ns.length H.ncap,.slice H.rA H.rs.length H.rcap]] W fun e w'=>e= .returned (.bool (ia G H))∧Ext W w':=by
 have HG:=zH hG
 have HH:=zH hH
 have g1:=oG.nl
 have g2:=oG.rl
 have h1:=oH.nl
 have h2:=oH.rl
 have HBG:=zH (show ∀x∈G.ns,jo x from fun x hx=>⟨by have:=(oG.each x hx).fl;omega,by have:=(oG.each x hx).rl;omega⟩)
 have HBH:=zH (show ∀x∈H.ns,jo x from fun x hx=>⟨by have:=(oH.each x hx).fl;omega,by have:=(oH.each x hx).rl;omega⟩)
 have hw:Ext W ((W.alloc (.cells #[.slice G.nA G.ns.length G.ncap,.slice G.rA G.rs.length G.rcap] 27)).alloc (.cells #[.slice H.nA H.ns.length H.ncap,.slice H.rA H.rs.length H.rcap] 27)):=((AD W).alloc _).alloc _
 have k2:=fun w' (h:Ext ((W.alloc (.cells #[.slice G.nA G.ns.length G.ncap,.slice G.rA G.rs.length G.rcap] 27)).alloc (.cells #[.slice H.nA H.ns.length H.ncap,.slice H.rA H.rs.length H.rcap] 27)) w')=>aa W #[.slice G.nA G.ns.length G.ncap,.slice G.rA G.rs.length G.rcap] 27 0 (.slice G.nA G.ns.length G.ncap) rfl w' (((AD _).alloc _).trans h)
 have k5:=fun w'=>aa (W.alloc (.cells #[.slice G.nA G.ns.length G.ncap,.slice G.rA G.rs.length G.rcap] 27)) #[.slice H.nA H.ns.length H.ncap,.slice H.rA H.rs.length H.rcap] 27 0 (.slice H.nA H.ns.length H.ncap) rfl w'
 simp only [World.size_alloc]at k5
 obtain ⟨b,hb⟩:∃b,decide (G.rs=H.rs)=b:=⟨_,rfl⟩
 have HR:=zH (show ia G H=(b && gF G.ns H.ns)by unfold ia;rw [hb])
 have HB:=zH hb
 clear hG hH oG oH hb
 go_enter Tryz.func64,Tryz.ntmps64
 go_wp2_with fail
 refine (nO G.rA H.rA G.rcap H.rcap G.rs H.rs b HB.out _ oM oM (HG.out.roots.ext hw) (HH.out.roots.ext hw)).mono ?_
 rintro e w1 ⟨rfl,hx1⟩
 have HW:=zH (hw.trans hx1)
 have c2:=k2 w1 hx1
 have c5:=k5 w1 hx1
 clear hx1 k2 k5 hw
 cases b
 ·go_wp2_with fail
  go_ret
  exact ⟨aD HR.out.symm,HW.out⟩
 ·go_wp2_with fail
  refine (sG G.nA H.nA G.ncap H.ncap G.ns H.ns _ oM oM (HG.out.nodes.ext HW.out) (HH.out.nodes.ext HW.out) HBG.out HBH.out).mono ?_
  rintro e w2 ⟨rfl,hx2⟩
  have HW2:=zH (HW.out.trans hx2)
  clear hx2
  go_wp2_with fail
  go_ret
  exact ⟨aD (HR.out.trans (Bool.true_and _)).symm,HW2.out⟩
theorem iE {W w:World} (h:Ext W w):∃u:ExtOf W,w=u.1:=⟨⟨w,h⟩,rfl⟩
theorem ua (nA:Option Addr) (ncap:Nat) (ns:List NodeD) (rA:Option Addr) (rcap:Nat) (rs:List (Int×Int)) (mA:Option Addr) (mcap:Nat) (ms:List NodeD) (qA:Option Addr) (qcap:Nat) (qs:List (Int×Int)) (W:World)
  (hG:NodesAt W nA ns) (hH:NodesAt W mA ms) (hr:SpansAt W rA rs) (hq:SpansAt W qA qs) (g1:ns.length≤9223372036854775807) (g2:rs.length≤9223372036854775807) (h1:ms.length≤9223372036854775807) (h2:qs.length≤9223372036854775807)
  (bG:∀x∈ns,jo x) (bH:∀x∈ms,jo x):
  Calls Tryz.prog 29 #[.agg #[.slice nA ns.length ncap,.slice rA rs.length rcap],.agg #[.slice mA ms.length mcap,.slice qA qs.length qcap]] W fun e w'=>e= .returned (.bool (decide (rs=qs) && gF ns ms))∧Ext W w':=by
 have HG:=zH hG
 have HH:=zH hH
 have HBG:=zH bG
 have HBH:=zH bH
 have HR:=zH hr
 have HQ:=zH hq
 have hw:Ext W ((W.alloc (.cells #[.slice nA ns.length ncap,.slice rA rs.length rcap] 27)).alloc (.cells #[.slice mA ms.length mcap,.slice qA qs.length qcap] 27)):=((AD W).alloc _).alloc _
 have k2:=fun w' (h:Ext ((W.alloc (.cells #[.slice nA ns.length ncap,.slice rA rs.length rcap] 27)).alloc (.cells #[.slice mA ms.length mcap,.slice qA qs.length qcap] 27)) w')=>aa W #[.slice nA ns.length ncap,.slice rA rs.length rcap] 27 0 (.slice nA ns.length ncap) rfl w' (((AD _).alloc _).trans h)
 have k5:=fun w'=>aa (W.alloc (.cells #[.slice nA ns.length ncap,.slice rA rs.length rcap] 27)) #[.slice mA ms.length mcap,.slice qA qs.length qcap] 27 0 (.slice mA ms.length mcap) rfl w'
 have hsz0:((W.alloc (.cells #[.slice nA ns.length ncap,.slice rA rs.length rcap] 27)).alloc (.cells #[.slice mA ms.length mcap,.slice qA qs.length qcap] 27)).heap.size=W.heap.size+2:=by simp
 simp only [World.size_alloc]at k5
 clear hG hH bG bH hr hq
 by_cases hne:ns.length=ms.length
 rotate_left
 ·have hd:((ns.length:Int) !=(ms.length:Int))=true:=by rw [bne_iff_ne];omega
  have HN:=zH (show (decide (rs=qs) && gF ns ms)=false by rw [nM hne,Bool.and_false])
  clear hne k2 k5
  go_enter Tryz.func29,Tryz.ntmps29
  go_wp2_with fail
  go_ret
  exact ⟨aD HN.out.symm,hw⟩
 have HN:=zH hne
 have hd:((ns.length:Int) !=(ms.length:Int))=false:=by rw [←HN.out];simp
 obtain ⟨b,hb⟩:∃b,decide (rs=qs)=b:=⟨_,rfl⟩
 have HB:=zH hb
 rw [hb]
 clear hne hb
 go_enter Tryz.func29,Tryz.ntmps29
 go_wp2_with fail
 generalize ((W.alloc (.cells #[.slice nA ns.length ncap,.slice rA rs.length rcap] 27)).alloc (.cells #[.slice mA ms.length mcap,.slice qA qs.length qcap] 27))=W0 at*
 refine (jC rA qA rcap qcap rs qs b HB.out _ g2 h2 (HR.out.ext hw) (HQ.out.ext hw)).mono ?_
 rintro e W1 ⟨rfl,hx1⟩
 have HW:=zH (hw.trans hx1)
 have hs1:=AG hx1
 replace k2:=fun w' (h:Ext W1 w')=>k2 w' (hx1.trans h)
 replace k5:=fun w' (h:Ext W1 w')=>k5 w' (hx1.trans h)
 cases b
 ·go_wp2_with fail
  go_ret
  exact ⟨rfl,HW.out⟩
 clear hx1 hw HR HQ HB
 go_wp2_with fail
 go_loopw [5] (fun i wr=>∃k:Nat,k≤ns.length∧i= .int .i64 k∧Ext W1 wr∧Hid (∀i,i < k→dA (ns.getD i default) (ms.getD i default)=true)) (fun i _=>ns.length - (intOf i).toNat)
 case atStart=>exact ⟨0,by omega,rfl,AD _,zH oM⟩
 case round=>
  obtain ⟨k,hk,rfl,hxr,hq⟩:=hrel
  have b0:=k2 _ hxr
  have b1:=k5 _ hxr
  have HX:=zH hxr
  have hsr:=AG hxr
  by_cases hlt:k < ns.length
  rotate_left
  ·have HR:=zH (nL HN.out (fun i hi=>hq.out i oM))
   clear hq
   go_wp2_with fail
   go_ret
   exact ⟨aD (by rw [HR.out];rfl),HW.out.trans HX.out⟩
  have hlt2:k < ms.length:=by have:=HN.out;omega
  obtain ⟨lb,off,rfl,hc⟩:=HG.out.row.get oM
  obtain ⟨lb2,off2,rfl,hc2⟩:=HH.out.row.get oM
  obtain ⟨d0,d1,d2⟩:=ah hc hlt
  obtain ⟨d3,d4,d5⟩:=ah hc2 hlt2
  have HXW:=zH (HW.out.trans hxr)
  have e0:=HXW.out.cell d0
  have e1:=HXW.out.cell d1
  have e2:=HXW.out.cell d2
  have e3:=HXW.out.cell d3
  have e4:=HXW.out.cell d4
  have e5:=HXW.out.cell d5
  have HNX:=zH (HG.out.each _ (aF (d:=default) hlt))
  have HNY:=zH (HH.out.each _ (aF (d:=default) hlt2))
  obtain ⟨x1,x2⟩:=HBG.out _ (aF (d:=default) hlt)
  obtain ⟨y1,y2⟩:=HBH.out _ (aF (d:=default) hlt2)
  have HU:=zH (fun h=>yu (a:=ns) (b:=ms) hq.out h)
  have HO:=zH (fun h=>nN (a:=ns) (b:=ms) hlt hlt2 h)
  have ib1:(k:Int) < (ns.length:Int):=by omega
  have ib2:(k:Int) < (ms.length:Int):=by omega
  have ib3:(0:Int)≤(k:Int):=by omega
  have hs0:Ext wr wr:=AD wr
  clear hc hc2 d0 d1 d2 d3 d4 d5 hq HG HH HBG HBH k2 k5 hxr
  generalize ns.getD k default=x at*
  generalize ms.getD k default=y at*
  have l0:∀u:ExtOf wr,u.1.cell? ⟨W.heap.size,0,none⟩=some (.slice (some ⟨lb,off,none⟩) ns.length ncap):=fun u=>u.2.cell b0
  have l1:∀u:ExtOf wr,u.1.cell? ⟨W.heap.size+1,0,none⟩=some (.slice (some ⟨lb2,off2,none⟩) ms.length mcap):=fun u=>u.2.cell b1
  have l2:∀u:ExtOf wr,u.1.cell? ⟨lb,off+k*3,none⟩=some (.int .i64 x.kind):=fun u=>u.2.cell e0
  have l3:∀u:ExtOf wr,u.1.cell? ⟨lb,off+k*3+1,none⟩=some (.slice x.fA x.fields.length x.fcap):=fun u=>u.2.cell e1
  have l4:∀u:ExtOf wr,u.1.cell? ⟨lb,off+k*3+2,none⟩=some (.slice x.rA x.raws.length x.rcap):=fun u=>u.2.cell e2
  have l5:∀u:ExtOf wr,u.1.cell? ⟨lb2,off2+k*3,none⟩=some (.int .i64 y.kind):=fun u=>u.2.cell e3
  have l6:∀u:ExtOf wr,u.1.cell? ⟨lb2,off2+k*3+1,none⟩=some (.slice y.fA y.fields.length y.fcap):=fun u=>u.2.cell e4
  have l7:∀u:ExtOf wr,u.1.cell? ⟨lb2,off2+k*3+2,none⟩=some (.slice y.rA y.raws.length y.rcap):=fun u=>u.2.cell e5
  go_wp2_with fail
  refine eu (fun w'=>∃u:ExtOf wr,w'=u.1) [0,1,2,3,4,5,6,7,8,9] 4 [(10,[(11,[(12,[(13,())])]),(12,[(11,[(13,())])])]),(11,[(10,[(12,[(13,())])])])] [] kR kR (by intro c a d v w h;cases d <;>exact h) ⟨⟨_,(AD wr).drew⟩,rfl⟩ ?_
  simp only [aI,List.map_cons,List.map_nil,List.getD_cons_zero,List.getD_cons_succ]
  (repeat (go_big_quiet_step (fail)))
  refine wpQuiet_nil ?_
  have hs1:Ext wr wr.drew:=(AD wr).drew
  have hs2:wr.drew.heap.size=wr.heap.size:=rfl
  generalize wr.drew=w0 at*
  refine jP ?_ ?_
  ·(refine bi rM ?_;intro K hK;go_simp;refine hK _ _ (iE ?_) ?_;(focus exact zF);clear hK K)
   refine jP ?_ ?_
   ·(refine bi rM ?_;intro K hK;go_simp;refine hK _ _ (iE ?_) ?_;(focus exact zF);clear hK K)
    refine dS ?_
    (refine bi rM ?_;intro K hK;go_simp;refine hK _ _ (iE ?_) ?_;(focus exact zF);clear hK K)
    refine dS ?_
    (refine bi rM ?_;intro K hK;go_simp;refine hK _ _ (iE ?_) ?_;(focus exact zF);clear hK K)
    refine ke ?_
    have hwn:Ext wr ((w0.alloc (.cells #[.int .i64 x.kind,.slice x.fA x.fields.length x.fcap,.slice x.rA x.raws.length x.rcap] 66)).alloc (.cells #[.int .i64 y.kind,.slice y.fA y.fields.length y.fcap,.slice y.rA y.raws.length y.rcap] 66)):=(hs1.alloc _).alloc _
    have kx0:=fun w' (h:Ext ((w0.alloc (.cells #[.int .i64 x.kind,.slice x.fA x.fields.length x.fcap,.slice x.rA x.raws.length x.rcap] 66)).alloc (.cells #[.int .i64 y.kind,.slice y.fA y.fields.length y.fcap,.slice y.rA y.raws.length y.rcap] 66)) w')=>aa w0 #[.int .i64 x.kind,.slice x.fA x.fields.length x.fcap,.slice x.rA x.raws.length x.rcap] 66 0 (.int .i64 x.kind) rfl w' (((AD _).alloc _).trans h)
    have kx1:=fun w' (h:Ext ((w0.alloc (.cells #[.int .i64 x.kind,.slice x.fA x.fields.length x.fcap,.slice x.rA x.raws.length x.rcap] 66)).alloc (.cells #[.int .i64 y.kind,.slice y.fA y.fields.length y.fcap,.slice y.rA y.raws.length y.rcap] 66)) w')=>aa w0 #[.int .i64 x.kind,.slice x.fA x.fields.length x.fcap,.slice x.rA x.raws.length x.rcap] 66 1 (.slice x.fA x.fields.length x.fcap) rfl w' (((AD _).alloc _).trans h)
    have kx2:=fun w' (h:Ext ((w0.alloc (.cells #[.int .i64 x.kind,.slice x.fA x.fields.length x.fcap,.slice x.rA x.raws.length x.rcap] 66)).alloc (.cells #[.int .i64 y.kind,.slice y.fA y.fields.length y.fcap,.slice y.rA y.raws.length y.rcap] 66)) w')=>aa w0 #[.int .i64 x.kind,.slice x.fA x.fields.length x.fcap,.slice x.rA x.raws.length x.rcap] 66 2 (.slice x.rA x.raws.length x.rcap) rfl w' (((AD _).alloc _).trans h)
    have ky0:=fun w' (h:Ext ((w0.alloc (.cells #[.int .i64 x.kind,.slice x.fA x.fields.length x.fcap,.slice x.rA x.raws.length x.rcap] 66)).alloc (.cells #[.int .i64 y.kind,.slice y.fA y.fields.length y.fcap,.slice y.rA y.raws.length y.rcap] 66)) w')=>aa (w0.alloc (.cells #[.int .i64 x.kind,.slice x.fA x.fields.length x.fcap,.slice x.rA x.raws.length x.rcap] 66)) #[.int .i64 y.kind,.slice y.fA y.fields.length y.fcap,.slice y.rA y.raws.length y.rcap] 66 0 (.int .i64 y.kind) rfl w' (h)
    have ky1:=fun w' (h:Ext ((w0.alloc (.cells #[.int .i64 x.kind,.slice x.fA x.fields.length x.fcap,.slice x.rA x.raws.length x.rcap] 66)).alloc (.cells #[.int .i64 y.kind,.slice y.fA y.fields.length y.fcap,.slice y.rA y.raws.length y.rcap] 66)) w')=>aa (w0.alloc (.cells #[.int .i64 x.kind,.slice x.fA x.fields.length x.fcap,.slice x.rA x.raws.length x.rcap] 66)) #[.int .i64 y.kind,.slice y.fA y.fields.length y.fcap,.slice y.rA y.raws.length y.rcap] 66 1 (.slice y.fA y.fields.length y.fcap) rfl w' (h)
    have ky2:=fun w' (h:Ext ((w0.alloc (.cells #[.int .i64 x.kind,.slice x.fA x.fields.length x.fcap,.slice x.rA x.raws.length x.rcap] 66)).alloc (.cells #[.int .i64 y.kind,.slice y.fA y.fields.length y.fcap,.slice y.rA y.raws.length y.rcap] 66)) w')=>aa (w0.alloc (.cells #[.int .i64 x.kind,.slice x.fA x.fields.length x.fcap,.slice x.rA x.raws.length x.rcap] 66)) #[.int .i64 y.kind,.slice y.fA y.fields.length y.fcap,.slice y.rA y.raws.length y.rcap] 66 2 (.slice y.rA y.raws.length y.rcap) rfl w' (h)
    simp only [World.size_alloc,hs2]at kx0 kx1 kx2 ky0 ky1 ky2
    generalize ((w0.alloc (.cells #[.int .i64 x.kind,.slice x.fA x.fields.length x.fcap,.slice x.rA x.raws.length x.rcap] 66)).alloc (.cells #[.int .i64 y.kind,.slice y.fA y.fields.length y.fcap,.slice y.rA y.raws.length y.rcap] 66))=Wn at*
    have cx0:=kx0 _ (AD _)
    have cx1:=kx1 _ (AD _)
    have cx2:=kx2 _ (AD _)
    have cy0:=ky0 _ (AD _)
    have cy1:=ky1 _ (AD _)
    have cy2:=ky2 _ (AD _)
    have HWN:=zH hwn
    clear hs1 hs2 hwn
    by_cases hkk:x.kind=y.kind
    rotate_left
    ·have hd:(x.kind !=y.kind)=true:=by simpa using hkk
     have HR:=zH (HO.out (by simp [dA,hkk]))
     clear HO HU hkk
     go_wp2_with fail
     go_ret
     exact ⟨aD (by rw [HR.out];rfl),HXW.out.trans HWN.out⟩
    have hd:(x.kind !=y.kind)=false:=by simpa using hkk
    obtain ⟨b,hb⟩:∃b,decide (x.fields=y.fields)=b:=⟨_,rfl⟩
    obtain ⟨c,hc⟩:∃c,decide (x.raws=y.raws)=c:=⟨_,rfl⟩
    have HS:=zH (show dA x y=(b && c)by simp [dA,hkk,hb,hc])
    have HB:=zH hb
    have HC:=zH hc
    clear hb hc hkk
    go_wp2_with fail
    refine (jC x.fA y.fA x.fcap y.fcap x.fields y.fields b HB.out _ x1 y1 (HNX.out.fields.ext (HXW.out.trans HWN.out)) (HNY.out.fields.ext (HXW.out.trans HWN.out))).mono ?_
    rintro e w1 ⟨rfl,hx1⟩
    have cx2:=kx2 _ hx1
    have cy2:=ky2 _ hx1
    have HX1:=zH (HWN.out.trans hx1)
    clear hx1
    cases b
    ·have HR:=zH (HO.out HS.out)
     clear HO HU
     go_wp2_with fail
     go_ret
     exact ⟨aD (by rw [HR.out];rfl),HXW.out.trans HX1.out⟩
    go_wp2_with fail
    refine (iD x.rA y.rA x.rcap y.rcap x.raws y.raws c HC.out _ x2 y2 (HNX.out.raws.ext (HXW.out.trans HX1.out)) (HNY.out.raws.ext (HXW.out.trans HX1.out))).mono ?_
    rintro e w2 ⟨rfl,hx2⟩
    have HX2:=zH (HX1.out.trans hx2)
    clear hx2
    cases c
    ·have HR:=zH (HO.out HS.out)
     clear HO HU
     go_wp2_with fail
     go_ret
     exact ⟨aD (by rw [HR.out];rfl),HXW.out.trans HX2.out⟩
    ·have HR:=zH (HU.out HS.out)
     clear HO HU
     go_wp2_with fail
     go_roundw
     case rel=>exact ⟨k+1,by omega,by go_num,HX.out.trans HX2.out,HR⟩
     case measure=>simp [intOf];omega
   ·(refine bi rM ?_;intro K hK;go_simp;refine hK _ _ (iE ?_) ?_;(focus exact zF);clear hK K)
    refine dS ?_
    (refine bi rM ?_;intro K hK;go_simp;refine hK _ _ (iE ?_) ?_;(focus exact zF);clear hK K)
    refine dS ?_
    (refine bi rM ?_;intro K hK;go_simp;refine hK _ _ (iE ?_) ?_;(focus exact zF);clear hK K)
    refine ke ?_
    have hwn:Ext wr ((w0.alloc (.cells #[.int .i64 x.kind,.slice x.fA x.fields.length x.fcap,.slice x.rA x.raws.length x.rcap] 66)).alloc (.cells #[.int .i64 y.kind,.slice y.fA y.fields.length y.fcap,.slice y.rA y.raws.length y.rcap] 66)):=(hs1.alloc _).alloc _
    have kx0:=fun w' (h:Ext ((w0.alloc (.cells #[.int .i64 x.kind,.slice x.fA x.fields.length x.fcap,.slice x.rA x.raws.length x.rcap] 66)).alloc (.cells #[.int .i64 y.kind,.slice y.fA y.fields.length y.fcap,.slice y.rA y.raws.length y.rcap] 66)) w')=>aa w0 #[.int .i64 x.kind,.slice x.fA x.fields.length x.fcap,.slice x.rA x.raws.length x.rcap] 66 0 (.int .i64 x.kind) rfl w' (((AD _).alloc _).trans h)
    have kx1:=fun w' (h:Ext ((w0.alloc (.cells #[.int .i64 x.kind,.slice x.fA x.fields.length x.fcap,.slice x.rA x.raws.length x.rcap] 66)).alloc (.cells #[.int .i64 y.kind,.slice y.fA y.fields.length y.fcap,.slice y.rA y.raws.length y.rcap] 66)) w')=>aa w0 #[.int .i64 x.kind,.slice x.fA x.fields.length x.fcap,.slice x.rA x.raws.length x.rcap] 66 1 (.slice x.fA x.fields.length x.fcap) rfl w' (((AD _).alloc _).trans h)
    have kx2:=fun w' (h:Ext ((w0.alloc (.cells #[.int .i64 x.kind,.slice x.fA x.fields.length x.fcap,.slice x.rA x.raws.length x.rcap] 66)).alloc (.cells #[.int .i64 y.kind,.slice y.fA y.fields.length y.fcap,.slice y.rA y.raws.length y.rcap] 66)) w')=>aa w0 #[.int .i64 x.kind,.slice x.fA x.fields.length x.fcap,.slice x.rA x.raws.length x.rcap] 66 2 (.slice x.rA x.raws.length x.rcap) rfl w' (((AD _).alloc _).trans h)
    have ky0:=fun w' (h:Ext ((w0.alloc (.cells #[.int .i64 x.kind,.slice x.fA x.fields.length x.fcap,.slice x.rA x.raws.length x.rcap] 66)).alloc (.cells #[.int .i64 y.kind,.slice y.fA y.fields.length y.fcap,.slice y.rA y.raws.length y.rcap] 66)) w')=>aa (w0.alloc (.cells #[.int .i64 x.kind,.slice x.fA x.fields.length x.fcap,.slice x.rA x.raws.length x.rcap] 66)) #[.int .i64 y.kind,.slice y.fA y.fields.length y.fcap,.slice y.rA y.raws.length y.rcap] 66 0 (.int .i64 y.kind) rfl w' (h)
    have ky1:=fun w' (h:Ext ((w0.alloc (.cells #[.int .i64 x.kind,.slice x.fA x.fields.length x.fcap,.slice x.rA x.raws.length x.rcap] 66)).alloc (.cells #[.int .i64 y.kind,.slice y.fA y.fields.length y.fcap,.slice y.rA y.raws.length y.rcap] 66)) w')=>aa (w0.alloc (.cells #[.int .i64 x.kind,.slice x.fA x.fields.length x.fcap,.slice x.rA x.raws.length x.rcap] 66)) #[.int .i64 y.kind,.slice y.fA y.fields.length y.fcap,.slice y.rA y.raws.length y.rcap] 66 1 (.slice y.fA y.fields.length y.fcap) rfl w' (h)
    have ky2:=fun w' (h:Ext ((w0.alloc (.cells #[.int .i64 x.kind,.slice x.fA x.fields.length x.fcap,.slice x.rA x.raws.length x.rcap] 66)).alloc (.cells #[.int .i64 y.kind,.slice y.fA y.fields.length y.fcap,.slice y.rA y.raws.length y.rcap] 66)) w')=>aa (w0.alloc (.cells #[.int .i64 x.kind,.slice x.fA x.fields.length x.fcap,.slice x.rA x.raws.length x.rcap] 66)) #[.int .i64 y.kind,.slice y.fA y.fields.length y.fcap,.slice y.rA y.raws.length y.rcap] 66 2 (.slice y.rA y.raws.length y.rcap) rfl w' (h)
    simp only [World.size_alloc,hs2]at kx0 kx1 kx2 ky0 ky1 ky2
    generalize ((w0.alloc (.cells #[.int .i64 x.kind,.slice x.fA x.fields.length x.fcap,.slice x.rA x.raws.length x.rcap] 66)).alloc (.cells #[.int .i64 y.kind,.slice y.fA y.fields.length y.fcap,.slice y.rA y.raws.length y.rcap] 66))=Wn at*
    have cx0:=kx0 _ (AD _)
    have cx1:=kx1 _ (AD _)
    have cx2:=kx2 _ (AD _)
    have cy0:=ky0 _ (AD _)
    have cy1:=ky1 _ (AD _)
    have cy2:=ky2 _ (AD _)
    have HWN:=zH hwn
    clear hs1 hs2 hwn
    by_cases hkk:x.kind=y.kind
    rotate_left
    ·have hd:(x.kind !=y.kind)=true:=by simpa using hkk
     have HR:=zH (HO.out (by simp [dA,hkk]))
     clear HO HU hkk
     go_wp2_with fail
     go_ret
     exact ⟨aD (by rw [HR.out];rfl),HXW.out.trans HWN.out⟩
    have hd:(x.kind !=y.kind)=false:=by simpa using hkk
    obtain ⟨b,hb⟩:∃b,decide (x.fields=y.fields)=b:=⟨_,rfl⟩
    obtain ⟨c,hc⟩:∃c,decide (x.raws=y.raws)=c:=⟨_,rfl⟩
    have HS:=zH (show dA x y=(b && c)by simp [dA,hkk,hb,hc])
    have HB:=zH hb
    have HC:=zH hc
    clear hb hc hkk
    go_wp2_with fail
    refine (jC x.fA y.fA x.fcap y.fcap x.fields y.fields b HB.out _ x1 y1 (HNX.out.fields.ext (HXW.out.trans HWN.out)) (HNY.out.fields.ext (HXW.out.trans HWN.out))).mono ?_
    rintro e w1 ⟨rfl,hx1⟩
    have cx2:=kx2 _ hx1
    have cy2:=ky2 _ hx1
    have HX1:=zH (HWN.out.trans hx1)
    clear hx1
    cases b
    ·have HR:=zH (HO.out HS.out)
     clear HO HU
     go_wp2_with fail
     go_ret
     exact ⟨aD (by rw [HR.out];rfl),HXW.out.trans HX1.out⟩
    go_wp2_with fail
    refine (iD x.rA y.rA x.rcap y.rcap x.raws y.raws c HC.out _ x2 y2 (HNX.out.raws.ext (HXW.out.trans HX1.out)) (HNY.out.raws.ext (HXW.out.trans HX1.out))).mono ?_
    rintro e w2 ⟨rfl,hx2⟩
    have HX2:=zH (HX1.out.trans hx2)
    clear hx2
    cases c
    ·have HR:=zH (HO.out HS.out)
     clear HO HU
     go_wp2_with fail
     go_ret
     exact ⟨aD (by rw [HR.out];rfl),HXW.out.trans HX2.out⟩
    ·have HR:=zH (HU.out HS.out)
     clear HO HU
     go_wp2_with fail
     go_roundw
     case rel=>exact ⟨k+1,by omega,by go_num,HX.out.trans HX2.out,HR⟩
     case measure=>simp [intOf];omega
  ·(refine bi rM ?_;intro K hK;go_simp;refine hK _ _ (iE ?_) ?_;(focus exact zF);clear hK K)
   refine dS ?_
   (refine bi rM ?_;intro K hK;go_simp;refine hK _ _ (iE ?_) ?_;(focus exact zF);clear hK K)
   refine dS ?_
   (refine bi rM ?_;intro K hK;go_simp;refine hK _ _ (iE ?_) ?_;(focus exact zF);clear hK K)
   refine dS ?_
   (refine bi rM ?_;intro K hK;go_simp;refine hK _ _ (iE ?_) ?_;(focus exact zF);clear hK K)
   refine ke ?_
   have hwn:Ext wr ((w0.alloc (.cells #[.int .i64 y.kind,.slice y.fA y.fields.length y.fcap,.slice y.rA y.raws.length y.rcap] 66)).alloc (.cells #[.int .i64 x.kind,.slice x.fA x.fields.length x.fcap,.slice x.rA x.raws.length x.rcap] 66)):=(hs1.alloc _).alloc _
   have ky0:=fun w' (h:Ext ((w0.alloc (.cells #[.int .i64 y.kind,.slice y.fA y.fields.length y.fcap,.slice y.rA y.raws.length y.rcap] 66)).alloc (.cells #[.int .i64 x.kind,.slice x.fA x.fields.length x.fcap,.slice x.rA x.raws.length x.rcap] 66)) w')=>aa w0 #[.int .i64 y.kind,.slice y.fA y.fields.length y.fcap,.slice y.rA y.raws.length y.rcap] 66 0 (.int .i64 y.kind) rfl w' (((AD _).alloc _).trans h)
   have ky1:=fun w' (h:Ext ((w0.alloc (.cells #[.int .i64 y.kind,.slice y.fA y.fields.length y.fcap,.slice y.rA y.raws.length y.rcap] 66)).alloc (.cells #[.int .i64 x.kind,.slice x.fA x.fields.length x.fcap,.slice x.rA x.raws.length x.rcap] 66)) w')=>aa w0 #[.int .i64 y.kind,.slice y.fA y.fields.length y.fcap,.slice y.rA y.raws.length y.rcap] 66 1 (.slice y.fA y.fields.length y.fcap) rfl w' (((AD _).alloc _).trans h)
   have ky2:=fun w' (h:Ext ((w0.alloc (.cells #[.int .i64 y.kind,.slice y.fA y.fields.length y.fcap,.slice y.rA y.raws.length y.rcap] 66)).alloc (.cells #[.int .i64 x.kind,.slice x.fA x.fields.length x.fcap,.slice x.rA x.raws.length x.rcap] 66)) w')=>aa w0 #[.int .i64 y.kind,.slice y.fA y.fields.length y.fcap,.slice y.rA y.raws.length y.rcap] 66 2 (.slice y.rA y.raws.length y.rcap) rfl w' (((AD _).alloc _).trans h)
   have kx0:=fun w' (h:Ext ((w0.alloc (.cells #[.int .i64 y.kind,.slice y.fA y.fields.length y.fcap,.slice y.rA y.raws.length y.rcap] 66)).alloc (.cells #[.int .i64 x.kind,.slice x.fA x.fields.length x.fcap,.slice x.rA x.raws.length x.rcap] 66)) w')=>aa (w0.alloc (.cells #[.int .i64 y.kind,.slice y.fA y.fields.length y.fcap,.slice y.rA y.raws.length y.rcap] 66)) #[.int .i64 x.kind,.slice x.fA x.fields.length x.fcap,.slice x.rA x.raws.length x.rcap] 66 0 (.int .i64 x.kind) rfl w' (h)
   have kx1:=fun w' (h:Ext ((w0.alloc (.cells #[.int .i64 y.kind,.slice y.fA y.fields.length y.fcap,.slice y.rA y.raws.length y.rcap] 66)).alloc (.cells #[.int .i64 x.kind,.slice x.fA x.fields.length x.fcap,.slice x.rA x.raws.length x.rcap] 66)) w')=>aa (w0.alloc (.cells #[.int .i64 y.kind,.slice y.fA y.fields.length y.fcap,.slice y.rA y.raws.length y.rcap] 66)) #[.int .i64 x.kind,.slice x.fA x.fields.length x.fcap,.slice x.rA x.raws.length x.rcap] 66 1 (.slice x.fA x.fields.length x.fcap) rfl w' (h)
   have kx2:=fun w' (h:Ext ((w0.alloc (.cells #[.int .i64 y.kind,.slice y.fA y.fields.length y.fcap,.slice y.rA y.raws.length y.rcap] 66)).alloc (.cells #[.int .i64 x.kind,.slice x.fA x.fields.length x.fcap,.slice x.rA x.raws.length x.rcap] 66)) w')=>aa (w0.alloc (.cells #[.int .i64 y.kind,.slice y.fA y.fields.length y.fcap,.slice y.rA y.raws.length y.rcap] 66)) #[.int .i64 x.kind,.slice x.fA x.fields.length x.fcap,.slice x.rA x.raws.length x.rcap] 66 2 (.slice x.rA x.raws.length x.rcap) rfl w' (h)
   simp only [World.size_alloc,hs2]at kx0 kx1 kx2 ky0 ky1 ky2
   generalize ((w0.alloc (.cells #[.int .i64 y.kind,.slice y.fA y.fields.length y.fcap,.slice y.rA y.raws.length y.rcap] 66)).alloc (.cells #[.int .i64 x.kind,.slice x.fA x.fields.length x.fcap,.slice x.rA x.raws.length x.rcap] 66))=Wn at*
   have cx0:=kx0 _ (AD _)
   have cx1:=kx1 _ (AD _)
   have cx2:=kx2 _ (AD _)
   have cy0:=ky0 _ (AD _)
   have cy1:=ky1 _ (AD _)
   have cy2:=ky2 _ (AD _)
   have HWN:=zH hwn
   clear hs1 hs2 hwn
   by_cases hkk:x.kind=y.kind
   rotate_left
   ·have hd:(x.kind !=y.kind)=true:=by simpa using hkk
    have HR:=zH (HO.out (by simp [dA,hkk]))
    clear HO HU hkk
    go_wp2_with fail
    go_ret
    exact ⟨aD (by rw [HR.out];rfl),HXW.out.trans HWN.out⟩
   have hd:(x.kind !=y.kind)=false:=by simpa using hkk
   obtain ⟨b,hb⟩:∃b,decide (x.fields=y.fields)=b:=⟨_,rfl⟩
   obtain ⟨c,hc⟩:∃c,decide (x.raws=y.raws)=c:=⟨_,rfl⟩
   have HS:=zH (show dA x y=(b && c)by simp [dA,hkk,hb,hc])
   have HB:=zH hb
   have HC:=zH hc
   clear hb hc hkk
   go_wp2_with fail
   refine (jC x.fA y.fA x.fcap y.fcap x.fields y.fields b HB.out _ x1 y1 (HNX.out.fields.ext (HXW.out.trans HWN.out)) (HNY.out.fields.ext (HXW.out.trans HWN.out))).mono ?_
   rintro e w1 ⟨rfl,hx1⟩
   have cx2:=kx2 _ hx1
   have cy2:=ky2 _ hx1
   have HX1:=zH (HWN.out.trans hx1)
   clear hx1
   cases b
   ·have HR:=zH (HO.out HS.out)
    clear HO HU
    go_wp2_with fail
    go_ret
    exact ⟨aD (by rw [HR.out];rfl),HXW.out.trans HX1.out⟩
   go_wp2_with fail
   refine (iD x.rA y.rA x.rcap y.rcap x.raws y.raws c HC.out _ x2 y2 (HNX.out.raws.ext (HXW.out.trans HX1.out)) (HNY.out.raws.ext (HXW.out.trans HX1.out))).mono ?_
   rintro e w2 ⟨rfl,hx2⟩
   have HX2:=zH (HX1.out.trans hx2)
   clear hx2
   cases c
   ·have HR:=zH (HO.out HS.out)
    clear HO HU
    go_wp2_with fail
    go_ret
    exact ⟨aD (by rw [HR.out];rfl),HXW.out.trans HX2.out⟩
   ·have HR:=zH (HU.out HS.out)
    clear HO HU
    go_wp2_with fail
    go_roundw
    case rel=>exact ⟨k+1,by omega,by go_num,HX.out.trans HX2.out,HR⟩
    case measure=>simp [intOf];omega
theorem oy (G H:GraphD) (W:World) (hG:GraphAt W G) (hH:GraphAt W H) (oG:GraphOk G) (oH:GraphOk H):
  Calls Tryz.prog 29 #[.agg #[.slice G.nA G.ns.length G.ncap,.slice G.rA G.rs.length G.rcap],.agg #[.slice H.nA H.ns.length H.ncap,.slice H.rA H.rs.length H.rcap]] W fun e w'=>e= .returned (.bool (ia G H))∧Ext W w':=by
 have g1:=oG.nl
 have g2:=oG.rl
 have h1:=oH.nl
 have h2:=oH.rl
 exact ua _ _ _ _ _ _ _ _ _ _ _ _ W hG.nodes hH.nodes hG.roots hH.roots oM oM oM oM
  (fun x hx=>⟨by have:=(oG.each x hx).fl;omega,by have:=(oG.each x hx).rl;omega⟩) (fun x hx=>⟨by have:=(oH.each x hx).fl;omega,by have:=(oH.each x hx).rl;omega⟩)
structure OwnN (w:World) (B:Nat) (x:NodeD):Prop where
 f:Own 71 2 ac w B (.slice x.fA x.fields.length x.fcap) x.fields
 r:Own 61 1 u64C w B (.slice x.rA x.raws.length x.rcap) x.raws
structure OwnG (w:World) (B:Nat) (G:GraphD):Prop where
 nodes:Own 66 3 dw w B (.slice G.nA G.ns.length G.ncap) G.ns
 each:∀x∈G.ns,OwnN w B x
 roots:Own 71 2 ac w B (.slice G.rA G.rs.length G.rcap) G.rs
theorem OwnN.at {w:World} {B:Nat} {x:NodeD} (h:OwnN w B x):NodeAt w x:=⟨(ag h.f aE dM).1,(ag h.r dB dM).1⟩
theorem OwnG.at {w:World} {B:Nat} {G:GraphD} (h:OwnG w B G):GraphAt w G:=
 ⟨⟨(ag h.nodes dL dM).1,fun x hx=>(h.each x hx).at⟩,(ag h.roots aE dM).1⟩
theorem OwnN.ext {w w':World} {B:Nat} {x:NodeD} (h:OwnN w B x) (hx:Ext w w'):OwnN w' B x:=⟨h.f.ext hx,h.r.ext hx⟩
theorem OwnN.kept {w w':World} {B B2:Nat} {x:NodeD} {v2:Value} {zs:List NodeD} (h:OwnN w B x) (h2:Own 66 3 dw w B2 v2 zs) (hg:w.grownBy w' v2.ownBlock):OwnN w' B x:=
 ⟨h.f.keep2 h2 dM hg,h.r.keep2 h2 dM hg⟩
structure CopI (V:World) (Bo:Nat) (g0 g1:Value) (res:Array Value) (rs:List (Int×Int)) (cs:List NodeD) (v root:Value) (wr:World):Prop where
 g:wr.heap[V.heap.size]?=some (.cells #[g0,g1] 27 (0,0))
 r:wr.heap[V.heap.size+1]?=some (.cells res 27 (0,0))
 out:wr.heap[Bo]?=some (.cells #[v,root] 27 (0,0))
 own:Own 66 3 dw wr V.heap.size v cs
 each:∀c∈cs,OwnN wr V.heap.size c
 root:Own 71 2 ac wr V.heap.size root rs
 ext:Ext V wr
 bo:V.heap.size+1 < Bo
section
variable {V : World} {Bo : Nat} {g0 g1 : Value} {res : Array Value} {rs : List (Int × Int)} {cs : List NodeD} {v root : Value} {wr w' : World}
theorem CopI.grow (h:CopI V Bo g0 g1 res rs cs v root wr) (hx:Ext wr w'):CopI V Bo g0 g1 res rs cs v root w':=
 ⟨(hx.block (aA h.g)).trans h.g,(hx.block (aA h.r)).trans h.r,(hx.block (aA h.out)).trans h.out,h.own.ext hx,fun c hc=>(h.each c hc).ext hx,h.root.ext hx,h.ext.trans hx,h.bo⟩
theorem CopI.app (h:CopI V Bo g0 g1 res rs cs v root wr) {v':Value} {x:NodeD} (hown:Own 66 3 dw w' V.heap.size v' (cs++ [x])) (hg:wr.grownBy w' v.ownBlock) (hx:OwnN wr V.heap.size x):
  CopI V Bo g0 g1 res rs (cs++ [x]) v' root (w'.setCell ⟨Bo,0,none⟩ v'):=by
 have hty:∀(b:Nat) (ws:Array Value),wr.heap[b]?=some (.cells ws 27 (0,0))→w'.heap[b]?=some (.cells ws 27 (0,0)):=fun b ws hb=>by
  refine (hg.block b (aA hb) fun e=> ?_).trans hb
  rcases h.own.2 with ⟨hv,_⟩ | ⟨b2,cap2,cur2,hv,_,hg2,_⟩
  ·rw [hv]at e;cases e
  ·rw [hv]at e
   have:b=b2:=by simpa [Value.ownBlock]using e
   subst this
   rw [hb]at hg2
   cases hg2
 have hout:=hty _ _ h.out
 have hbo:=h.bo
 have hset:∀b o,w'.heap[b]?=some o→b≠Bo→(w'.setCell ⟨Bo,0,none⟩ v').heap[b]?=some o:=fun b o hb hne=>(Below.heap_setCell w' ⟨Bo,0,none⟩ v' b hne).trans hb
 have hn:∀c,OwnN w' V.heap.size c→OwnN (w'.setCell ⟨Bo,0,none⟩ v') V.heap.size c:=fun c hc=>⟨hc.f.setOther hout dM,hc.r.setOther hout dM⟩
 refine ⟨hset _ _ (hty _ _ h.g) oM,hset _ _ (hty _ _ h.r) oM,?_,hown.setOther hout dM,fun c hc=>hn c ?_,(h.root.keep2 h.own dM hg).setOther hout dM,(Own.grown h.own hg (Nat.le_refl _) h.ext).setCell (by simp only;omega) _,h.bo⟩
 ·rw [heap_setCell_same w' Bo 0 _ _ _ hout];rfl
 ·rcases List.mem_append.1 hc with hc | hc
  ·exact (h.each c hc).kept h.own hg
  ·rcases List.mem_singleton.1 hc with rfl
   exact hx.kept h.own hg
end
def CpS (Bo X:Nat) (o1 o2:Obj) (w:World):Prop:=w.heap[Bo]?=some o1∧w.heap[X]?=some o2
theorem CpS.ext {Bo X:Nat} {o1 o2:Obj} {w w':World} (h:CpS Bo X o1 o2 w) (hx:Ext w w'):CpS Bo X o1 o2 w':=⟨(hx.block (aA h.1)).trans h.1,(hx.block (aA h.2)).trans h.2⟩
def badO (o:List Int) (n:Nat):Bool:=(List.range o.length).any fun i=> !decide (0≤o.getD i 0∧o.getD i 0 < n∧aj o (o.getD i 0)=i)
def nP (o:List Int) (ns:List NodeD) (rs:List (Int×Int)):Bool:=(o.any fun j=>(ns.getD j.toNat default).fields.any (dF o)) || rs.any (dF o)
def renE (G:GraphD) (o:List Int):Int:=if aV G then (if badO o G.ns.length then 1 else if nP o G.ns G.rs then 2 else 0)else 4
def tK (o:List Int) (ns:List NodeD) (j:Int):Int×List (Int×Int)×List Int:=((ns.getD j.toNat default).kind,(ns.getD j.toNat default).fields.map (bI o),(ns.getD j.toNat default).raws)
def renN (G:GraphD) (o:List Int):List (Int×List (Int×Int)×List Int):=if renE G o=0 then o.map (tK o G.ns)else []
def renR (G:GraphD) (o:List Int):List (Int×Int):=if renE G o=0 then G.rs.map (bI o)else []
theorem tL {o:List Int} {n:Nat} (h:∀i,i < o.length→0≤o.getD i 0∧o.getD i 0 < n∧aj o (o.getD i 0)=i):badO o n=false:=by
 unfold badO
 rw [List.any_eq_false]
 intro i hi
 have:=h i (List.mem_range.1 hi)
 simp only [decide_eq_true this,Bool.not_true,Bool.false_eq_true,not_false_eq_true]
theorem wZ {o:List Int} {n i:Nat} (hi:i < o.length) (h:¬(0≤o.getD i 0∧o.getD i 0 < n∧aj o (o.getD i 0)=i)):badO o n=true:=by
 unfold badO
 rw [List.any_eq_true]
 exact ⟨i,List.mem_range.2 hi,by simp only [decide_eq_false h,Bool.not_false]⟩
theorem ub {G:GraphD} {o:List Int} (h:aV G=false):renE G o=4:=by simp [renE,h]
theorem ln {G:GraphD} {o:List Int} (h:aV G=true) (h2:badO o G.ns.length=true):renE G o=1:=by simp [renE,h,h2]
theorem sH {G:GraphD} {o:List Int} (h:aV G=true) (h2:badO o G.ns.length=false) (h3:nP o G.ns G.rs=true):renE G o=2:=by simp [renE,h,h2,h3]
theorem tM {G:GraphD} {o:List Int} (h:aV G=true) (h2:badO o G.ns.length=false) (h3:nP o G.ns G.rs=false):renE G o=0:=by simp [renE,h,h2,h3]
def RetN (V:World) (c:Int) (vs:List (Int×List (Int×Int)×List Int)) (rs:List (Int×Int)) (e:Ending) (w':World):Prop:=
 ∃H:GraphD,e= .returned (.tuple #[.agg #[.slice H.nA H.ns.length H.ncap,.slice H.rA H.rs.length H.rcap],.int .i64 c])∧GraphAt w' H∧H.ns.map aY=vs∧H.rs=rs∧(∀x∈H.ns,(x.fA=none→x.fcap=0)∧(x.rA=none→x.rcap=0)∧x.fields.length≤x.fcap∧x.raws.length≤x.rcap)∧
  (H.nA=none→H.ncap=0)∧(H.rA=none→H.rcap=0)∧H.ns.length≤H.ncap∧H.rs.length≤H.rcap∧Ext V w'
theorem nQ {V w:World} {c:Int} {vs:List (Int×List (Int×Int)×List Int)} {rs:List (Int×Int)} (hv:vs= []) (hr:rs= []) (hx:Ext V w):RetN V c vs rs (.returned (.tuple #[.agg #[.slice none 0 0,.slice none 0 0],.int .i64 c])) w:=by
 subst hv hr
 exact ⟨⟨none,0,[],none,0,[]⟩,rfl,⟨⟨AU _ _ _,by simp⟩,AU _ _ _⟩,rfl,rfl,by simp,fun _=>rfl,fun _=>rfl,by simp,by simp,hx⟩
theorem iF {V w:World} {G:GraphD} {o:List Int} {c:Int} (hc:renE G o=c) (hne:c≠0) (hx:Ext V w):
  RetN V (renE G o) (renN G o) (renR G o) (.returned (.tuple #[.agg #[.slice none 0 0,.slice none 0 0],.int .i64 c])) w:=by
 rw [renN,renR,hc,if_neg hne,if_neg hne]
 exact nQ rfl rfl hx
end Go.Proofs.YtphpppjfogpohaaGreat
