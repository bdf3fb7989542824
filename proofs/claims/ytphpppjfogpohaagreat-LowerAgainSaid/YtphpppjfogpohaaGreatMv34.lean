/- Merged by program (merge.py) out of: GraK, GraL, GraM, GraN, GraO, GraP, GraQ, GraR. -/
import Derived.LoopIn
import Derived.LoopNIn
import Derived.Test.YtphpppjfogpohaaGreatMv33
import Derived.Test.YtphpppjfogpohaaGreatMv4
import Derived.Test.YtphpppjfogpohaaGreatMv7
set_option linter.unusedSimpArgs false
set_option linter.unusedVariables false
set_option maxRecDepth 100000
set_option maxHeartbeats 16000000
namespace Go.Proofs.YtphpppjfogpohaaGreat
open Go.RowKit Go.Shelf
attribute [local go_sem] Oper.semAt_some
theorem values_any (nA:Option Addr) (n ncap:Nat) (rA:Option Addr) (m rcap:Nat) (w:World):
  Calls Tryz.prog 77 #[.agg #[.slice nA n ncap,.slice rA m rcap]] w fun e w'=>e= .returned (.func (.func 131) #[] #[.pointer (some ⟨w.heap.size,0,none⟩)])∧w'=w.alloc (.cells #[.slice nA n ncap,.slice rA m rcap] 27):=by
 go_enter Tryz.func77,Tryz.ntmps77
 go_wp2
 go_ret
 exact ⟨rfl,rfl⟩
theorem right_eq (G:GraphD):rightG G=(G.ns.all okN && (allV G.ns G.rs).all (okV G.ns.length)):=by
 unfold rightG allV flatV
 rw [Bool.eq_iff_iff]
 simp only [Bool.and_eq_true,List.all_eq_true,List.mem_append,List.mem_flatMap]
 constructor
 ·rintro ⟨h1,h2⟩
  refine ⟨fun x hx=>(h1 x hx).1,fun v hv=> ?_⟩
  rcases hv with ⟨x,hx,hv⟩ | hv
  ·exact (h1 x hx).2 v hv
  ·exact h2 v hv
 ·rintro ⟨h1,h2⟩
  exact ⟨fun x hx=>⟨h1 x hx,fun v hv=>h2 v (.inl ⟨x,hx,hv⟩)⟩,fun v hv=>h2 v (.inr hv)⟩
theorem sound_is (G:GraphD) (k x:Int) (b:Bool) (hb:okV G.ns.length (k,x)=b) (V:World) (hn:G.ns.length≤9223372036854775807):
  Calls Tryz.prog 78 #[.agg #[.slice G.nA G.ns.length G.ncap,.slice G.rA G.rs.length G.rcap],.agg #[.int .i64 k,.int .i64 x]] V fun e w'=>e= .returned (.bool b)∧Ext V w':=by
 subst hb;exact sound_any G k x V hn
theorem right_x (nA:Option Addr) (ncap:Nat) (ns:List NodeD) (rA:Option Addr) (rcap:Nat) (rs:List (Int×Int)) (V:World) (hN:NodesAt V nA ns) (hR:SpansAt V rA rs) (hn:ns.length≤9223372036854775807) (hr:rs.length≤9223372036854775807) (hf:∀x∈ns,x.fields.length≤9223372036854775807):
  Calls Tryz.prog 33 #[.agg #[.slice nA ns.length ncap,.slice rA rs.length rcap]] V fun e w'=>e= .returned (.bool (ns.all okN && (allV ns rs).all (okV ns.length)))∧Ext V w':=by
 have HN:=zH hN
 have HR:=zH hR
 have HF:=zH hf
 clear hN hR hf
 refine (callsIn_wide (n:=5)).1 ?_
 have hro:Fence.wide.round=none:=rfl
 refine callsIn_of_wp_marks Tryz.func33 rfl trivial ?_ hro
 simp only [Tryz.ntmps33,List.size_toArray,List.length_cons,List.length_nil,Nat.reduceAdd,Nat.reduceSub,Array.replicate_succ,Array.replicate_zero,List.push_toArray,List.append_toArray,List.nil_append,List.cons_append]
 have hw0:Ext V ((V.alloc (.cells #[.slice nA ns.length ncap,.slice rA rs.length rcap] 27)).alloc (.cells #[.bool false] 4)):=((Ext.refl V).alloc _).alloc _
 have hws:((V.alloc (.cells #[.slice nA ns.length ncap,.slice rA rs.length rcap] 27)).alloc (.cells #[.bool false] 4)).heap.size=V.heap.size+2:=by simp
 have hbg:((V.alloc (.cells #[.slice nA ns.length ncap,.slice rA rs.length rcap] 27)).alloc (.cells #[.bool false] 4)).heap[V.heap.size]?=some (.cells #[.slice nA ns.length ncap,.slice rA rs.length rcap] 27 (0,0)):=(Below.heap_alloc _ _ _ (by simp)).trans (World.alloc_heap_new _ _)
 have hbr:((V.alloc (.cells #[.slice nA ns.length ncap,.slice rA rs.length rcap] 27)).alloc (.cells #[.bool false] 4)).heap[V.heap.size+1]?=some (.cells #[.bool false] 4 (0,0)):=by
  have:=World.alloc_heap_new (V.alloc (.cells #[.slice nA ns.length ncap,.slice rA rs.length rcap] 27)) (.cells #[.bool false] 4)
  simpa using this
 gi_wp2
 generalize (V.alloc (.cells #[.slice nA ns.length ncap,.slice rA rs.length rcap] 27)).alloc (.cells #[.bool false] 4)=w0 at*
 gi_loopw [9] (fun i wr=>∃k:Nat,k≤ns.length∧i= .int .i64 k∧Hid (Ext w0 wr)∧Hid (∀i,i < k→okN (ns.getD i default)=true)) (fun i _=>ns.length - (intOf i).toNat)
 case atStart=>exact ⟨0,by omega,rfl,zH (Ext.refl _),zH (by omega)⟩
 case round=>
  obtain ⟨k,hk,rfl,hx,hq⟩:=hrel
  by_cases hlt:k < ns.length
  rotate_left
  ·obtain rfl:k=ns.length:=by omega
   have b0:wr.cell? ⟨V.heap.size,0,none⟩=some (.slice nA ns.length ncap):=hx.out.cell (by simp [World.cell?,hbg])
   have b1:wr.cell? ⟨V.heap.size,1,none⟩=some (.slice rA rs.length rcap):=hx.out.cell (by simp [World.cell?,hbg])
   gi_wp2_with (refine ⟨trivial,?_⟩;gi_at_call 77;refine (callsIn_wide.2 (values_any _ _ _ _ _ _ _)).mono ?_;rintro e w' ⟨rfl,rfl⟩)
   have HQ:=zH (all_ofD (p:=okN) (l:=ns) (d:=default) hq.out)
   have hsw:=hx.out.size
   have hwx:Ext w0 (wr.alloc (.cells #[.slice nA ns.length ncap,.slice rA rs.length rcap] 27)):=hx.out.alloc _
   have hws2:(wr.alloc (.cells #[.slice nA ns.length ncap,.slice rA rs.length rcap] 27)).heap.size=wr.heap.size+1:=by simp
   have hbv:(wr.alloc (.cells #[.slice nA ns.length ncap,.slice rA rs.length rcap] 27)).heap[wr.heap.size]?=some (.cells #[.slice nA ns.length ncap,.slice rA rs.length rcap] 27 (0,0)):=World.alloc_heap_new _ _
   clear hq hlt b0 b1
   generalize wr.alloc (.cells #[.slice nA ns.length ncap,.slice rA rs.length rcap] 27)=w2 at*
   have hbg2:=(hwx.block (lt_of_heap hbg)).trans hbg
   have hbr2:=(hwx.block (lt_of_heap hbr)).trans hbr
   have hV2:Ext V w2:=hw0.trans hwx
   have hnl:∀b,¬Led w2 (V.heap.size+1) b:=fun b ⟨n,c,h⟩=>by simp [World.cell?,hbr2]at h
   refine wpIn_range (gf:=131) (lb:= #[.pointer (some ⟨wr.heap.size,0,none⟩)]) rfl (enters_of Tryz.func131 (by kernel_rfl) rfl)
    (values1_stops wr.heap.size (V.heap.size+1) nA ncap ns rA rcap rs w2 (by omega) (by simp [World.cell?,hbv]) (by simp [World.cell?,hbv]) (HN.out.ext hV2) (HR.out.ext hV2) hn hr HF.out (by omega))
    (Nat.le_refl _) (fun _=>rfl)
    (fun pre W=>Ext w2 W∧Hid (∀x∈pre,okV ns.length x=true))
    (fun c pre W=>c= .ret∧Ext V W∧W.heap[V.heap.size+1]?=some (.cells #[.bool false] 4 (0,0))∧w2.heap.size≤W.heap.size∧∃x∈pre,okV ns.length x=false)
    (fun s A B h hab=>⟨Below.trans h.1 hab.below,h.2⟩)
    (fun c s A B h hab=>⟨h.1,Below.trans h.2.1 (Below.mono hab.below (by have:=hV2.size;omega)),(hab.below.block (V.heap.size+1) (by omega)).trans h.2.2.1,Nat.le_trans h.2.2.2.1 hab.below.size,h.2.2.2.2⟩)
    ⟨Ext.refl _,zH (by simp)⟩
    (fun pre x a' W=>Ext w2 W∧Hid (∀x∈pre,okV ns.length x=true)∧∃X,w2.heap.size≤X∧W.heap[X]?=some (.cells #[.int .i64 x.1,.int .i64 x.2] 71 (0,0))∧
     a'= {tmps:= #[.agg #[.slice nA ns.length ncap,.slice rA rs.length rcap],.pointer (some ⟨V.heap.size,0,none⟩),.pointer (some ⟨V.heap.size+1,0,none⟩),undef,u4,.pointer (some ⟨X,0,none⟩),.pointer (some ⟨V.heap.size,0,none⟩),.slice nA ns.length ncap,.int .i64 ns.length,.int .i64 ns.length,.bool false,u11,u12,u13,u14,u15,u16,u17,u18,u19,u20,u21,u22,u23,u24,u25,u26,u27,u28,u29,u30,u31,u32,u33,
      .agg #[.slice nA ns.length ncap,.slice rA rs.length rcap],.func (.func 131) #[] #[.pointer (some ⟨wr.heap.size,0,none⟩)],.agg #[.int .i64 (x.1),.int .i64 (x.2)],undef,undef,undef,undef],defers:= []})
    ?hax ?assign ?body ?done ?stop
   case hax=>
    rintro pre x a' A B ⟨h1,h2,X,hX,hbX,rfl⟩ hb hk
    exact ⟨Below.trans h1 hb,h2,X,hX,hk X _ hbX rfl,rfl⟩
   case assign=>
    rintro l pre x W K ⟨h1,h2⟩ hK
    have hsz:=h1.size
    have H1:=zH h1
    clear h1
    gi_wp2
    exact hK _ _ ⟨H1.out.alloc _,h2,W.heap.size,hsz,World.alloc_heap_new _ _,rfl⟩ ((KeepsOthers.alloc _ _).from _) (Kp.ext ((Below.refl _ W).alloc (Nat.le_refl _) _) hsz (by omega))
   case body=>
    rintro l pre x a' W ⟨h1,h2,X,hX,hbX,rfl⟩ hgd
    clear hgd
    obtain ⟨p,q⟩:=x
    have g0:W.cell? ⟨X,0,none⟩=some (.int .i64 p):=by simp [World.cell?,hbX]
    have g1:W.cell? ⟨X,1,none⟩=some (.int .i64 q):=by simp [World.cell?,hbX]
    have hG:=(h1.block (lt_of_heap hbg2)).trans hbg2
    have hB:=(h1.block (lt_of_heap hbr2)).trans hbr2
    have g2:W.cell? ⟨V.heap.size,0,none⟩=some (.slice nA ns.length ncap):=by simp [World.cell?,hG]
    have g3:W.cell? ⟨V.heap.size,1,none⟩=some (.slice rA rs.length rcap):=by simp [World.cell?,hG]
    have H1:=zH h1
    have HB:=zH hB
    have hs1:=h1.size
    clear h1 hG hB hbX
    obtain ⟨b,hb⟩:∃b,okV ns.length (p,q)=b:=⟨_,rfl⟩
    have HO:=zH hb
    clear hb
    have hVB:V.heap.size+1 < W.heap.size:=by omega
    cases b
    ·gi_wp2_with (refine ⟨trivial,?_⟩;gi_at_call 78;refine (callsIn_wide.2 (sound_is ⟨nA,ncap,ns,rA,rcap,rs⟩ p q false HO.out _ hn)).mono ?_;rintro e w1 ⟨rfl,hx1⟩;have hb1:=(hx1.block hVB).trans HB.out;have e1:w1.cell? ⟨V.heap.size+1,0,none⟩=some (.bool false):=(by simp [World.cell?,hb1]);have e2:w1.frozen? ⟨V.heap.size+1,0,none⟩=false:=(by simp [World.frozen?,hb1]);have hb1:=zH hb1)
     have hsx:=hx1.size
     refine ⟨(keeps_ext hx1).trans ((KeepsOthers.setCell _ _ _).from _),rfl,((hV2.trans H1.out).trans hx1).setCell (by simp) _,?_,by simp;omega,⟨_,by simp,HO.out⟩⟩
     rw [heap_setCell_same w1 (V.heap.size+1) 0 _ _ _ hb1.out]
     rfl
    ·gi_wp2_with (refine ⟨trivial,?_⟩;gi_at_call 78;refine (callsIn_wide.2 (sound_is ⟨nA,ncap,ns,rA,rcap,rs⟩ p q true HO.out _ hn)).mono ?_;rintro e w1 ⟨rfl,hx1⟩)
     refine ⟨keeps_ext hx1,Kp.ext hx1 hs1 (by omega),H1.out.trans hx1,zH fun y hy=> ?_⟩
     rw [List.mem_append,List.mem_singleton]at hy
     rcases hy with hy | rfl
     ·exact h2.out y hy
     ·exact HO.out
   case done=>
    rintro D ys W hD rfl ⟨h1,h2⟩ hK
    have hB:=(h1.block (lt_of_heap hbr2)).trans hbr2
    have e1:W.cell? ⟨V.heap.size+1,0,none⟩=some (.bool false):=by simp [World.cell?,hB]
    have e2:W.frozen? ⟨V.heap.size+1,0,none⟩=false:=by simp [World.frozen?,hB]
    have hDn:D≠V.heap.size+1:=by omega
    have hxs:Ext V (W.setCell ⟨V.heap.size+1,0,none⟩ (.bool true)):=(hV2.trans h1).setCell (by simp) _
    have hK2:(W.setCell ⟨V.heap.size+1,0,none⟩ (.bool true)).heap[D]?=some (.deferred (some [])):=(Below.heap_setCell W ⟨V.heap.size+1,0,none⟩ _ D hDn).trans hK
    have hB2:(W.setCell ⟨V.heap.size+1,0,none⟩ (.bool true)).heap[V.heap.size+1]?=some (.cells #[.bool true] 4 (0,0)):=by rw [heap_setCell_same W (V.heap.size+1) 0 _ _ _ hB];rfl
    have HA:=zH (show (ns.all okN && (allV ns rs).all (okV ns.length))=true by rw [HQ.out,List.all_eq_true.2 h2.out];rfl)
    have HXS:=zH hxs
    have HK2:=zH hK2
    have HB2:=zH hB2
    clear hK hxs hK2 hB2 hB
    gi_wp2
    generalize W.setCell ⟨V.heap.size+1,0,none⟩ (.bool true)=W3 at*
    refine ⟨by simp,.inl ⟨_,_,rfl,run_takeDeferred HK2.out,?_⟩⟩
    have hab:AbI w2.heap.size (V.heap.size+1) W3 (W3.putObj D (.deferred none)):=AbI.putObj hD HK2.out rfl
    have g:(W3.putObj D (.deferred none)).cell? ⟨V.heap.size+1,0,none⟩=some (.bool true):=by
     have:=(hab.below.block (V.heap.size+1) (by omega)).trans HB2.out
     simp [World.cell?,this]
    have hxx:=Below.trans HXS.out (Below.mono hab.below (by omega))
    generalize W3.putObj D (.deferred none)=W4 at*
    exact ⟨.bool true,(by simp only [results,Tryz.results33];go_simp),ret_bool HA.out.symm,hxx⟩
   case stop=>
    rintro D c pre W hD hpre ⟨rfl,h1,h2,h3,h4⟩ hK
    obtain ⟨y,hy,hyn⟩:=h4
    have HA:=zH (show (ns.all okN && (allV ns rs).all (okV ns.length))=false by
     have:(allV ns rs).all (okV ns.length)=false:=List.all_eq_false.2 ⟨y,hpre.subset hy,by rw [hyn];simp⟩
     rw [this,Bool.and_false])
    gi_wp2
    refine ⟨by simp,.inl ⟨_,_,rfl,run_takeDeferred hK,?_⟩⟩
    have hab:AbI w2.heap.size (V.heap.size+1) W (W.putObj D (.deferred none)):=AbI.putObj hD hK rfl
    have g:(W.putObj D (.deferred none)).cell? ⟨V.heap.size+1,0,none⟩=some (.bool false):=by
     have:=(hab.below.block (V.heap.size+1) (by omega)).trans h2
     simp [World.cell?,this]
    have hxx:=Below.trans h1 (Below.mono hab.below (by omega))
    generalize W.putObj D (.deferred none)=W4 at*
    exact ⟨.bool false,(by simp only [results,Tryz.results33];go_simp),ret_bool HA.out.symm,hxx⟩
  have b0:wr.cell? ⟨V.heap.size,0,none⟩=some (.slice nA ns.length ncap):=hx.out.cell (by simp [World.cell?,hbg])
  have hb1:=(hx.out.block (lt_of_heap hbr)).trans hbr
  have e1:wr.cell? ⟨V.heap.size+1,0,none⟩=some (.bool false):=by simp [World.cell?,hb1]
  have e2:wr.frozen? ⟨V.heap.size+1,0,none⟩=false:=by simp [World.frozen?,hb1]
  obtain ⟨nb,noff,rfl,hcn⟩:=HN.out.row.get (by omega)
  obtain ⟨d0,d1,d2⟩:=nodes_cell hcn hlt
  have f0:=hx.out.cell (hw0.cell d0)
  have f1:=hx.out.cell (hw0.cell d1)
  have f2:=hx.out.cell (hw0.cell d2)
  have HU:=zH (fun h=>upTo (p:=okN) (l:=ns) (d:=default) hq.out h)
  have HNN:=zH (show okN (ns.getD k default)=false→(ns.all okN && (allV ns rs).all (okV ns.length))=false from fun h=>by rw [all_notD (p:=okN) (l:=ns) (d:=default) hlt h,Bool.false_and])
  have ib1:(k:Int) < (ns.length:Int):=by omega
  have hsw:=hx.out.size
  clear hcn d0 d1 d2 hq
  generalize ns.getD k default=x at*
  obtain ⟨xk,xA,xc,fs,yA,yc,ys⟩:=x
  simp only at f0 f1 f2
  have HB1:=zH hb1
  clear hb1
  have hfin:∀o,Ext V ((wr.setCell ⟨V.heap.size+1,0,none⟩ (.bool false)).alloc o):=fun o=>((hw0.trans hx.out).setCell (by simp) _).alloc o
  have HFIN:=zH hfin
  have hvw:V.heap.size+1 < wr.heap.size:=by omega
  clear hfin
  by_cases h1:xk < 0
  ·have hd1:decide (xk < 0)=true:=by simpa using h1
   have HR:=zH (HNN.out (by simp [okN];omega))
   clear HNN HU h1
   gi_wp2
   exact ⟨.bool false,(by simp only [results,Tryz.results33];go_simp),ret_bool HR.out.symm,HFIN.out _⟩
  have hd1:decide (xk < 0)=false:=by simpa using h1
  by_cases h2:31 < xk
  ·have hd2:decide (31 < xk)=true:=by simpa using h2
   have HR:=zH (HNN.out (by simp [okN];omega))
   clear HNN HU h1 h2
   gi_wp2
   exact ⟨.bool false,(by simp only [results,Tryz.results33];go_simp),ret_bool HR.out.symm,HFIN.out _⟩
  have hd2:decide (31 < xk)=false:=by simpa using h2
  by_cases h3:4096 < fs.length
  ·have hd3:decide ((4096:Int) < (fs.length:Int))=true:=by simp;omega
   have HR:=zH (HNN.out (by simp [okN];omega))
   clear HNN HU h1 h2 h3
   gi_wp2
   exact ⟨.bool false,(by simp only [results,Tryz.results33];go_simp),ret_bool HR.out.symm,HFIN.out _⟩
  have hd3:decide ((4096:Int) < (fs.length:Int))=false:=by simp;omega
  by_cases h4:4096 < ys.length
  ·have hd4:decide ((4096:Int) < (ys.length:Int))=true:=by simp;omega
   have HR:=zH (HNN.out (by simp [okN];omega))
   clear HNN HU h1 h2 h3 h4
   gi_wp2
   exact ⟨.bool false,(by simp only [results,Tryz.results33];go_simp),ret_bool HR.out.symm,HFIN.out _⟩
  have hd4:decide ((4096:Int) < (ys.length:Int))=false:=by simp;omega
  have HR:=zH (HU.out (by simp [okN];omega))
  clear HNN HU h1 h2 h3 h4
  gi_wp2
  exact ⟨⟨k+1,by omega,by go_num,zH (hx.out.alloc _),HR⟩,by simp [intOf];omega⟩
theorem gright_any (G:GraphD) (V:World) (hG:GraphAt V G) (hn:G.ns.length≤9223372036854775807) (hr:G.rs.length≤9223372036854775807) (hf:∀x∈G.ns,x.fields.length≤9223372036854775807):
  Calls Tryz.prog 33 #[.agg #[.slice G.nA G.ns.length G.ncap,.slice G.rA G.rs.length G.rcap]] V fun e w'=>e= .returned (.bool (rightG G))∧Ext V w':=by
 rw [right_eq]
 exact right_x _ _ _ _ _ _ V hG.nodes hG.roots hn hr hf
def nodeV (x:NodeD):Int×List (Int×Int)×List Int:=(x.kind,x.fields,x.raws)
structure OwnN (w:World) (B:Nat) (x:NodeD):Prop where
 f:Own 71 2 spanC w B (.slice x.fA x.fields.length x.fcap) x.fields
 r:Own 61 1 u64C w B (.slice x.rA x.raws.length x.rcap) x.raws
structure OwnG (w:World) (B:Nat) (G:GraphD):Prop where
 nodes:Own 66 3 nodeC w B (.slice G.nA G.ns.length G.ncap) G.ns
 each:∀x∈G.ns,OwnN w B x
 roots:Own 71 2 spanC w B (.slice G.rA G.rs.length G.rcap) G.rs
theorem OwnN.at {w:World} {B:Nat} {x:NodeD} (h:OwnN w B x):NodeAt w x:=⟨(own_row h.f spanCells (by decide)).1,(own_row h.r u64Cells (by decide)).1⟩
theorem OwnG.at {w:World} {B:Nat} {G:GraphD} (h:OwnG w B G):GraphAt w G:=
 ⟨⟨(own_row h.nodes nodeCells (by decide)).1,fun x hx=>(h.each x hx).at⟩,(own_row h.roots spanCells (by decide)).1⟩
theorem OwnN.ext {w w':World} {B:Nat} {x:NodeD} (h:OwnN w B x) (hx:Ext w w'):OwnN w' B x:=⟨h.f.ext hx,h.r.ext hx⟩
theorem OwnN.kept {w w':World} {B B2:Nat} {x:NodeD} {v2:Value} {zs:List NodeD} (h:OwnN w B x) (h2:Own 66 3 nodeC w B2 v2 zs) (hg:w.grownBy w' v2.ownBlock):OwnN w' B x:=
 ⟨h.f.keep2 h2 (by decide) hg,h.r.keep2 h2 (by decide) hg⟩
end Go.Proofs.YtphpppjfogpohaaGreat
