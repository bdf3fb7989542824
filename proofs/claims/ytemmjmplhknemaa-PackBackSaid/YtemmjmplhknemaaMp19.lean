/- Merged by program (merge.py) out of: WkB, WkC, RfC, WkD, RfD, WpP, ObC, StF, StA, AwA, LwN. -/
import Derived.BigRegionIn
import Derived.Test.YtemmjmplhknemaaMp18
import Derived.Test.YtemmjmplhknemaaMp1
import Derived.Test.YtemmjmplhknemaaMp7
import Derived.Test.YtemmjmplhknemaaMp17
import Derived.Test.YtemmjmplhknemaaMp11
import Derived.Test.YtemmjmplhknemaaMp15
set_option linter.unusedSimpArgs false
set_option linter.unusedVariables false
set_option maxRecDepth 100000
set_option maxHeartbeats 16000000
namespace Go.Proofs.Ytemmjmplhknemaa
open Go.RowKit Go.Shelf
attribute [local go_sem] Oper.semAt_some
theorem mayS_is (a s:Int) (b:Bool) (h:mayB a s=b) (w:World):Calls Try.prog 27 #[.agg #[.int .i64 (a),.int .i64 (s)]] w fun e w'=>e= .returned (.bool b)∧Ext w w':=by
 rw [←h];exact may_any a s w
theorem walk_any (p:Option Addr) (a s top:Int) (w:World):
  Calls Try.prog 63 #[.pointer p,.agg #[.int .i64 (a),.int .i64 (s)],.int .i64 top] w fun e w'=>e= .returned (.func (.func 73) #[] #[.pointer (some ⟨w.heap.size+1,0,none⟩),.pointer (some ⟨w.heap.size+2,0,none⟩),.pointer (some ⟨w.heap.size,0,none⟩)])∧w'=((w.alloc (.cells #[.pointer p] 82)).alloc (.cells #[.int .i64 a,.int .i64 s] 62)).alloc (.cells #[.int .i64 top] 3):=by
 go_enter Try.func63,Try.ntmps63
 go_wp2
 go_ret
 exact ⟨rfl,rfl⟩
def lastS (l:Option (List Int)) (top i:Int):Stp:=(stepsA l top i).getLastD ⟨i,hd0,0,true⟩
theorem steps_last (l:Option (List Int)) (top:Int):∀(n:Nat) (i:Int),(top - i).toNat≤n→∃pre x,stepsA l top i=pre++ [x]∧x.last=true∧(∀y∈pre,y.last=false)∧x=lastS l top i:=by
 intro n
 induction n with
 | zero=>
  intro i hi
  have h:=steps_end (l:=l) (top:=top) (i:=i) (by omega)
  exact ⟨[],_,h,rfl,by simp,by rw [lastS,h];rfl⟩
 | succ n ih=>
  intro i hi
  by_cases h:i < top
  ·by_cases h2:wkE l top i=0
   ·have hg:=steps_go h h2
    have:=head_size (wkE_head h2).1
    obtain ⟨pre,x,h3,h4,h5,h6⟩:=ih (i+hsize (headH l i)) (by omega)
    refine ⟨⟨i,headH l i,0,false⟩::pre,x,by rw [hg,h3];rfl,h4,fun y hy=> ?_,?_⟩
    ·rcases List.mem_cons.1 hy with rfl | hy
     ·rfl
     ·exact h5 y hy
    ·rw [lastS,hg,h3,←List.cons_append]
     simp only [List.getLastD_eq_getLast?,List.getLast?_append,List.getLast?_singleton,Option.some_or,Option.getD_some]
   ·have he:=steps_err h h2
    exact ⟨[],_,he,rfl,by simp,by rw [lastS,he];rfl⟩
  ·have h:=steps_end (l:=l) (top:=top) (i:=i) h
   exact ⟨[],_,h,rfl,by simp,by rw [lastS,h];rfl⟩
theorem steps_pre {l:Option (List Int)} {top i:Int} {pre:List Stp} {x:Stp} (h:pre++ [x] <+:stepsA l top i) (hx:x.last=true):x=lastS l top i∧pre++ [x]=stepsA l top i:=by
 obtain ⟨pr,y,h1,h2,h3,h4⟩:=steps_last l top _ i (Nat.le_refl _)
 obtain ⟨t,ht⟩:=h
 rw [h1]at ht
 have hlen:pre.length≤pr.length:=by have:=congrArg List.length ht;simp at this;omega
 rcases Nat.lt_or_ge pre.length pr.length with hlt | hge
 ·exfalso
  have e:=congrArg (fun l=>l[pre.length]?) ht
  simp only [List.append_assoc,List.getElem?_append_right (Nat.le_refl _),Nat.sub_self,List.cons_append,List.getElem?_cons_zero]at e
  rw [List.getElem?_append_left hlt,List.getElem?_eq_getElem hlt]at e
  injection e with e
  have:=h3 _ (List.getElem_mem hlt)
  rw [←e,hx]at this
  cases this
 ·have hl:pre.length=pr.length:=by omega
  rw [List.append_assoc]at ht
  obtain ⟨e1,e2⟩:=List.append_inj ht hl
  simp only [List.cons_append,List.nil_append,List.cons.injEq]at e2
  exact ⟨e2.1.trans h4,by rw [h1,e1,e2.1]⟩
theorem steps_all {l:Option (List Int)} {top i:Int} (h:∀x∈stepsA l top i,x.last=false):False:=by
 obtain ⟨pr,y,h1,h2, -⟩:=steps_last l top _ i (Nat.le_refl _)
 have:=h y (by rw [h1];simp)
 rw [h2]at this
 cases this
def wkB (a s top:Int):Bool:=mayB a s && decide (a≤top∧top≤a+s)
def stopA (l:Option (List Int)) (a s top:Int):Int:=if wkB a s top then (lastS l top a).at_ else 0
def stopE (l:Option (List Int)) (a s top:Int):Int:=if wkB a s top then (lastS l top a).e else 1
theorem stop_any (p:Option Addr) (l:Option (List Int)) (a s top:Int) (V:World) (hp:ArP V p l):
  Calls Try.prog 62 #[.pointer p,.agg #[.int .i64 (a),.int .i64 (s)],.int .i64 top] V fun e w'=>e= .returned (.tuple #[.int .i64 (stopA l a s top),.int .i64 (stopE l a s top)])∧Ext V w':=by
 have HP:=zH hp
 have hb4:=blk_old (o2:= .cells #[.int .i64 0] 31) (blk_old (o2:= .cells #[.int .i64 0] 3) (blk_new V #[.int .i64 a,.int .i64 s] 62 _ rfl))
 have hb6:=blk_old (o2:= .cells #[.int .i64 0] 31) (blk_new (V.alloc (.cells #[.int .i64 a,.int .i64 s] 62)) #[.int .i64 0] 3 (V.heap.size+1) (by simp))
 have hb7:=blk_new ((V.alloc (.cells #[.int .i64 a,.int .i64 s] 62)).alloc (.cells #[.int .i64 0] 3)) #[.int .i64 0] 31 (V.heap.size+1+1) (by simp)
 have hW:Ext V (((V.alloc (.cells #[.int .i64 a,.int .i64 s] 62)).alloc (.cells #[.int .i64 0] 3)).alloc (.cells #[.int .i64 0] 31)):=(((Ext.refl V).alloc _).alloc _).alloc _
 obtain ⟨b,hb⟩:∃b,mayB a s=b:=⟨_,rfl⟩
 have HB:=zH hb
 clear hb hp
 refine (callsIn_wide (n:=5)).1 ?_
 have hro:Fence.wide.round=none:=rfl
 refine callsIn_of_wp_marks Try.func62 rfl trivial ?_ hro
 simp only [Try.ntmps62,List.size_toArray,List.length_cons,List.length_nil,Nat.reduceAdd,Nat.reduceSub,Array.replicate_succ,Array.replicate_zero,List.push_toArray,List.append_toArray,List.nil_append,List.cons_append]
 gi_wp2
 generalize ((V.alloc (.cells #[.int .i64 a,.int .i64 s] 62)).alloc (.cells #[.int .i64 0] 3)).alloc (.cells #[.int .i64 0] 31)=W at*
 generalize hX7:V.heap.size+1+1=X7 at*
 generalize hX6:V.heap.size+1=X6 at*
 have HX6:=zH hX6
 have HX7:=zH hX7
 clear hX6 hX7
 have HB4:=zH hb4
 have HB6:=zH hb6
 have HB7:=zH hb7
 have HW:=zH hW
 clear hb4 hb6 hb7 hW
 refine ⟨trivial,?_⟩
 refine (callsIn_wide.2 (mayS_is a s b HB.out _)).mono ?_
 rintro e w1 ⟨rfl,hx⟩
 have b4:=(hx.block (lt_of_heap HB4.out)).trans HB4.out
 have b6:=(hx.block (lt_of_heap HB6.out)).trans HB6.out
 have b7:=(hx.block (lt_of_heap HB7.out)).trans HB7.out
 have HXW:=zH (HW.out.trans hx)
 have c0:w1.cell? ⟨V.heap.size,0,none⟩=some (.int .i64 a):=by simp [World.cell?,b4]
 have c1:w1.cell? ⟨V.heap.size,1,none⟩=some (.int .i64 s):=by simp [World.cell?,b4]
 have c2:w1.cell? ⟨X6,0,none⟩=some (.int .i64 0):=by simp [World.cell?,b6]
 have c3:w1.cell? ⟨X7,0,none⟩=some (.int .i64 0):=by simp [World.cell?,b7]
 have f2:w1.frozen? ⟨X6,0,none⟩=false:=by simp [World.frozen?,b6]
 have f3:w1.frozen? ⟨X7,0,none⟩=false:=by simp [World.frozen?,b7]
 have n67:X6≠X7:=by have:=HX6.out;have:=HX7.out;omega
 have n76:X7≠X6:=fun e=>n67 e.symm
 have HBB4:=zH b4
 have HBB6:=zH b6
 have HBB7:=zH b7
 clear hx b4 b6 b7
 by_cases hk:wkB a s top=true
 rotate_left
 ·have hk':wkB a s top=false:=by simpa using hk
  have HA:Hid (stopA l a s top=0∧stopE l a s top=1):=zH (by rw [stopA,stopE,hk'];exact ⟨rfl,rfl⟩)
  have HXS:Hid (Ext V ((w1.setCell ⟨X6,0,none⟩ (.int .i64 0)).setCell ⟨X7,0,none⟩ (.int .i64 1))):=zH ((HXW.out.setCell (by have h1:=HX6.out;show V.heap.size≤X6;omega) _).setCell (by have h1:=HX6.out;have h2:=HX7.out;show V.heap.size≤X7;omega) _)
  cases b
  ·clear hk hk'
   gi_wp2
   exact ⟨.tuple #[.int .i64 0,.int .i64 1],(by simp only [results,Try.results62];go_simp),(by rw [HA.out.1,HA.out.2]),HXS.out⟩
  ·obtain ⟨m1,m2,m3,m4⟩:=may_bd HB.out
   have hw:wrap64 (a+s)=a+s:=IntWalk.wrap64_in _ ⟨by omega,by omega⟩
   by_cases h1:top < a
   ·have d1:decide (top < a)=true:=by simpa using h1
    clear hk hk'
    gi_wp2
    exact ⟨.tuple #[.int .i64 0,.int .i64 1],(by simp only [results,Try.results62];go_simp),(by rw [HA.out.1,HA.out.2]),HXS.out⟩
   have d1:decide (top < a)=false:=by simpa using h1
   have d2:decide (a+s < top)=true:=by
    have:=HB.out
    simp only [wkB,this,Bool.true_and,decide_eq_false_iff_not]at hk'
    simp only [decide_eq_true_eq]
    omega
   clear hk hk'
   gi_wp2
   exact ⟨.tuple #[.int .i64 0,.int .i64 1],(by simp only [results,Try.results62];go_simp),(by rw [HA.out.1,HA.out.2]),HXS.out⟩
 obtain rfl:b=true:=by
  have:=HB.out
  unfold wkB at hk
  rw [this]at hk
  cases b
  ·simp at hk
  ·rfl
 obtain ⟨m1,m2,m3,m4⟩:=may_bd HB.out
 have hw:wrap64 (a+s)=a+s:=IntWalk.wrap64_in _ ⟨by omega,by omega⟩
 obtain ⟨t1,t2⟩:a≤top∧top≤a+s:=by simpa [wkB,HB.out]using hk
 have d1:decide (top < a)=false:=by simp;omega
 have d2:decide (a+s < top)=false:=by simp;omega
 have HA:Hid (stopA l a s top=(lastS l top a).at_∧stopE l a s top=(lastS l top a).e):=zH (by rw [stopA,stopE,hk];exact ⟨rfl,rfl⟩)
 clear hk
 gi_wp2_with (refine ⟨trivial,?_⟩;gi_at_call 63;refine (callsIn_wide.2 (walk_any _ _ _ _ _)).mono ?_;rintro e w' ⟨rfl,rfl⟩)
 have e0:=blk_old (o2:= .cells #[.int .i64 top] 3) (blk_old (o2:= .cells #[.int .i64 a,.int .i64 s] 62) (blk_new w1 #[.pointer p] 82 _ rfl))
 have e1:=blk_old (o2:= .cells #[.int .i64 top] 3) (blk_new (w1.alloc (.cells #[.pointer p] 82)) #[.int .i64 a,.int .i64 s] 62 (w1.heap.size+1) (by simp))
 have e2:=blk_new ((w1.alloc (.cells #[.pointer p] 82)).alloc (.cells #[.int .i64 a,.int .i64 s] 62)) #[.int .i64 top] 3 (w1.heap.size+2) (by simp)
 have hx2:Ext w1 (((w1.alloc (.cells #[.pointer p] 82)).alloc (.cells #[.int .i64 a,.int .i64 s] 62)).alloc (.cells #[.int .i64 top] 3)):=(((Ext.refl w1).alloc _).alloc _).alloc _
 generalize ((w1.alloc (.cells #[.pointer p] 82)).alloc (.cells #[.int .i64 a,.int .i64 s] 62)).alloc (.cells #[.int .i64 top] 3)=w2 at*
 have hbg6:=(hx2.block (lt_of_heap HBB6.out)).trans HBB6.out
 have hbg7:=(hx2.block (lt_of_heap HBB7.out)).trans HBB7.out
 have hV2:Ext V w2:=HXW.out.trans hx2
 have hl0:=lt_of_heap e0
 have hl1:=lt_of_heap e1
 have hl2:=lt_of_heap e2
 have hl6:=lt_of_heap hbg6
 have hl7:=lt_of_heap hbg7
 have hv6:=HX6.out
 have hv7:=HX7.out
 have hnl:∀b,¬Led w2 X6 b:=fun b ⟨n,c,h⟩=>by simp [World.cell?,hbg6]at h
 clear c0 c1 c2 c3 f2 f3
 refine wpIn_rangeK (gf:=73) (lb:= #[.pointer (some ⟨w1.heap.size+1,0,none⟩),.pointer (some ⟨w1.heap.size+2,0,none⟩),.pointer (some ⟨w1.heap.size,0,none⟩)]) rfl (enters_of Try.func73 (by kernel_rfl) rfl)
  (walk1_stops w2.heap.size (w1.heap.size+1) (w1.heap.size+2) w1.heap.size X6 p l a s top w2 hl1 hl2 hl0 (by simp [World.cell?,e1]) (by simp [World.cell?,e2]) (by simp [World.cell?,e0]) (fun W' hb=>HP.out.ext (hV2.trans hb)) (Nat.le_refl _) m1 t1 (by omega) hl6 hnl)
  (fun k hk=>by rcases hk with rfl | rfl | rfl <;>omega) (Nat.le_refl _) (fun _=>rfl)
  (fun pre W=>Ext w2 W∧Hid (∀x∈pre,x.last=false))
  (fun c pre W=>c= .ret∧Ext V W∧W.heap[X6]?=some (.cells #[.int .i64 (lastS l top a).at_] 3 (0,0))∧W.heap[X7]?=some (.cells #[.int .i64 (lastS l top a).e] 31 (0,0))∧w2.heap.size≤W.heap.size)
  (fun s A B h hab=>⟨Below.trans h.1 hab.below,h.2⟩)
  (fun c s A B h hab=>⟨h.1,Below.trans h.2.1 (Below.mono hab.below (by have:=hV2.size;omega)),(hab.below.block X6 (by omega)).trans h.2.2.1,(hab.below.block X7 (by omega)).trans h.2.2.2.1,Nat.le_trans h.2.2.2.2 hab.below.size⟩)
  ⟨Ext.refl _,zH (by simp)⟩
  (fun pre x a' W=>Ext w2 W∧Hid (∀x∈pre,x.last=false)∧∃X,w2.heap.size≤X∧W.heap[X]?=some (.cells #[.int .i64 x.at_,.int .i64 x.h.k,.int .i64 x.h.f,.int .i64 x.h.r,.bool x.h.m,.int .i64 x.h.c,.int .i64 x.e,.bool x.last] 118 (0,0))∧
   a'= {tmps:= #[.pointer p,.agg #[.int .i64 a,.int .i64 s],.int .i64 top,undef,.pointer (some ⟨V.heap.size,0,none⟩),undef,.pointer (some ⟨X6,0,none⟩),.pointer (some ⟨X7,0,none⟩),.pointer (some ⟨X,0,none⟩),.agg #[.int .i64 a,.int .i64 s],.bool true,.bool false,.bool false,.int .i64 top,.pointer (some ⟨V.heap.size,0,none⟩),.int .i64 a,.bool false,.bool false,.bool false,.int .i64 top,.pointer (some ⟨V.heap.size,0,none⟩),.int .i64 a,.pointer (some ⟨V.heap.size,1,none⟩),.int .i64 s,.int .i64 (a+s),.bool false,.bool false,.pointer p,.agg #[.int .i64 a,.int .i64 s],.int .i64 top,.func (.func 73) #[] #[.pointer (some ⟨w1.heap.size+1,0,none⟩),.pointer (some ⟨w1.heap.size+2,0,none⟩),.pointer (some ⟨w1.heap.size,0,none⟩)],.agg #[.int .i64 x.at_,.int .i64 x.h.k,.int .i64 x.h.f,.int .i64 x.h.r,.bool x.h.m,.int .i64 x.h.c,.int .i64 x.e,.bool x.last],undef,undef,undef,undef,undef,undef,undef],defers:= []})
  ?hax ?assign ?body ?done ?stop
 case hax=>
  rintro pre x a' A B ⟨h1,h2,X,hX,hbX,rfl⟩ hb hk
  exact ⟨Below.trans h1 hb,h2,X,hX,hk X _ hbX rfl,rfl⟩
 case assign=>
  rintro lq pre x W K ⟨h1,h2⟩ hK
  have hsz:=h1.size
  have H1:=zH h1
  clear h1
  gi_wp2
  exact hK _ _ ⟨H1.out.alloc _,h2,W.heap.size,hsz,World.alloc_heap_new _ _,rfl⟩ ((KeepsOthers.alloc _ _).from _) (KpX.ext ((Ext.refl W).alloc _) hsz (by omega))
 case body=>
  rintro lq pre x a' W ⟨h1,h2,X,hX,hbX,rfl⟩ hgd
  have HGD:=zH (fun (h:x.last=true)=>steps_pre hgd h)
  have H1:=zH h1
  have hs1:=h1.size
  have HB6W:=zH ((h1.block hl6).trans hbg6)
  have HB7W:=zH ((h1.block hl7).trans hbg7)
  have HBXW:=zH hbX
  obtain ⟨xat,xh,xe,xl⟩:=x
  simp only at HGD
  have g3:W.cell? ⟨X,7,none⟩=some (.bool xl):=by simp [World.cell?,hbX]
  clear h1 hgd hbX
  cases xl
  ·gi_wp2
   refine ⟨keeps_ext (Ext.refl _),KpX.ext (Ext.refl _) hs1 (by omega),H1.out,zH fun y hy=> ?_⟩
   rcases List.mem_append.1 hy with hy | hy
   ·exact h2.out y hy
   ·rcases List.mem_singleton.1 hy with rfl
    rfl
  ·gi_wp2
   obtain ⟨hxl,hxe⟩:=HGD.out trivial
   have q0:W.cell? ⟨X,0,none⟩=some (.int .i64 xat):=by simp [World.cell?,HBXW.out]
   have q2:W.cell? ⟨X,6,none⟩=some (.int .i64 xe):=by simp [World.cell?,HBXW.out]
   have c6:W.cell? ⟨X6,0,none⟩=some (.int .i64 0):=by simp [World.cell?,HB6W.out]
   have c7:W.cell? ⟨X7,0,none⟩=some (.int .i64 0):=by simp [World.cell?,HB7W.out]
   have f6:W.frozen? ⟨X6,0,none⟩=false:=by simp [World.frozen?,HB6W.out]
   have f7:W.frozen? ⟨X7,0,none⟩=false:=by simp [World.frozen?,HB7W.out]
   have nx6:X≠X6:=by omega
   have nx7:X≠X7:=by omega
   have HXL:=zH hxl
   clear g3 hxl hxe
   have HK2:=zH (((KeepsOthers.setCell W ⟨X6,0,none⟩ (.int .i64 xat)).from w2.heap.size).trans ((KeepsOthers.setCell (W.setCell ⟨X6,0,none⟩ (.int .i64 xat)) ⟨X7,0,none⟩ (.int .i64 xe)).from w2.heap.size))
   have HXV:=zH (((hV2.trans H1.out).setCell (p:=⟨X6,0,none⟩) (by show V.heap.size≤X6;omega) (.int .i64 xat)).setCell (p:=⟨X7,0,none⟩) (by show V.heap.size≤X7;omega) (.int .i64 xe))
   have HR6:Hid (((W.setCell ⟨X6,0,none⟩ (.int .i64 xat)).setCell ⟨X7,0,none⟩ (.int .i64 xe)).heap[X6]?=some (.cells #[.int .i64 xat] 3 (0,0))):=zH ((Below.heap_setCell _ ⟨X7,0,none⟩ _ X6 n67).trans (by rw [heap_setCell_same W X6 0 _ _ _ HB6W.out];rfl))
   have HR7:Hid (((W.setCell ⟨X6,0,none⟩ (.int .i64 xat)).setCell ⟨X7,0,none⟩ (.int .i64 xe)).heap[X7]?=some (.cells #[.int .i64 xe] 31 (0,0))):=zH (by
    have h5:=(Below.heap_setCell W ⟨X6,0,none⟩ (.int .i64 xat) X7 n76).trans HB7W.out
    rw [heap_setCell_same _ X7 0 _ _ _ h5];rfl)
   have hsz:w2.heap.size≤((W.setCell ⟨X6,0,none⟩ (.int .i64 xat)).setCell ⟨X7,0,none⟩ (.int .i64 xe)).heap.size:=by simpa using hs1
   gi_region
   all_goals gi_wp2
   all_goals (refine ⟨⟨HK2.out.size,HK2.out.same⟩,rfl,HXV.out.drew,?_,?_,hsz⟩)
   all_goals rw [←HXL.out]
   all_goals first | exact HR6.out | exact HR7.out
 case done=>
  rintro D ys W hD rfl ⟨h1,h2⟩ hK
  exact (steps_all h2.out).elim
 case stop=>
  rintro D c pre W hD hpre ⟨rfl,h1,h6,h7,h8⟩ hK
  gi_wp2
  refine ⟨by simp,.inl ⟨_,_,rfl,run_takeDeferred hK,?_⟩⟩
  have hab:AbI w2.heap.size X6 W (W.putObj D (.deferred none)):=AbI.putObj hD hK rfl
  have g6:(W.putObj D (.deferred none)).cell? ⟨X6,0,none⟩=some (.int .i64 (lastS l top a).at_):=by
   have:=(hab.below.block X6 (by omega)).trans h6
   simp [World.cell?,this]
  have g7:(W.putObj D (.deferred none)).cell? ⟨X7,0,none⟩=some (.int .i64 (lastS l top a).e):=by
   have:=(hab.below.block X7 (by omega)).trans h7
   simp [World.cell?,this]
  have hxx:=Below.trans h1 (Below.mono hab.below (by have:=hV2.size;omega))
  generalize W.putObj D (.deferred none)=W4 at*
  exact ⟨.tuple #[.int .i64 (lastS l top a).at_,.int .i64 (lastS l top a).e],(by simp only [results,Try.results62];go_simp),(by rw [HA.out.1,HA.out.2]),hxx⟩
attribute [local go_sem] Oper.semAt_some
def placesL (pre:List Stp):List Int:=(pre.filter fun x=> !x.last).map (·.at_)
theorem places_go (pre:List Stp) (x:Stp) (h:x.last=false):placesL (pre++ [x])=placesL pre++ [x.at_]:=by simp [placesL,h]
theorem places_last (pre:List Stp) (x:Stp) (h:x.last=true):placesL (pre++ [x])=placesL pre:=by simp [placesL,h]
theorem places_len (pre:List Stp):(placesL pre).length≤pre.length:=by simp only [placesL,List.length_map];exact List.length_filter_le _ _
theorem steps_len (l:Option (List Int)) (top:Int):∀(n:Nat) (i:Int),(stepsF l top n i).length≤n+1:=by
 intro n
 induction n with
 | zero=>intro i;simp [stepsF]
 | succ n ih=>
  intro i
  rw [stepsF]
  split
  ·split
   ·have:=ih (i+hsize (headH l i));simp;omega
   ·simp
  ·simp
def listA (l:Option (List Int)) (a s top:Int):List Int:=if stopE l a s top=0 then placesL (stepsA l top a)else []
theorem stop_is (p:Option Addr) (l:Option (List Int)) (a s top x er:Int) (h1:stopA l a s top=x) (h2:stopE l a s top=er) (V:World) (hp:ArP V p l):
  Calls Try.prog 62 #[.pointer p,.agg #[.int .i64 (a),.int .i64 (s)],.int .i64 top] V fun e w'=>e= .returned (.tuple #[.int .i64 x,.int .i64 er])∧Ext V w':=by
 rw [←h1,←h2];exact stop_any p l a s top V hp
def RetIO (V:World) (zs:List Int) (er:Int) (e:Ending) (w':World):Prop:=∃A1 cap1,e= .returned (.tuple #[.slice A1 zs.length cap1,.int .i64 er])∧Own 3 1 intC w' V.heap.size (.slice A1 zs.length cap1) zs∧Ext V w'
theorem list_own (p:Option Addr) (l:Option (List Int)) (a s top:Int) (V:World) (hp:ArP V p l):
  Calls Try.prog 52 #[.pointer p,.agg #[.int .i64 (a),.int .i64 (s)],.int .i64 top] V (RetIO V (listA l a s top) (stopE l a s top)):=by
 have HP:=zH hp
 have hb4:=blk_new V #[.int .i64 a,.int .i64 s] 62 _ rfl
 have hW:Ext V (V.alloc (.cells #[.int .i64 a,.int .i64 s] 62)):=(Ext.refl V).alloc _
 obtain ⟨x0,hx0⟩:∃x,stopA l a s top=x:=⟨_,rfl⟩
 obtain ⟨er,her⟩:∃x,stopE l a s top=x:=⟨_,rfl⟩
 have HSA:=zH hx0
 have HSE:=zH her
 have HLA:=zH (show listA l a s top=if er=0 then placesL (stepsA l top a)else []by rw [listA,her])
 clear hx0 her hp
 refine (callsIn_wide (n:=5)).1 ?_
 have hro:Fence.wide.round=none:=rfl
 refine callsIn_of_wp_marks Try.func52 rfl trivial ?_ hro
 simp only [Try.ntmps52,List.size_toArray,List.length_cons,List.length_nil,Nat.reduceAdd,Nat.reduceSub,Array.replicate_succ,Array.replicate_zero,List.push_toArray,List.append_toArray,List.nil_append,List.cons_append]
 gi_wp2
 generalize V.alloc (.cells #[.int .i64 a,.int .i64 s] 62)=W at*
 refine ⟨trivial,?_⟩
 refine (callsIn_wide.2 (stop_is p l a s top x0 er HSA.out HSE.out _ (HP.out.ext hW))).mono ?_
 rintro e w1 ⟨rfl,hx⟩
 have b4:=(hx.block (lt_of_heap hb4)).trans hb4
 have c0:w1.cell? ⟨V.heap.size,0,none⟩=some (.int .i64 a):=by simp [World.cell?,b4]
 have c1:w1.cell? ⟨V.heap.size,1,none⟩=some (.int .i64 s):=by simp [World.cell?,b4]
 have hlt4:=lt_of_heap b4
 have HXV:=zH (hW.trans hx)
 clear hx hb4 hW b4
 by_cases h0:er=0
 rotate_left
 ·have hne:(er !=0)=true:=by simpa using h0
  have HL0:=zH (HLA.out.trans (if_neg h0))
  clear h0 HLA
  gi_wp2
  exact ⟨.tuple #[.slice none 0 0,.int .i64 er],(by simp only [results,Try.results52];go_simp),by rw [HSE.out,HL0.out];exact ⟨none,0,rfl,Own.nil _ _ _ _ _,HXV.out⟩⟩
 subst h0
 have HL0:=zH (HLA.out.trans (if_pos rfl))
 clear HLA
 have hk:wkB a s top=true:=by
  have:=HSE.out
  cases h:wkB a s top
  ·rw [stopE,h]at this;simp at this
  ·rfl
 obtain ⟨hm,ht⟩:mayB a s=true∧(a≤top∧top≤a+s):=by simpa [wkB]using hk
 obtain ⟨m1,m2,m3,m4⟩:=may_bd hm
 obtain ⟨t1,t2⟩:=ht
 clear hk hm
 gi_wp2_with (refine ⟨trivial,?_⟩;gi_at_call 63;refine (callsIn_wide.2 (walk_any _ _ _ _ _)).mono ?_;rintro e w' ⟨rfl,rfl⟩)
 have eC:=blk_old (o2:= .cells #[.int .i64 top] 3) (blk_old (o2:= .cells #[.int .i64 a,.int .i64 s] 62) (blk_old (o2:= .cells #[.pointer p] 82) (blk_new w1 #[.slice none 0 0] 83 _ rfl)))
 have e0:=blk_old (o2:= .cells #[.int .i64 top] 3) (blk_old (o2:= .cells #[.int .i64 a,.int .i64 s] 62) (blk_new (w1.alloc (.cells #[.slice none 0 0] 83)) #[.pointer p] 82 (w1.heap.size+1) (by simp)))
 have e1:=blk_old (o2:= .cells #[.int .i64 top] 3) (blk_new ((w1.alloc (.cells #[.slice none 0 0] 83)).alloc (.cells #[.pointer p] 82)) #[.int .i64 a,.int .i64 s] 62 (w1.heap.size+1+1) (by simp))
 have e2:=blk_new (((w1.alloc (.cells #[.slice none 0 0] 83)).alloc (.cells #[.pointer p] 82)).alloc (.cells #[.int .i64 a,.int .i64 s] 62)) #[.int .i64 top] 3 (w1.heap.size+1+2) (by simp)
 have hx2:Ext w1 ((((w1.alloc (.cells #[.slice none 0 0] 83)).alloc (.cells #[.pointer p] 82)).alloc (.cells #[.int .i64 a,.int .i64 s] 62)).alloc (.cells #[.int .i64 top] 3)):=((((Ext.refl w1).alloc _).alloc _).alloc _).alloc _
 generalize (((w1.alloc (.cells #[.slice none 0 0] 83)).alloc (.cells #[.pointer p] 82)).alloc (.cells #[.int .i64 a,.int .i64 s] 62)).alloc (.cells #[.int .i64 top] 3)=w2 at*
 have hV2:Ext V w2:=HXV.out.trans hx2
 have hvc:V.heap.size < w1.heap.size:=hlt4
 have hlC:=lt_of_heap eC
 have hl0:=lt_of_heap e0
 have hl1:=lt_of_heap e1
 have hl2:=lt_of_heap e2
 generalize w1.heap.size=C at*
 have hnl:∀b,¬Led w2 C b:=fun b ⟨n,c,h⟩=>by simp [World.cell?,eC]at h
 have HLN:Hid ((stepsA l top a).length≤1099511627777):=zH (by have:=steps_len l top (top - a).toNat a;unfold stepsA;omega)
 clear c0 c1
 refine wpIn_rangeK (gf:=73) (lb:= #[.pointer (some ⟨C+1+1,0,none⟩),.pointer (some ⟨C+1+2,0,none⟩),.pointer (some ⟨C+1,0,none⟩)]) rfl (enters_of Try.func73 (by kernel_rfl) rfl)
  (walk1_stops V.heap.size (C+1+1) (C+1+2) (C+1) C p l a s top w2 hl1 hl2 hl0 (by simp [World.cell?,e1]) (by simp [World.cell?,e2]) (by simp [World.cell?,e0]) (fun W' hb=>HP.out.ext (Below.trans hV2 hb)) (by omega) m1 t1 (by omega) hlC hnl)
  (fun k hk=>by rcases hk with rfl | rfl | rfl <;>omega) (by omega) (fun _=>rfl)
  (fun pre W=>(∃v,CollG 3 1 intC w2.heap.size C 83 (placesL pre) W v)∧Ext V W∧w2.heap.size≤W.heap.size) (fun _ _ _=>False)
  (fun s A B h hab=>⟨h.1.imp fun v hv=>hv.abI (by omega) hab,Below.trans h.2.1 (Below.mono hab.below (by omega)),Nat.le_trans h.2.2 hab.below.size⟩)
  (fun _ _ _ _ h _=>h)
  ⟨⟨_,eC,Own.nil _ _ _ _ _⟩,hV2,Nat.le_refl _⟩
  (fun pre x a' W=>(∃v,CollG 3 1 intC w2.heap.size C 83 (placesL pre) W v)∧Ext V W∧∃X,w2.heap.size≤X∧W.heap[X]?=some (.cells #[.int .i64 x.at_,.int .i64 x.h.k,.int .i64 x.h.f,.int .i64 x.h.r,.bool x.h.m,.int .i64 x.h.c,.int .i64 x.e,.bool x.last] 118 (0,0))∧
   a'= {tmps:= #[.pointer p,.agg #[.int .i64 a,.int .i64 s],.int .i64 top,undef,.pointer (some ⟨V.heap.size,0,none⟩),undef,.slice none 0 0,.int .i64 0,.int .i64 x0,.int .i64 0,.pointer (some ⟨C,0,none⟩),.pointer (some ⟨X,0,none⟩),.tuple #[.int .i64 x0,.int .i64 0],.pointer p,.agg #[.int .i64 a,.int .i64 s],.int .i64 top,.tuple #[.int .i64 x0,.int .i64 0],.int .i64 x0,.int .i64 0,.int .i64 0,.bool false,undef,.pointer p,.agg #[.int .i64 a,.int .i64 s],.int .i64 top,.func (.func 73) #[] #[.pointer (some ⟨C+1+1,0,none⟩),.pointer (some ⟨C+1+2,0,none⟩),.pointer (some ⟨C+1,0,none⟩)],.agg #[.int .i64 x.at_,.int .i64 x.h.k,.int .i64 x.h.f,.int .i64 x.h.r,.bool x.h.m,.int .i64 x.h.c,.int .i64 x.e,.bool x.last],undef,undef,undef,undef,undef,undef,undef,undef,undef],defers:= []})
  ?hax ?assign ?body ?done ?stop
 case hax=>
  rintro pre x a' A B ⟨⟨v,hv⟩,hE,X,hX,hbX,rfl⟩ hb hk
  exact ⟨⟨v,hv.keep (by omega) hk⟩,Below.trans hE (Below.mono hb (by omega)),X,hX,hk X _ hbX rfl,rfl⟩
 case assign=>
  rintro lq pre x W K ⟨⟨v,hv⟩,hE,hS⟩ hK
  have hsz:=Ext.size hE
  have HV:=zH hv
  have HE:=zH hE
  clear hv hE
  gi_wp2
  exact hK _ _ ⟨⟨v,HV.out.ext ((Ext.refl W).alloc _)⟩,HE.out.alloc _,W.heap.size,hS,World.alloc_heap_new _ _,rfl⟩ ((KeepsOthers.alloc _ _).from _) (KpX.ext ((Ext.refl W).alloc _) (by omega) (by omega))
 case body=>
  rintro lq pre x a' W ⟨⟨v,hv⟩,hE,X,hX,hbX,rfl⟩ hgd
  have hlen:(placesL pre).length≤1099511627777:=by
   have h1:=hgd.length_le
   have h2:=places_len pre
   have h3:=HLN.out
   simp only [List.length_append]at h1
   omega
  have hltX:=lt_of_heap hbX
  have hsz:=Ext.size hE
  have HV:=zH hv
  have HE:=zH hE
  obtain ⟨xat,xh,xe,xl⟩:=x
  have g3:W.cell? ⟨X,7,none⟩=some (.bool xl):=by simp [World.cell?,hbX]
  have g0:W.cell? ⟨X,0,none⟩=some (.int .i64 xat):=by simp [World.cell?,hbX]
  obtain ⟨c1,c2⟩:=hv.cell
  clear hv hE hbX hgd
  cases xl
  ·have HPG:=zH (places_go pre ⟨xat,xh,xe,false⟩ rfl)
   gi_wp2_with (gi_at_builtin;refine wpListIn_app_lit rfl (.tmp 30) (.tmp 33) 83 rfl intInfo intCells rfl (by exact HV.out.own) [xat] 1 _ rfl ((placesL pre).length+1) 1 (by simp) rfl W.heap.size rfl rfl (by omega) (by simp [maxLen];omega) (by omega) ?_;intro A1 cap1 w3 hown1 hgr1 hat1;obtain ⟨⟨d1,d2⟩,hc2,hk2,hf2,hot⟩:=CollG.app (HV.out.ext ((Ext.refl W).alloc _)) (by omega) (nV:=V.heap.size) (by omega) (by simp;omega) (H:=W.heap.size+1) (by simp) hown1 hgr1 hat1;have HC2:=zH hc2;have HK2:=zH hk2;have HF2:=zH hf2;have HOT:=zH hot;clear hown1 hgr1 hat1 hc2 hk2 hf2 hot)
   have hk0:Kp V.heap.size w2.heap.size C W (W.alloc (.cells #[.int .i64 xat] 3)):=Kp.ext ((Below.refl _ W).alloc (Nat.le_refl _) _) (by omega) (by omega)
   refine ⟨KeepsFrom.trans ((KeepsOthers.alloc _ _).from _) HF2.out,⟨hk0.trans HK2.out,fun k o hk ho=> ?_⟩,⟨_,by rw [HPG.out];exact HC2.out⟩,Below.trans HE.out (hk0.trans HK2.out).below,by have:=(hk0.trans HK2.out).below.size;omega⟩
   have hkl:k < w2.heap.size∧k≠C:=by rcases hk with rfl | rfl | rfl <;>omega
   have h1:(W.alloc (.cells #[.int .i64 xat] 3)).heap[k]?=some o:=blk_old ho
   exact (HOT.out k (lt_of_heap h1) hkl.2 (fun e=>by have:=(World.ownsRow.lt HV.out.own k e).1;omega)).trans h1
  ·have HPG:=zH (places_last pre ⟨xat,xh,xe,true⟩ rfl)
   gi_wp2
   exact ⟨keeps_ext (Ext.refl _),KpX.ext (Ext.refl _) (by omega) (by omega),⟨v,by rw [HPG.out];exact HV.out⟩,HE.out,by omega⟩
 case done=>
  rintro D ys W hD rfl ⟨⟨v,hv⟩,hE,hS⟩ hK
  obtain ⟨c1,c2⟩:=hv.cell
  have HV:=zH hv
  have HE:=zH hE
  clear hv hE
  gi_wp2
  refine ⟨by simp,.inl ⟨_,_,rfl,run_takeDeferred hK,?_⟩⟩
  have hab:AbI w2.heap.size C W (W.putObj D (.deferred none)):=AbI.putObj hD hK rfl
  have hcf:=HV.out.abI (by omega) hab
  have hEE:=Below.trans HE.out (Below.mono hab.below (by omega))
  obtain ⟨A1,cap1,rfl, -⟩:=hcf.own.form intCells (by decide)
  have hrow:=hcf.own.mono (B':=V.heap.size) (by omega)
  exact ⟨.tuple #[.slice A1 (placesL (stepsA l top a)).length cap1,.int .i64 0],(by simp only [results,Try.results52];go_simp),by rw [HL0.out,HSE.out];exact ⟨A1,cap1,rfl,hrow,hEE⟩⟩
 case stop=>
  rintro D c pre W _ _ h _
  exact h.elim
theorem listO_is (p:Option Addr) (l:Option (List Int)) (a s top er:Int) (zs:List Int) (h1:listA l a s top=zs) (h2:stopE l a s top=er) (V:World) (hp:ArP V p l):
  Calls Try.prog 52 #[.pointer p,.agg #[.int .i64 (a),.int .i64 (s)],.int .i64 top] V (RetIO V zs er):=by
 have:=list_own p l a s top V hp
 rwa [h1,h2]at this
attribute [local go_sem] Oper.semAt_some
theorem steps_headF (l:Option (List Int)) (top:Int):∀(n:Nat) (i:Int) (x:Stp),x∈stepsF l top n i→x.last=false→x.h=headH l x.at_∧i≤x.at_∧x.at_ < top:=by
 intro n
 induction n with
 | zero=>intro i x hx hl;simp only [stepsF,List.mem_singleton]at hx;subst hx;cases hl
 | succ n ih=>
  intro i x hx hl
  rw [stepsF]at hx
  split at hx
  ·split at hx
   ·rename_i h1 h2
    rcases List.mem_cons.1 hx with rfl | hx
    ·exact ⟨rfl,Int.le_refl _,h1⟩
    ·obtain ⟨h3,h4,h5⟩:=ih _ _ hx hl
     have:=head_size (wkE_head h2).1
     exact ⟨h3,by omega,h5⟩
   ·simp only [List.mem_singleton]at hx;subst hx;cases hl
  ·simp only [List.mem_singleton]at hx;subst hx;cases hl
theorem walk_bd {l:Option (List Int)} {a s top:Int} (h:stopE l a s top=0):0≤a∧a≤top∧top≤2199023255552:=by
 have hk:wkB a s top=true:=by
  cases hh:wkB a s top
  ·rw [stopE,hh]at h;simp at h
  ·rfl
 obtain ⟨hm,ht⟩:mayB a s=true∧(a≤top∧top≤a+s):=by simpa [wkB]using hk
 have:=may_bd hm
 omega
theorem list_bd {l:Option (List Int)} {a s top x:Int} (h:x∈listA l a s top):a≤x∧x < top∧0≤x∧x < 2199023255552:=by
 rw [listA]at h
 split at h
 ·rename_i h0
  have:=walk_bd h0
  rw [placesL]at h
  obtain ⟨y,hy,rfl⟩:=List.mem_map.1 h
  obtain ⟨hy,hl⟩:=List.mem_filter.1 hy
  have:=steps_headF _ _ _ _ _ hy (by simpa using hl)
  omega
 ·simp at h
theorem list_len (l:Option (List Int)) (a s top:Int):(listA l a s top).length≤2199023255553:=by
 rw [listA]
 split
 ·rename_i h0
  have:=walk_bd h0
  have h1:=places_len (stepsA l top a)
  have h2:=steps_len l top (top - a).toNat a
  rw [←stepsA]at h2
  omega
 ·simp
end Go.Proofs.Ytemmjmplhknemaa
namespace Go.Proofs.Ytemmjmplhknemaa
open Go.RowKit
theorem head_sum {l:Option (List Int)} {i:Int} (h:headE l i=0):hsize (headH l i)=1+(headH l i).f+(headH l i).r∧0≤(headH l i).f∧(headH l i).f≤4096∧0≤(headH l i).r∧(headH l i).r≤4096:=by
 rw [headH,if_pos h]
 unfold headE at h
 split at h
 ·split at h
  ·rename_i hb
   simp only [hdecB,Bool.and_eq_true]at hb
   rw [hsize,hb.2,if_pos rfl]
   have:=hb.2
   simp only [hmayB,decide_eq_true_eq]at this
   omega
  ·cases h
 ·rename_i h2
  exact absurd h h2
end Go.Proofs.Ytemmjmplhknemaa
namespace Go.Proofs.Ytemmjmplhknemaa
open Go.RowKit Go.Shelf
theorem head_in {l:Option (List Int)} {i:Int} (h:headE l i=0):∃ws,l=some ws∧0≤i∧i+hsize (headH l i)≤ws.length:=by
 have h2:=h
 rw [headE]at h2
 split at h2
 ·rename_i h3
  obtain ⟨ws,rfl,h4,h5⟩:=atA_zero h3
  refine ⟨ws,rfl,h4,?_⟩
  split at h2
  ·split at h2
   ·cases h2
   ·rename_i h6
    rw [headH,if_pos h]
    simp only [lenA,Option.getD_some]at h6
    omega
  ·cases h2
 ·rename_i h3;exact absurd h2 h3
def placeN (h:Hd) (raw:Bool):Int:=if raw then h.r else h.f
def placeO (h:Hd) (raw:Bool):Int:=if raw then h.f else 0
def placeE (l:Option (List Int)) (i k:Int) (raw:Bool):Int:=if headE l i=0 then (if 0≤k∧k < placeN (headH l i) raw then 0 else 1)else headE l i
def oplZ (l:Option (List Int)) (i k:Int) (raw:Bool):Int:=if placeE l i k raw=0 then i+1+placeO (headH l i) raw+k else 0
theorem place_in {l:Option (List Int)} {i k:Int} {raw:Bool} (h:placeE l i k raw=0):headE l i=0∧0≤k∧k < placeN (headH l i) raw∧atA l (oplZ l i k raw)=0∧i < oplZ l i k raw∧oplZ l i k raw < i+hsize (headH l i):=by
 have hz:oplZ l i k raw=i+1+placeO (headH l i) raw+k:=by rw [oplZ,if_pos h]
 have h0:headE l i=0:=by
  by_cases h0:headE l i=0
  ·exact h0
  ·rw [placeE,if_neg h0]at h;exact h
 rw [placeE,if_pos h0]at h
 have hk:0≤k∧k < placeN (headH l i) raw:=by
  by_cases hk:0≤k∧k < placeN (headH l i) raw
  ·exact hk
  ·rw [if_neg hk]at h;cases h
 obtain ⟨g1,g2,g3,g4,g5⟩:=head_sum h0
 obtain ⟨ws,rfl,h3,h4⟩:=head_in h0
 have h5:i < oplZ (some ws) i k raw∧oplZ (some ws) i k raw < i+hsize (headH (some ws) i):=by
  rw [hz]
  cases raw <;>simp only [placeO,placeN,if_true,Bool.false_eq_true,if_false]at hk⊢<;>omega
 refine ⟨h0,hk.1,hk.2,?_,h5.1,h5.2⟩
 simp only [atA]
 rw [if_neg (by omega)]
theorem oplace_any (p:Option Addr) (l:Option (List Int)) (i k:Int) (raw:Bool) (V:World) (hp:ArP V p l) (hi: -9223372036854775808≤i∧i≤9223372036854775807):
  Calls Try.prog 82 #[.pointer p,.int .i64 i,.int .i64 k,.bool raw] V fun e w'=>e= .returned (.tuple #[.int .i64 (oplZ l i k raw),.int .i64 (placeE l i k raw)])∧Ext V w':=by
 have HP:=zH hp
 obtain ⟨er,her⟩:∃e,headE l i=e:=⟨_,rfl⟩
 obtain ⟨h,hh⟩:∃h,headH l i=h:=⟨_,rfl⟩
 have HE:=zH her
 have HH:=zH hh
 clear hp
 by_cases h0:er=0
 rotate_left
 ·have hne:(er !=0)=true:=by simpa using h0
  have h1:placeE l i k raw=er:=by rw [placeE,if_neg (by rw [her];exact h0),her]
  have HR:Hid (oplZ l i k raw=0∧placeE l i k raw=er):=zH ⟨by rw [oplZ,if_neg (by rw [h1];exact h0)],h1⟩
  clear her hh h0 h1
  go_enter Try.func82,Try.ntmps82
  go_wp2_with fail
  refine (ohead_is p l i h er HH.out HE.out V HP.out hi).mono ?_
  rintro e w1 ⟨rfl,hx⟩
  go_wp2_with fail
  go_ret2
  exact ⟨by rw [HR.out.1,HR.out.2];rfl,hx.alloc _⟩
 subst h0
 obtain ⟨g1,g2,g3,g4,g5⟩:=head_sum her
 obtain ⟨ws,rfl,h3,h4⟩:=head_in her
 have hs:=head_size her
 have hws:ws.length≤98304:=by
  rcases HP.out with ⟨_,hl⟩ | ⟨b,A,cap,ws',_,hl,hb⟩
  ·cases hl
  ·injection hl with hl;rw [hl];exact hb.len
 rw [hh]at g1 g2 g3 g4 g5 h4 hs
 have HR:Hid (placeE (some ws) i k raw=(if 0≤k∧k < placeN h raw then 0 else 1)∧oplZ (some ws) i k raw=if 0≤k∧k < placeN h raw then i+1+placeO h raw+k else 0):=zH (by
  have e1:placeE (some ws) i k raw=(if 0≤k∧k < placeN h raw then 0 else 1):=by rw [placeE,if_pos HE.out,HH.out]
  refine ⟨e1,?_⟩
  rw [oplZ,e1,HH.out]
  by_cases hk:0≤k∧k < placeN h raw
  ·rw [if_pos hk,if_pos hk,if_pos rfl]
  ·rw [if_neg hk,if_neg hk,if_neg (by decide)])
 have HB:=pers_new V #[.int .i64 h.k,.int .i64 h.f,.int .i64 h.r,.bool h.m,.int .i64 h.c] 99 _ rfl
 clear her hh
 go_enter Try.func82,Try.ntmps82
 go_wp2_with fail
 refine (ohead_is p (some ws) i h 0 HH.out HE.out V HP.out hi).mono ?_
 rintro e w1 ⟨rfl,hx⟩
 have HBH:=pers_new w1 #[.int .i64 h.k,.int .i64 h.f,.int .i64 h.r,.bool h.m,.int .i64 h.c] 99 _ rfl
 have HX:=zH (hx.alloc (.cells #[.int .i64 h.k,.int .i64 h.f,.int .i64 h.r,.bool h.m,.int .i64 h.c] 99))
 clear hx
 go_wp2_with fail
 generalize w1.alloc (.cells #[.int .i64 h.k,.int .i64 h.f,.int .i64 h.r,.bool h.m,.int .i64 h.c] 99)=W at*
 generalize w1.heap.size=X at*
 have g:=HBH.cells
 have hxw:=Ext.refl W
 (refine wp_region_ext (W:=W) (by kernel_rfl) (by kernel_rfl) (by with_reducible assumption) ?_;(repeat (go_big_quiet_step (fail)));refine wpQuiet_nil ?_;intro w1 hx)
 obtain ⟨uq,rfl⟩:∃u:ExtOf W,w1=u.1:=⟨⟨w1,hx⟩,rfl⟩
 clear hx hxw
 cases raw
 ·simp only [placeN,placeO,Bool.false_eq_true,if_false,Int.add_zero]at HR
  by_cases h5:k < 0
  ·have d1:decide (k < 0)=true:=by simpa using h5
   rw [if_neg (by omega),if_neg (by omega)]at HR
   clear h5
   go_wp2_with fail
   go_ret2
   exact ⟨by rw [HR.out.1,HR.out.2];rfl,HX.out.trans uq.2⟩
  have d1:decide (k < 0)=false:=by simpa using h5
  by_cases h6:k < h.f
  ·have d2:decide (h.f≤k)=false:=by simp;omega
   rw [if_pos (by omega),if_pos (by omega)]at HR
   go_wp2_with fail
   go_ret2
   exact ⟨by rw [HR.out.1,HR.out.2];rfl,HX.out.trans uq.2⟩
  ·have d2:decide (h.f≤k)=true:=by simp;omega
   rw [if_neg (by omega),if_neg (by omega)]at HR
   clear h5 h6
   go_wp2_with fail
   go_ret2
   exact ⟨by rw [HR.out.1,HR.out.2];rfl,HX.out.trans uq.2⟩
 ·simp only [placeN,placeO,if_true]at HR
  go_wp2_with fail
  have hxw:=uq.2
  (refine wp_region_ext (W:=W) (by kernel_rfl) (by kernel_rfl) (by with_reducible assumption) ?_;(repeat (go_big_quiet_step (fail)));refine wpQuiet_nil ?_;intro w1 hx)
  obtain ⟨uq,rfl⟩:∃u:ExtOf W,w1=u.1:=⟨⟨w1,hx⟩,rfl⟩
  clear hx hxw
  by_cases h5:k < 0
  ·have d1:decide (k < 0)=true:=by simpa using h5
   rw [if_neg (by omega),if_neg (by omega)]at HR
   clear h5
   go_wp2_with fail
   go_ret2
   exact ⟨by rw [HR.out.1,HR.out.2];rfl,HX.out.trans uq.2⟩
  have d1:decide (k < 0)=false:=by simpa using h5
  by_cases h6:k < h.r
  ·have d2:decide (h.r≤k)=false:=by simp;omega
   rw [if_pos (by omega),if_pos (by omega)]at HR
   go_wp2_with fail
   go_ret2
   exact ⟨by rw [HR.out.1,HR.out.2];rfl,HX.out.trans uq.2⟩
  ·have d2:decide (h.r≤k)=true:=by simp;omega
   rw [if_neg (by omega),if_neg (by omega)]at HR
   clear h5 h6
   go_wp2_with fail
   go_ret2
   exact ⟨by rw [HR.out.1,HR.out.2];rfl,HX.out.trans uq.2⟩
def fldZ (l:Option (List Int)) (i k:Int) (raw:Bool):Int:=if placeE l i k raw=0 then rdA l (oplZ l i k raw)else 0
theorem oread_any (p:Option Addr) (l:Option (List Int)) (i k:Int) (raw:Bool) (V:World) (hp:ArP V p l) (hi: -9223372036854775808≤i∧i≤9223372036854775807):
  Calls Try.prog 72 #[.pointer p,.int .i64 i,.int .i64 k,.bool raw] V fun e w'=>e= .returned (.tuple #[.int .u64 (fldZ l i k raw),.int .i64 (placeE l i k raw)])∧Ext V w':=by
 have HP:=zH hp
 obtain ⟨er,her⟩:∃e,placeE l i k raw=e:=⟨_,rfl⟩
 obtain ⟨z,hz⟩:∃e,oplZ l i k raw=e:=⟨_,rfl⟩
 have Z:=oplace_any p l i k raw V hp hi
 rw [her,hz]at Z
 rw [fldZ,her,hz]
 clear hp
 by_cases h0:er=0
 ·subst h0
  have h1:=(place_in her).2.2.2.1
  rw [hz]at h1
  have H1:=zH h1
  clear her hz h1
  go_enter Try.func72,Try.ntmps72
  go_wp2_with fail
  refine Z.mono ?_
  clear Z
  rintro e w1 ⟨rfl,hx⟩
  go_wp2_with fail
  refine (aread_is p l z _ 0 rfl H1.out w1 (HP.out.ext hx)).mono ?_
  rintro e w2 ⟨rfl,hx2⟩
  go_wp2_with fail
  go_ret2
  exact ⟨rfl,hx.trans hx2⟩
 ·have hne:(er !=0)=true:=by simpa using h0
  rw [if_neg h0]
  clear her hz h0
  go_enter Try.func72,Try.ntmps72
  go_wp2_with fail
  refine Z.mono ?_
  clear Z
  rintro e w1 ⟨rfl,hx⟩
  go_wp2_with fail
  go_ret2
  exact ⟨rfl,hx⟩
theorem ofield_any (p:Option Addr) (l:Option (List Int)) (i k:Int) (V:World) (hp:ArP V p l) (hi: -9223372036854775808≤i∧i≤9223372036854775807):
  Calls Try.prog 59 #[.pointer p,.int .i64 i,.int .i64 k] V fun e w'=>e= .returned (.tuple #[.int .u64 (fldZ l i k false),.int .i64 (placeE l i k false)])∧Ext V w':=by
 have Z:=oread_any p l i k false V hp hi
 generalize fldZ l i k false=z at*
 generalize placeE l i k false=er at*
 go_enter Try.func59,Try.ntmps59
 go_wp2_with fail
 refine Z.mono ?_
 rintro e w1 ⟨rfl,hx⟩
 go_wp2_with fail
 go_ret2
 exact ⟨rfl,hx⟩
theorem check_is {s l t m:Int} {b:Bool} (h:cfgB s l t m=b) (w:World):Calls Try.prog 23 #[.agg #[.int .i64 (s),.int .i64 (l),.int .i64 (t),.int .i64 (m)]] w fun e w'=>e= .returned (.bool b)∧Ext w w':=by
 rw [←h];exact check_any s l t m w
theorem lwords_is {s l t m n:Int} (h:wordsZ s l t m=n) (w:World):Calls Try.prog 25 #[.agg #[.int .i64 (s),.int .i64 (l),.int .i64 (t),.int .i64 (m)]] w fun e w'=>e= .returned (.int .i64 n)∧Ext w w':=by
 rw [←h];exact words_any s l t m w
theorem lfrom_is {s l t m x y:Int} {b:Bool} (h1:halfA s l t m b=x) (h2:halfS s l t m=y) (w:World):Calls Try.prog 50 #[.agg #[.int .i64 (s),.int .i64 (l),.int .i64 (t),.int .i64 (m)],.bool b] w fun e w'=>e= .returned (.agg #[.int .i64 (x),.int .i64 (y)])∧Ext w w':=by
 rw [←h1,←h2];exact from_any s l t m b w
theorem llarge_is {s l t m x y:Int} (h1:largeA s l t m=x) (h2:largeS s l t m=y) (w:World):Calls Try.prog 26 #[.agg #[.int .i64 (s),.int .i64 (l),.int .i64 (t),.int .i64 (m)]] w fun e w'=>e= .returned (.agg #[.int .i64 (x),.int .i64 (y)])∧Ext w w':=by
 rw [←h1,←h2];exact large_any s l t m w
theorem lsmall_is {s l t m x:Int} {b:Bool} (h:smallB s l t m x=b) (w:World):Calls Try.prog 55 #[.agg #[.int .i64 (s),.int .i64 (l),.int .i64 (t),.int .i64 (m)],.int .i64 x] w fun e w'=>e= .returned (.bool b)∧Ext w w':=by
 rw [←h];exact small_any s l t m x w
theorem rtright_is (A:Option Addr) (cap:Nat) (sl:List (Bool×Int×Int)) (n:Int) (b:Bool) (h:slotsB sl n=b) (V:World) (hl:SlotsAt V A sl) (hlen:sl.length≤9223372036854775807) (hbd:∀x∈sl,0≤x.2.2∧x.2.2 < 18446744073709551616):
  Calls Try.prog 58 #[.slice A sl.length cap,.int .i64 n] V fun e w'=>e= .returned (.bool b)∧Ext V w':=by
 rw [←h];exact rtright_any A cap sl n V hl hlen hbd
theorem half_bd (s l t m:Int) (b:Bool):0≤halfA s l t m b∧halfA s l t m b≤32768∧0≤halfS s l t m∧halfS s l t m≤32768:=by
 unfold halfA halfS
 cases h:cfgB s l t m
 ·simp
 ·have:=cfg_bd h
  cases b <;>simp <;>omega
def topB (c0 c1 c2 c3:Int) (sn:Bool) (top:Int):Bool:=decide (halfA c0 c1 c2 c3 sn≤top∧top≤halfA c0 c1 c2 c3 sn+halfS c0 c1 c2 c3)
section
variable {c0 c1 c2 c3 : Int} {sn : Bool} {wA : Option Addr} {ws : List Int} {wc : Nat} {top : Int} {tA : Option Addr} {tb : List (Int × Int)} {tc : Nat} {fA : Option Addr} {fr : List (Int × Int)} {fc : Nat} {sA : Option Addr} {sl : List (Bool × Int × Int)} {sc : Nat}
variable {p sm m : Value} {V : World} {L : Nat}
theorem stconfig_any (hL:Pers V (fun w=>w.heap[L]?=some (.cells #[.int .i64 c0,.int .i64 c1,.int .i64 c2,.int .i64 c3,.bool sn,.slice wA ws.length wc,.int .i64 top,.slice tA tb.length tc,.slice fA fr.length fc,.slice sA sl.length sc,p,sm,m] 86 (0,0)))):
  Calls Try.prog 41 #[.pointer (some ⟨L,0,none⟩)] V fun e w'=>e= .returned (.bool (cfgB c0 c1 c2 c3))∧Ext V w':=by
 obtain ⟨b,hb⟩:∃b,cfgB c0 c1 c2 c3=b:=⟨_,rfl⟩
 have HB:=zH hb
 rw [hb]
 have g:=hL.cells
 clear hb
 refine at_baseC fun uq=> ?_
 go_enter Try.func41,Try.ntmps41
 go_wp2_with fail
 (refine (check_is HB.out _).mono ?_;rintro e wq ⟨rfl,hx⟩;replace hx:=Ext.trans (a:=V) zE hx;obtain ⟨uq,rfl⟩:∃u:ExtOf V,wq=u.1:=⟨⟨wq,hx⟩,rfl⟩;clear hx;go_wp2_with fail)
 go_ret
 exact ⟨rfl,ExtOf.ext _⟩
theorem stwords_any (hL:Pers V (fun w=>w.heap[L]?=some (.cells #[.int .i64 c0,.int .i64 c1,.int .i64 c2,.int .i64 c3,.bool sn,.slice wA ws.length wc,.int .i64 top,.slice tA tb.length tc,.slice fA fr.length fc,.slice sA sl.length sc,p,sm,m] 86 (0,0)))) (hlen:ws.length≤9223372036854775807):
  Calls Try.prog 42 #[.pointer (some ⟨L,0,none⟩)] V fun e w'=>e= .returned (.bool (decide ((ws.length:Int)=wordsZ c0 c1 c2 c3)))∧Ext V w':=by
 obtain ⟨n,hn⟩:∃b,wordsZ c0 c1 c2 c3=b:=⟨_,rfl⟩
 have HN:=zH hn
 rw [hn]
 obtain ⟨b,hb⟩:∃b,((ws.length:Int)==n)=b:=⟨_,rfl⟩
 have HR:Hid (decide ((ws.length:Int)=n)=b):=zH (by rw [←hb];exact Bool.eq_iff_iff.2 (by simp))
 have g:=hL.cells
 clear hn
 refine at_baseC fun uq=> ?_
 go_enter Try.func42,Try.ntmps42
 go_wp2_with fail
 have hu:=uq.2
 (refine wp_region_ext (W:=V) (by kernel_rfl) (by kernel_rfl) (by with_reducible assumption) ?_;(repeat (go_big_quiet_step (first | (go_at_call 25;with_reducible exact Calls.ext_of (lwords_is HN.out _)))));refine wpQuiet_nil ?_;intro w1 hx)
 (obtain ⟨uq,rfl⟩:∃u:ExtOf V,w1=u.1:=⟨⟨w1,hx⟩,rfl⟩;clear hx;go_wp2_with fail)
 go_ret
 exact ⟨ret_bool HR.out.symm,ExtOf.ext _⟩
theorem sttop_any (hL:Pers V (fun w=>w.heap[L]?=some (.cells #[.int .i64 c0,.int .i64 c1,.int .i64 c2,.int .i64 c3,.bool sn,.slice wA ws.length wc,.int .i64 top,.slice tA tb.length tc,.slice fA fr.length fc,.slice sA sl.length sc,p,sm,m] 86 (0,0)))):
  Calls Try.prog 43 #[.pointer (some ⟨L,0,none⟩)] V fun e w'=>e= .returned (.bool (topB c0 c1 c2 c3 sn top))∧Ext V w':=by
 obtain ⟨a,ha⟩:∃b,halfA c0 c1 c2 c3 sn=b:=⟨_,rfl⟩
 obtain ⟨n,hn⟩:∃b,halfS c0 c1 c2 c3=b:=⟨_,rfl⟩
 obtain ⟨b1,b2,b3,b4⟩:=half_bd c0 c1 c2 c3 sn
 rw [ha]at b1 b2
 rw [hn]at b3 b4
 have HA:=zH ha
 have HN:=zH hn
 have HT:Hid (topB c0 c1 c2 c3 sn top=decide (a≤top∧top≤a+n)):=zH (by rw [topB,ha,hn])
 have hw:wrap64 (a+n)=a+n:=IntWalk.wrap64_in _ ⟨by omega,by omega⟩
 have HW:=zH hw
 have g:=hL.cells
 clear ha hn hw
 refine at_baseC fun uq=> ?_
 go_enter Try.func43,Try.ntmps43
 go_wp2_with fail
 have hu:=uq.2
 refine wp_norm (Behind fun a' w'=>Ext V w'∧∃X,Hid (w'.heap[X]?=some (.cells #[.int .i64 a,.int .i64 n] 62 (0,0)))∧a'= {tmps:= #[.pointer (some ⟨L,0,none⟩),undef,.bool false,.pointer (some ⟨X,0,none⟩),.pointer (some ⟨L,0,none⟩),.pointer (some ⟨L,0,none⟩),.pointer (some ⟨L,0,none⟩),.pointer (some ⟨L,0,none⟩),.agg #[.int .i64 (c0),.int .i64 (c1),.int .i64 (c2),.int .i64 (c3)],.pointer (some ⟨L,0,none⟩),.pointer (some ⟨L,0,none⟩),.pointer (some ⟨L,0,none⟩),.pointer (some ⟨L,4,none⟩),.bool sn,.agg #[.int .i64 (a),.int .i64 (n)],undef,undef,undef,undef,undef,undef,undef,undef,undef,undef,undef,undef,undef,undef,undef,undef,undef,undef,undef,undef,undef],defers:= []}) ?_ ?_
 ·(refine wp_region_fork (W:=V) [(0,true),(1,true),(2,true),(3,true),(4,true),(5,true),(6,true),(7,true),(8,true),(9,true)] 1 [(10,[11]),(11,[10])] [12] (by kernel_rfl) (by kernel_rfl) (by intro c a d v w h;cases d <;>first | exact h | (cases h;done) | cases h.1.1 | cases h.1) (by with_reducible assumption) ?_;simp only [opsOf,List.map_cons,List.map_nil,List.getD_cons_zero,List.getD_cons_succ];(repeat (go_big_quiet_step (fail)));refine wpQuiet_nil ?_;refine all_two ?_ ?_ <;>(simp only [opsOf,List.map_cons,List.map_nil,List.getD_cons_zero,List.getD_cons_succ];intro w1 hx))
  ·(refine mid_step (by rfl) ?_;intro K hK;go_simp)
   refine (lfrom_is HA.out HN.out _).mono ?_
   rintro e w2 ⟨rfl,hx2⟩
   refine hK _ _ (hx.trans hx2) ?_
   clear hK K
   (refine mid_step (by rfl) ?_;intro K hK;go_simp)
   refine hK _ _ ((hx.trans hx2).alloc _) ?_
   clear hK K
   refine mid_nil ?_
   go_wp2_with fail
   exact Behind.mk ⟨(hx.trans hx2).alloc _,w2.heap.size,zH (World.alloc_heap_new _ _),rfl⟩
  ·(refine mid_step (by rfl) ?_;intro K hK;go_simp)
   refine hK _ _ (hx.alloc _) ?_
   clear hK K
   have hb:=blk_new w1 #[.int .i64 0,.int .i64 0] 62 _ rfl
   have hx1:=hx.alloc (.cells #[.int .i64 0,.int .i64 0] 62)
   generalize w1.alloc (.cells #[.int .i64 0,.int .i64 0] 62)=w3 at*
   have hX:V.heap.size≤w1.heap.size:=hx.size
   generalize w1.heap.size=X at*
   (refine mid_step (by rfl) ?_;intro K hK;go_simp)
   refine (lfrom_is HA.out HN.out _).mono ?_
   rintro e w2 ⟨rfl,hx2⟩
   refine hK _ _ (hx1.trans hx2) ?_
   clear hK K
   have hb2:=(hx2.block (lt_of_heap hb)).trans hb
   have g3:∀i,w2.cell? ⟨X,i,none⟩=(#[.int .i64 0,.int .i64 0]:Array Value)[i]?:=fun i=>by simp [World.cell?,hb2]
   have g4:∀i,w2.frozen? ⟨X,i,none⟩=false:=fun i=>by simp [World.frozen?,hb2]
   refine mid_nil ?_
   go_wp2_with fail
   exact Behind.mk ⟨((hx1.trans hx2).setCell hX _).setCell hX _,X,zH (blk_set (blk_set hb2 _) _),rfl⟩
 intro a' W hbeh
 obtain ⟨hx2,X,hS0,rfl⟩:=hbeh.out
 clear hbeh
 have hS:=pers_blk hS0.out
 have HX:=zH hx2
 replace hL:=hL.re hx2
 clear hx2 g hu hS0
 go_wp2_with fail
 have g1:=hL.cells
 have g2:=hS.cells
 have hxw:=Ext.refl W
 have hw:=HW.out
 by_cases h1:a≤top
 ·have d1:decide (a≤top)=true:=by simpa using h1
  obtain ⟨b,hb⟩:∃b,decide (top≤a+n)=b:=⟨_,rfl⟩
  have HR:Hid (topB c0 c1 c2 c3 sn top=b):=zH (by rw [HT.out,←hb];simp [h1])
  clear h1
  (refine wp_region_ext (W:=W) (by kernel_rfl) (by kernel_rfl) (by with_reducible assumption) ?_;(repeat (go_big_quiet_step (fail)));refine wpQuiet_nil ?_;intro w1 hx)
  (obtain ⟨uq,rfl⟩:∃u:ExtOf W,w1=u.1:=⟨⟨w1,hx⟩,rfl⟩;clear hx;go_wp2_with fail)
  go_ret
  exact ⟨ret_bool HR.out.symm,HX.out.trans (ExtOf.ext _)⟩
 ·have d1:decide (a≤top)=false:=by simpa using h1
  have HR:Hid (topB c0 c1 c2 c3 sn top=false):=zH (by rw [HT.out];simp [h1])
  clear h1
  (refine wp_region_ext (W:=W) (by kernel_rfl) (by kernel_rfl) (by with_reducible assumption) ?_;(repeat (go_big_quiet_step (fail)));refine wpQuiet_nil ?_;intro w1 hx)
  (obtain ⟨uq,rfl⟩:∃u:ExtOf W,w1=u.1:=⟨⟨w1,hx⟩,rfl⟩;clear hx;go_wp2_with fail)
  go_ret
  exact ⟨ret_bool HR.out.symm,HX.out.trans (ExtOf.ext _)⟩
theorem stslots_any (hL:Pers V (fun w=>w.heap[L]?=some (.cells #[.int .i64 c0,.int .i64 c1,.int .i64 c2,.int .i64 c3,.bool sn,.slice wA ws.length wc,.int .i64 top,.slice tA tb.length tc,.slice fA fr.length fc,.slice sA sl.length sc,p,sm,m] 86 (0,0)))) (HS:Pers V (fun w=>SlotsAt w sA sl)) (hlen:sl.length≤9223372036854775807) (hbd:∀x∈sl,0≤x.2.2∧x.2.2 < 18446744073709551616):
  Calls Try.prog 47 #[.pointer (some ⟨L,0,none⟩)] V fun e w'=>e= .returned (.bool (slotsB sl c2))∧Ext V w':=by
 obtain ⟨b,hb⟩:∃b,slotsB sl c2=b:=⟨_,rfl⟩
 have HB:=zH hb
 have HBD:=zH hbd
 rw [hb]
 have g:=hL.cells
 clear hb hbd
 refine at_baseC fun uq=> ?_
 go_enter Try.func47,Try.ntmps47
 go_wp2_with fail
 have hu:=uq.2
 (refine wp_region_ext (W:=V) (by kernel_rfl) (by kernel_rfl) (by with_reducible assumption) ?_;(repeat (go_big_quiet_step (first | (go_at_call 58;with_reducible exact Calls.ext_of (rtright_is sA sc sl c2 b HB.out _ (HS.at zE) hlen HBD.out)))));refine wpQuiet_nil ?_;intro w1 hx)
 (obtain ⟨uq,rfl⟩:∃u:ExtOf V,w1=u.1:=⟨⟨w1,hx⟩,rfl⟩;clear hx;go_wp2_with fail)
 go_ret
 exact ⟨rfl,ExtOf.ext _⟩
end
def quietB (h:Hd):Bool:= !h.m && (h.c==0)
theorem quiet_is (h:Hd) (b:Bool) (hb:quietB h=b) (V:World):Calls Try.prog 54 #[.agg #[.int .i64 h.k,.int .i64 h.f,.int .i64 h.r,.bool h.m,.int .i64 h.c]] V fun e w'=>e= .returned (.bool b)∧Ext V w':=by
 obtain ⟨hk,hf,hr,m,c⟩:=h
 subst hb
 obtain ⟨b,hb⟩:∃b,(c==0)=b:=⟨_,rfl⟩
 cases m
 ·have HR:Hid (quietB ⟨hk,hf,hr,false,c⟩=b):=zH (by simp [quietB,←hb])
  go_enter Try.func54,Try.ntmps54
  go_wp2_with fail
  go_ret
  exact ⟨ret_bool HR.out.symm,(Ext.refl V).alloc _⟩
 ·have HR:Hid (quietB ⟨hk,hf,hr,true,c⟩=false):=zH (by simp [quietB])
  go_enter Try.func54,Try.ntmps54
  go_wp2_with fail
  go_ret
  exact ⟨ret_bool HR.out.symm,(Ext.refl V).alloc _⟩
end Go.Proofs.Ytemmjmplhknemaa
