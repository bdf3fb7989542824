/- Merged by program (merge.py) out of: WkB, WkC, RfC, WkD, RfD, WpP, ObC, StF, StA, AwA. -/
import Derived.Test.YtphpppjfogpohaaGreatMq0
import Derived.BigRegionIn
import Derived.Test.YtphpppjfogpohaaGreatMq19
import Derived.Test.YtphpppjfogpohaaGreatMq1
import Derived.Test.YtphpppjfogpohaaGreatMq7
import Derived.Test.YtphpppjfogpohaaGreatMq18
import Derived.Test.YtphpppjfogpohaaGreatMq13
import Derived.Test.YtphpppjfogpohaaGreatMq14
import Derived.Test.YtphpppjfogpohaaGreatMq12
set_option linter.unusedSimpArgs false
set_option linter.unusedVariables false
set_option maxRecDepth 100000
set_option maxHeartbeats 16000000
namespace Go.Proofs.YtphpppjfogpohaaGreat
open Go.RowKit Go.Shelf
attribute [local go_sem] Oper.semAt_some
theorem oc (a s:Int) (b:Bool) (h:mayB a s=b) (w:World):Calls Tryz.prog 90 #[.agg #[.int .i64 (a),.int .i64 (s)]] w fun e w'=>e= .returned (.bool b)∧Ext w w':=by
 rw [←h];exact se a s w
theorem qJ (p:Option Addr) (a s top:Int) (w:World):
  Calls Tryz.prog 202 #[.pointer p,.agg #[.int .i64 (a),.int .i64 (s)],.int .i64 top] w fun e w'=>e= .returned (.func (.func 225) #[] #[.pointer (some ⟨w.heap.size+1,0,none⟩),.pointer (some ⟨w.heap.size+2,0,none⟩),.pointer (some ⟨w.heap.size,0,none⟩)])∧w'=((w.alloc (.cells #[.pointer p] 121)).alloc (.cells #[.int .i64 a,.int .i64 s] 63)).alloc (.cells #[.int .i64 top] 3):=by
 go_enter Tryz.func202,Tryz.ntmps202
 go_wp2
 go_ret
 exact ⟨rfl,rfl⟩
def b9 (l:Option (List Int)) (top i:Int):Stp:=(ax l top i).getLastD ⟨i,hd0,0,true⟩
theorem ga (l:Option (List Int)) (top:Int):∀(n:Nat) (i:Int),(top - i).toNat≤n→∃pre x,ax l top i=pre++ [x]∧x.last=true∧(∀y∈pre,y.last=false)∧x=b9 l top i:=by
 intro n
 induction n with
 | zero=>
  intro i hi
  have h:=eo (l:=l) (top:=top) (i:=i) oM
  exact ⟨[],_,h,rfl,by simp,by rw [b9,h];rfl⟩
 | succ n ih=>
  intro i hi
  by_cases h:i < top
  ·by_cases h2:wkE l top i=0
   ·have hg:=gz h h2
    have:=cX (fp h2).1
    obtain ⟨pre,x,h3,h4,h5,h6⟩:=ih (i+av (aK l i)) oM
    refine ⟨⟨i,aK l i,0,false⟩::pre,x,by rw [hg,h3];rfl,h4,fun y hy=> ?_,?_⟩
    ·rcases List.mem_cons.1 hy with rfl | hy
     ·rfl
     ·exact h5 y hy
    ·rw [b9,hg,h3,←List.cons_append]
     simp only [List.getLastD_eq_getLast?,List.getLast?_append,List.getLast?_singleton,Option.some_or,Option.getD_some]
   ·have he:=fq h h2
    exact ⟨[],_,he,rfl,by simp,by rw [b9,he];rfl⟩
  ·have h:=eo (l:=l) (top:=top) (i:=i) h
   exact ⟨[],_,h,rfl,by simp,by rw [b9,h];rfl⟩
theorem uI {l:Option (List Int)} {top i:Int} {pre:List Stp} {x:Stp} (h:pre++ [x] <+:ax l top i) (hx:x.last=true):x=b9 l top i∧pre++ [x]=ax l top i:=by
 obtain ⟨pr,y,h1,h2,h3,h4⟩:=ga l top _ i (Nat.le_refl _)
 obtain ⟨t,ht⟩:=h
 rw [h1]at ht
 have hlen:pre.length≤pr.length:=by have:=congrArg List.length ht;simp at this;omega
 rcases Nat.lt_or_ge pre.length pr.length with hlt | hge
 ·exfalso
  have e:=congrArg (fun l=>l[pre.length]?) ht
  simp only [List.append_assoc,List.getElem?_append_right (Nat.le_refl _),Nat.sub_self,List.cons_append,List.getElem?_cons_zero]at e
  rw [List.getElem?_append_left hlt,List.getElem?_eq_getElem hlt]at e
  injection e with e
  have:=h3 _ (List.getElem_mem hlt)
  rw [←e,hx]at this
  cases this
 ·have hl:pre.length=pr.length:=by omega
  rw [List.append_assoc]at ht
  obtain ⟨e1,e2⟩:=List.append_inj ht hl
  simp only [List.cons_append,List.nil_append,List.cons.injEq]at e2
  exact ⟨e2.1.trans h4,by rw [h1,e1,e2.1]⟩
theorem uJ {l:Option (List Int)} {top i:Int} (h:∀x∈ax l top i,x.last=false):False:=by
 obtain ⟨pr,y,h1,h2, -⟩:=ga l top _ i (Nat.le_refl _)
 have:=h y (by rw [h1];simp)
 rw [h2]at this
 cases this
def wkB (a s top:Int):Bool:=mayB a s && decide (a≤top∧top≤a+s)
def cj (l:Option (List Int)) (a s top:Int):Int:=if wkB a s top then (b9 l top a).at_ else 0
def bN (l:Option (List Int)) (a s top:Int):Int:=if wkB a s top then (b9 l top a).e else 1
theorem wL (p:Option Addr) (l:Option (List Int)) (a s top:Int) (V:World) (hp:ArP V p l):
  Calls Tryz.prog 201 #[.pointer p,.agg #[.int .i64 (a),.int .i64 (s)],.int .i64 top] V fun e w'=>e= .returned (.tuple #[.int .i64 (cj l a s top),.int .i64 (bN l a s top)])∧Ext V w':=by
 have HP:=zH hp
 have hb4:=b8 (o2:= .cells #[.int .i64 0] 35) (b8 (o2:= .cells #[.int .i64 0] 3) (aR V #[.int .i64 a,.int .i64 s] 63 _ rfl))
 have hb6:=b8 (o2:= .cells #[.int .i64 0] 35) (aR (V.alloc (.cells #[.int .i64 a,.int .i64 s] 63)) #[.int .i64 0] 3 (V.heap.size+1) sM)
 have hb7:=aR ((V.alloc (.cells #[.int .i64 a,.int .i64 s] 63)).alloc (.cells #[.int .i64 0] 3)) #[.int .i64 0] 35 (V.heap.size+1+1) sM
 have hW:Ext V (((V.alloc (.cells #[.int .i64 a,.int .i64 s] 63)).alloc (.cells #[.int .i64 0] 3)).alloc (.cells #[.int .i64 0] 35)):=(((AD V).alloc _).alloc _).alloc _
 obtain ⟨b,hb⟩:∃b,mayB a s=b:=⟨_,rfl⟩
 have HB:=zH hb
 clear hb hp
 refine (callsIn_wide (n:=5)).1 ?_
 have hro:Fence.wide.round=none:=rfl
 refine callsIn_of_wp_marks Tryz.func201 rfl trivial ?_ hro
 simp only [Tryz.ntmps201,List.size_toArray,List.length_cons,List.length_nil,Nat.reduceAdd,Nat.reduceSub,Array.replicate_succ,Array.replicate_zero,List.push_toArray,List.append_toArray,List.nil_append,List.cons_append]
 gi_wp2
 generalize ((V.alloc (.cells #[.int .i64 a,.int .i64 s] 63)).alloc (.cells #[.int .i64 0] 3)).alloc (.cells #[.int .i64 0] 35)=W at*
 generalize hX7:V.heap.size+1+1=X7 at*
 generalize hX6:V.heap.size+1=X6 at*
 have HX6:=zH hX6
 have HX7:=zH hX7
 clear hX6 hX7
 have HB4:=zH hb4
 have HB6:=zH hb6
 have HB7:=zH hb7
 have HW:=zH hW
 clear hb4 hb6 hb7 hW
 refine ⟨trivial,?_⟩
 refine (callsIn_wide.2 (oc a s b HB.out _)).mono ?_
 rintro e w1 ⟨rfl,hx⟩
 have b4:=(hx.block (aA HB4.out)).trans HB4.out
 have b6:=(hx.block (aA HB6.out)).trans HB6.out
 have b7:=(hx.block (aA HB7.out)).trans HB7.out
 have HXW:=zH (HW.out.trans hx)
 have c0:w1.cell? ⟨V.heap.size,0,none⟩=some (.int .i64 a):=by simp [World.cell?,b4]
 have c1:w1.cell? ⟨V.heap.size,1,none⟩=some (.int .i64 s):=by simp [World.cell?,b4]
 have c2:w1.cell? ⟨X6,0,none⟩=some (.int .i64 0):=by simp [World.cell?,b6]
 have c3:w1.cell? ⟨X7,0,none⟩=some (.int .i64 0):=by simp [World.cell?,b7]
 have f2:w1.frozen? ⟨X6,0,none⟩=false:=by simp [World.frozen?,b6]
 have f3:w1.frozen? ⟨X7,0,none⟩=false:=by simp [World.frozen?,b7]
 have n67:X6≠X7:=by have:=HX6.out;have:=HX7.out;omega
 have n76:X7≠X6:=fun e=>n67 e.symm
 have HBB4:=zH b4
 have HBB6:=zH b6
 have HBB7:=zH b7
 clear hx b4 b6 b7
 by_cases hk:wkB a s top=true
 rotate_left
 ·have hk':wkB a s top=false:=by simpa using hk
  have HA:Hid (cj l a s top=0∧bN l a s top=1):=zH (by rw [cj,bN,hk'];exact ⟨rfl,rfl⟩)
  have HXS:Hid (Ext V ((w1.setCell ⟨X6,0,none⟩ (.int .i64 0)).setCell ⟨X7,0,none⟩ (.int .i64 1))):=zH ((HXW.out.setCell (by have h1:=HX6.out;show V.heap.size≤X6;omega) _).setCell (by have h1:=HX6.out;have h2:=HX7.out;show V.heap.size≤X7;omega) _)
  cases b
  ·clear hk hk'
   gi_wp2
   exact ⟨.tuple #[.int .i64 0,.int .i64 1],(by simp only [results,Tryz.results201];go_simp),(by rw [HA.out.1,HA.out.2]),HXS.out⟩
  ·obtain ⟨m1,m2,m3,m4⟩:=au HB.out
   have hw:wrap64 (a+s)=a+s:=IntWalk.wrap64_in _ ⟨by omega,by omega⟩
   by_cases h1:top < a
   ·have d1:decide (top < a)=true:=by simpa using h1
    clear hk hk'
    gi_wp2
    exact ⟨.tuple #[.int .i64 0,.int .i64 1],(by simp only [results,Tryz.results201];go_simp),(by rw [HA.out.1,HA.out.2]),HXS.out⟩
   have d1:decide (top < a)=false:=by simpa using h1
   have d2:decide (a+s < top)=true:=by
    have:=HB.out
    simp only [wkB,this,Bool.true_and,decide_eq_false_iff_not]at hk'
    simp only [decide_eq_true_eq]
    omega
   clear hk hk'
   gi_wp2
   exact ⟨.tuple #[.int .i64 0,.int .i64 1],(by simp only [results,Tryz.results201];go_simp),(by rw [HA.out.1,HA.out.2]),HXS.out⟩
 obtain rfl:b=true:=by
  have:=HB.out
  unfold wkB at hk
  rw [this]at hk
  cases b
  ·simp at hk
  ·rfl
 obtain ⟨m1,m2,m3,m4⟩:=au HB.out
 have hw:wrap64 (a+s)=a+s:=IntWalk.wrap64_in _ ⟨by omega,by omega⟩
 obtain ⟨t1,t2⟩:a≤top∧top≤a+s:=by simpa [wkB,HB.out]using hk
 have d1:decide (top < a)=false:=by simp;omega
 have d2:decide (a+s < top)=false:=by simp;omega
 have HA:Hid (cj l a s top=(b9 l top a).at_∧bN l a s top=(b9 l top a).e):=zH (by rw [cj,bN,hk];exact ⟨rfl,rfl⟩)
 clear hk
 gi_wp2_with (refine ⟨trivial,?_⟩;gi_at_call 202;refine (callsIn_wide.2 (qJ _ _ _ _ _)).mono ?_;rintro e w' ⟨rfl,rfl⟩)
 have e0:=b8 (o2:= .cells #[.int .i64 top] 3) (b8 (o2:= .cells #[.int .i64 a,.int .i64 s] 63) (aR w1 #[.pointer p] 121 _ rfl))
 have e1:=b8 (o2:= .cells #[.int .i64 top] 3) (aR (w1.alloc (.cells #[.pointer p] 121)) #[.int .i64 a,.int .i64 s] 63 (w1.heap.size+1) sM)
 have e2:=aR ((w1.alloc (.cells #[.pointer p] 121)).alloc (.cells #[.int .i64 a,.int .i64 s] 63)) #[.int .i64 top] 3 (w1.heap.size+2) sM
 have hx2:Ext w1 (((w1.alloc (.cells #[.pointer p] 121)).alloc (.cells #[.int .i64 a,.int .i64 s] 63)).alloc (.cells #[.int .i64 top] 3)):=(((AD w1).alloc _).alloc _).alloc _
 generalize ((w1.alloc (.cells #[.pointer p] 121)).alloc (.cells #[.int .i64 a,.int .i64 s] 63)).alloc (.cells #[.int .i64 top] 3)=w2 at*
 have hbg6:=(hx2.block (aA HBB6.out)).trans HBB6.out
 have hbg7:=(hx2.block (aA HBB7.out)).trans HBB7.out
 have hV2:Ext V w2:=HXW.out.trans hx2
 have hl0:=aA e0
 have hl1:=aA e1
 have hl2:=aA e2
 have hl6:=aA hbg6
 have hl7:=aA hbg7
 have hv6:=HX6.out
 have hv7:=HX7.out
 have hnl:∀b,¬Led w2 X6 b:=fun b ⟨n,c,h⟩=>by simp [World.cell?,hbg6]at h
 clear c0 c1 c2 c3 f2 f3
 refine jg (gf:=225) (lb:= #[.pointer (some ⟨w1.heap.size+1,0,none⟩),.pointer (some ⟨w1.heap.size+2,0,none⟩),.pointer (some ⟨w1.heap.size,0,none⟩)]) rfl (enters_of Tryz.func225 kR rfl)
  (jl w2.heap.size (w1.heap.size+1) (w1.heap.size+2) w1.heap.size X6 p l a s top w2 hl1 hl2 hl0 (by simp [World.cell?,e1]) (by simp [World.cell?,e2]) (by simp [World.cell?,e0]) (fun W' hb=>HP.out.ext (hV2.trans hb)) (Nat.le_refl _) m1 t1 oM hl6 hnl)
  (fun k hk=>by rcases hk with rfl | rfl | rfl <;>omega) (Nat.le_refl _) (fun _=>rfl)
  (fun pre W=>Ext w2 W∧Hid (∀x∈pre,x.last=false))
  (fun c pre W=>c= .ret∧Ext V W∧W.heap[X6]?=some (.cells #[.int .i64 (b9 l top a).at_] 3 (0,0))∧W.heap[X7]?=some (.cells #[.int .i64 (b9 l top a).e] 35 (0,0))∧w2.heap.size≤W.heap.size)
  (fun s A B h hab=>⟨Below.trans h.1 hab.below,h.2⟩)
  (fun c s A B h hab=>⟨h.1,Below.trans h.2.1 (Below.mono hab.below (by have:=hV2.size;omega)),(hab.below.block X6 oM).trans h.2.2.1,(hab.below.block X7 oM).trans h.2.2.2.1,Nat.le_trans h.2.2.2.2 hab.below.size⟩)
  ⟨AD _,zH sM⟩
  (fun pre x a' W=>Ext w2 W∧Hid (∀x∈pre,x.last=false)∧∃X,w2.heap.size≤X∧W.heap[X]?=some (.cells #[.int .i64 x.at_,.int .i64 x.h.k,.int .i64 x.h.f,.int .i64 x.h.r,.bool x.h.m,.int .i64 x.h.c,.int .i64 x.e,.bool x.last] 242 (0,0))∧
   a'= {tmps:= #[.pointer p,.agg #[.int .i64 a,.int .i64 s],.int .i64 top,undef,.pointer (some ⟨V.heap.size,0,none⟩),undef,.pointer (some ⟨X6,0,none⟩),.pointer (some ⟨X7,0,none⟩),.pointer (some ⟨X,0,none⟩),.agg #[.int .i64 a,.int .i64 s],.bool true,.bool false,.bool false,.int .i64 top,.pointer (some ⟨V.heap.size,0,none⟩),.int .i64 a,.bool false,.bool false,.bool false,.int .i64 top,.pointer (some ⟨V.heap.size,0,none⟩),.int .i64 a,.pointer (some ⟨V.heap.size,1,none⟩),.int .i64 s,.int .i64 (a+s),.bool false,.bool false,.pointer p,.agg #[.int .i64 a,.int .i64 s],.int .i64 top,.func (.func 225) #[] #[.pointer (some ⟨w1.heap.size+1,0,none⟩),.pointer (some ⟨w1.heap.size+2,0,none⟩),.pointer (some ⟨w1.heap.size,0,none⟩)],.agg #[.int .i64 x.at_,.int .i64 x.h.k,.int .i64 x.h.f,.int .i64 x.h.r,.bool x.h.m,.int .i64 x.h.c,.int .i64 x.e,.bool x.last],undef,undef,undef,undef,undef,undef,undef],defers:= []})
  ?hax ?assign ?body ?done ?stop
 case hax=>
  rintro pre x a' A B ⟨h1,h2,X,hX,hbX,rfl⟩ hb hk
  exact ⟨Below.trans h1 hb,h2,X,hX,hk X _ hbX rfl,rfl⟩
 case assign=>
  rintro lq pre x W K ⟨h1,h2⟩ hK
  have hsz:=h1.size
  have H1:=zH h1
  clear h1
  gi_wp2
  exact hK _ _ ⟨H1.out.alloc _,h2,W.heap.size,hsz,World.alloc_heap_new _ _,rfl⟩ ((KeepsOthers.alloc _ _).from _) (KpX.ext ((AD W).alloc _) hsz oM)
 case body=>
  rintro lq pre x a' W ⟨h1,h2,X,hX,hbX,rfl⟩ hgd
  have HGD:=zH (fun (h:x.last=true)=>uI hgd h)
  have H1:=zH h1
  have hs1:=h1.size
  have HB6W:=zH ((h1.block hl6).trans hbg6)
  have HB7W:=zH ((h1.block hl7).trans hbg7)
  have HBXW:=zH hbX
  obtain ⟨xat,xh,xe,xl⟩:=x
  simp only at HGD
  have g3:W.cell? ⟨X,7,none⟩=some (.bool xl):=by simp [World.cell?,hbX]
  clear h1 hgd hbX
  cases xl
  ·gi_wp2
   refine ⟨dK (AD _),KpX.ext (AD _) hs1 oM,H1.out,zH fun y hy=> ?_⟩
   rcases List.mem_append.1 hy with hy | hy
   ·exact h2.out y hy
   ·rcases List.mem_singleton.1 hy with rfl
    rfl
  ·gi_wp2
   obtain ⟨hxl,hxe⟩:=HGD.out trivial
   have q0:W.cell? ⟨X,0,none⟩=some (.int .i64 xat):=by simp [World.cell?,HBXW.out]
   have q2:W.cell? ⟨X,6,none⟩=some (.int .i64 xe):=by simp [World.cell?,HBXW.out]
   have c6:W.cell? ⟨X6,0,none⟩=some (.int .i64 0):=by simp [World.cell?,HB6W.out]
   have c7:W.cell? ⟨X7,0,none⟩=some (.int .i64 0):=by simp [World.cell?,HB7W.out]
   have f6:W.frozen? ⟨X6,0,none⟩=false:=by simp [World.frozen?,HB6W.out]
   have f7:W.frozen? ⟨X7,0,none⟩=false:=by simp [World.frozen?,HB7W.out]
   have nx6:X≠X6:=by omega
   have nx7:X≠X7:=by omega
   have HXL:=zH hxl
   clear g3 hxl hxe
   have HK2:=zH (((KeepsOthers.setCell W ⟨X6,0,none⟩ (.int .i64 xat)).from w2.heap.size).trans ((KeepsOthers.setCell (W.setCell ⟨X6,0,none⟩ (.int .i64 xat)) ⟨X7,0,none⟩ (.int .i64 xe)).from w2.heap.size))
   have HXV:=zH (((hV2.trans H1.out).setCell (p:=⟨X6,0,none⟩) (by show V.heap.size≤X6;omega) (.int .i64 xat)).setCell (p:=⟨X7,0,none⟩) (by show V.heap.size≤X7;omega) (.int .i64 xe))
   have HR6:Hid (((W.setCell ⟨X6,0,none⟩ (.int .i64 xat)).setCell ⟨X7,0,none⟩ (.int .i64 xe)).heap[X6]?=some (.cells #[.int .i64 xat] 3 (0,0))):=zH ((Below.heap_setCell _ ⟨X7,0,none⟩ _ X6 n67).trans (by rw [heap_setCell_same W X6 0 _ _ _ HB6W.out];rfl))
   have HR7:Hid (((W.setCell ⟨X6,0,none⟩ (.int .i64 xat)).setCell ⟨X7,0,none⟩ (.int .i64 xe)).heap[X7]?=some (.cells #[.int .i64 xe] 35 (0,0))):=zH (by
    have h5:=(Below.heap_setCell W ⟨X6,0,none⟩ (.int .i64 xat) X7 n76).trans HB7W.out
    rw [heap_setCell_same _ X7 0 _ _ _ h5];rfl)
   have hsz:w2.heap.size≤((W.setCell ⟨X6,0,none⟩ (.int .i64 xat)).setCell ⟨X7,0,none⟩ (.int .i64 xe)).heap.size:=by simpa using hs1
   gi_region
   all_goals gi_wp2
   all_goals (refine ⟨⟨HK2.out.size,HK2.out.same⟩,rfl,HXV.out.drew,?_,?_,hsz⟩)
   all_goals rw [←HXL.out]
   all_goals first | exact HR6.out | exact HR7.out
 case done=>
  rintro D ys W hD rfl ⟨h1,h2⟩ hK
  exact (uJ h2.out).elim
 case stop=>
  rintro D c pre W hD hpre ⟨rfl,h1,h6,h7,h8⟩ hK
  gi_wp2
  refine ⟨by simp,.inl ⟨_,_,rfl,run_takeDeferred hK,?_⟩⟩
  have hab:AbI w2.heap.size X6 W (W.putObj D (.deferred none)):=AP hD hK rfl
  have g6:(W.putObj D (.deferred none)).cell? ⟨X6,0,none⟩=some (.int .i64 (b9 l top a).at_):=by
   have:=(hab.below.block X6 oM).trans h6
   simp [World.cell?,this]
  have g7:(W.putObj D (.deferred none)).cell? ⟨X7,0,none⟩=some (.int .i64 (b9 l top a).e):=by
   have:=(hab.below.block X7 oM).trans h7
   simp [World.cell?,this]
  have hxx:=Below.trans h1 (Below.mono hab.below (by have:=hV2.size;omega))
  generalize W.putObj D (.deferred none)=W4 at*
  exact ⟨.tuple #[.int .i64 (b9 l top a).at_,.int .i64 (b9 l top a).e],(by simp only [results,Tryz.results201];go_simp),(by rw [HA.out.1,HA.out.2]),hxx⟩
attribute [local go_sem] Oper.semAt_some
def bT (pre:List Stp):List Int:=(pre.filter fun x=> !x.last).map (·.at_)
theorem uK (pre:List Stp) (x:Stp) (h:x.last=false):bT (pre++ [x])=bT pre++ [x.at_]:=by simp [bT,h]
theorem qK (pre:List Stp) (x:Stp) (h:x.last=true):bT (pre++ [x])=bT pre:=by simp [bT,h]
theorem lN (pre:List Stp):(bT pre).length≤pre.length:=by simp only [bT,List.length_map];exact List.length_filter_le _ _
theorem mu (l:Option (List Int)) (top:Int):∀(n:Nat) (i:Int),(cq l top n i).length≤n+1:=by
 intro n
 induction n with
 | zero=>intro i;simp [cq]
 | succ n ih=>
  intro i
  rw [cq]
  split
  ·split
   ·have:=ih (i+av (aK l i));simp;omega
   ·simp
  ·simp
def bn (l:Option (List Int)) (a s top:Int):List Int:=if bN l a s top=0 then bT (ax l top a)else []
theorem yM (p:Option Addr) (l:Option (List Int)) (a s top x er:Int) (h1:cj l a s top=x) (h2:bN l a s top=er) (V:World) (hp:ArP V p l):
  Calls Tryz.prog 201 #[.pointer p,.agg #[.int .i64 (a),.int .i64 (s)],.int .i64 top] V fun e w'=>e= .returned (.tuple #[.int .i64 x,.int .i64 er])∧Ext V w':=by
 rw [←h1,←h2];exact wL p l a s top V hp
def yt (V:World) (zs:List Int) (er:Int) (e:Ending) (w':World):Prop:=∃A1 cap1,e= .returned (.tuple #[.slice A1 zs.length cap1,.int .i64 er])∧Own 3 1 intC w' V.heap.size (.slice A1 zs.length cap1) zs∧Ext V w'
theorem wO (p:Option Addr) (l:Option (List Int)) (a s top:Int) (V:World) (hp:ArP V p l):
  Calls Tryz.prog 171 #[.pointer p,.agg #[.int .i64 (a),.int .i64 (s)],.int .i64 top] V (yt V (bn l a s top) (bN l a s top)):=by
 have HP:=zH hp
 have hb4:=aR V #[.int .i64 a,.int .i64 s] 63 _ rfl
 have hW:Ext V (V.alloc (.cells #[.int .i64 a,.int .i64 s] 63)):=(AD V).alloc _
 obtain ⟨x0,hx0⟩:∃x,cj l a s top=x:=⟨_,rfl⟩
 obtain ⟨er,her⟩:∃x,bN l a s top=x:=⟨_,rfl⟩
 have HSA:=zH hx0
 have HSE:=zH her
 have HLA:=zH (show bn l a s top=if er=0 then bT (ax l top a)else []by rw [bn,her])
 clear hx0 her hp
 refine (callsIn_wide (n:=5)).1 ?_
 have hro:Fence.wide.round=none:=rfl
 refine callsIn_of_wp_marks Tryz.func171 rfl trivial ?_ hro
 simp only [Tryz.ntmps171,List.size_toArray,List.length_cons,List.length_nil,Nat.reduceAdd,Nat.reduceSub,Array.replicate_succ,Array.replicate_zero,List.push_toArray,List.append_toArray,List.nil_append,List.cons_append]
 gi_wp2
 generalize V.alloc (.cells #[.int .i64 a,.int .i64 s] 63)=W at*
 refine ⟨trivial,?_⟩
 refine (callsIn_wide.2 (yM p l a s top x0 er HSA.out HSE.out _ (HP.out.ext hW))).mono ?_
 rintro e w1 ⟨rfl,hx⟩
 have b4:=(hx.block (aA hb4)).trans hb4
 have c0:w1.cell? ⟨V.heap.size,0,none⟩=some (.int .i64 a):=by simp [World.cell?,b4]
 have c1:w1.cell? ⟨V.heap.size,1,none⟩=some (.int .i64 s):=by simp [World.cell?,b4]
 have hlt4:=aA b4
 have HXV:=zH (hW.trans hx)
 clear hx hb4 hW b4
 by_cases h0:er=0
 rotate_left
 ·have hne:(er !=0)=true:=by simpa using h0
  have HL0:=zH (HLA.out.trans (if_neg h0))
  clear h0 HLA
  gi_wp2
  exact ⟨.tuple #[.slice none 0 0,.int .i64 er],(by simp only [results,Tryz.results171];go_simp),by rw [HSE.out,HL0.out];exact ⟨none,0,rfl,AM _ _ _ _ _,HXV.out⟩⟩
 subst h0
 have HL0:=zH (HLA.out.trans (if_pos rfl))
 clear HLA
 have hk:wkB a s top=true:=by
  have:=HSE.out
  cases h:wkB a s top
  ·rw [bN,h]at this;simp at this
  ·rfl
 obtain ⟨hm,ht⟩:mayB a s=true∧(a≤top∧top≤a+s):=by simpa [wkB]using hk
 obtain ⟨m1,m2,m3,m4⟩:=au hm
 obtain ⟨t1,t2⟩:=ht
 clear hk hm
 gi_wp2_with (refine ⟨trivial,?_⟩;gi_at_call 202;refine (callsIn_wide.2 (qJ _ _ _ _ _)).mono ?_;rintro e w' ⟨rfl,rfl⟩)
 have eC:=b8 (o2:= .cells #[.int .i64 top] 3) (b8 (o2:= .cells #[.int .i64 a,.int .i64 s] 63) (b8 (o2:= .cells #[.pointer p] 121) (aR w1 #[.slice none 0 0] 38 _ rfl)))
 have e0:=b8 (o2:= .cells #[.int .i64 top] 3) (b8 (o2:= .cells #[.int .i64 a,.int .i64 s] 63) (aR (w1.alloc (.cells #[.slice none 0 0] 38)) #[.pointer p] 121 (w1.heap.size+1) sM))
 have e1:=b8 (o2:= .cells #[.int .i64 top] 3) (aR ((w1.alloc (.cells #[.slice none 0 0] 38)).alloc (.cells #[.pointer p] 121)) #[.int .i64 a,.int .i64 s] 63 (w1.heap.size+1+1) sM)
 have e2:=aR (((w1.alloc (.cells #[.slice none 0 0] 38)).alloc (.cells #[.pointer p] 121)).alloc (.cells #[.int .i64 a,.int .i64 s] 63)) #[.int .i64 top] 3 (w1.heap.size+1+2) sM
 have hx2:Ext w1 ((((w1.alloc (.cells #[.slice none 0 0] 38)).alloc (.cells #[.pointer p] 121)).alloc (.cells #[.int .i64 a,.int .i64 s] 63)).alloc (.cells #[.int .i64 top] 3)):=((((AD w1).alloc _).alloc _).alloc _).alloc _
 generalize (((w1.alloc (.cells #[.slice none 0 0] 38)).alloc (.cells #[.pointer p] 121)).alloc (.cells #[.int .i64 a,.int .i64 s] 63)).alloc (.cells #[.int .i64 top] 3)=w2 at*
 have hV2:Ext V w2:=HXV.out.trans hx2
 have hvc:V.heap.size < w1.heap.size:=hlt4
 have hlC:=aA eC
 have hl0:=aA e0
 have hl1:=aA e1
 have hl2:=aA e2
 generalize w1.heap.size=C at*
 have hnl:∀b,¬Led w2 C b:=fun b ⟨n,c,h⟩=>by simp [World.cell?,eC]at h
 have HLN:Hid ((ax l top a).length≤1099511627777):=zH (by have:=mu l top (top - a).toNat a;unfold ax;omega)
 clear c0 c1
 refine jg (gf:=225) (lb:= #[.pointer (some ⟨C+1+1,0,none⟩),.pointer (some ⟨C+1+2,0,none⟩),.pointer (some ⟨C+1,0,none⟩)]) rfl (enters_of Tryz.func225 kR rfl)
  (jl V.heap.size (C+1+1) (C+1+2) (C+1) C p l a s top w2 hl1 hl2 hl0 (by simp [World.cell?,e1]) (by simp [World.cell?,e2]) (by simp [World.cell?,e0]) (fun W' hb=>HP.out.ext (Below.trans hV2 hb)) oM m1 t1 oM hlC hnl)
  (fun k hk=>by rcases hk with rfl | rfl | rfl <;>omega) oM (fun _=>rfl)
  (fun pre W=>(∃v,CollG 3 1 intC w2.heap.size C 38 (bT pre) W v)∧Ext V W∧w2.heap.size≤W.heap.size) (fun _ _ _=>False)
  (fun s A B h hab=>⟨h.1.imp fun v hv=>hv.abI oM hab,Below.trans h.2.1 (Below.mono hab.below oM),Nat.le_trans h.2.2 hab.below.size⟩)
  (fun _ _ _ _ h _=>h)
  ⟨⟨_,eC,AM _ _ _ _ _⟩,hV2,Nat.le_refl _⟩
  (fun pre x a' W=>(∃v,CollG 3 1 intC w2.heap.size C 38 (bT pre) W v)∧Ext V W∧∃X,w2.heap.size≤X∧W.heap[X]?=some (.cells #[.int .i64 x.at_,.int .i64 x.h.k,.int .i64 x.h.f,.int .i64 x.h.r,.bool x.h.m,.int .i64 x.h.c,.int .i64 x.e,.bool x.last] 242 (0,0))∧
   a'= {tmps:= #[.pointer p,.agg #[.int .i64 a,.int .i64 s],.int .i64 top,undef,.pointer (some ⟨V.heap.size,0,none⟩),undef,.slice none 0 0,.int .i64 0,.int .i64 x0,.int .i64 0,.pointer (some ⟨C,0,none⟩),.pointer (some ⟨X,0,none⟩),.tuple #[.int .i64 x0,.int .i64 0],.pointer p,.agg #[.int .i64 a,.int .i64 s],.int .i64 top,.tuple #[.int .i64 x0,.int .i64 0],.int .i64 x0,.int .i64 0,.int .i64 0,.bool false,undef,.pointer p,.agg #[.int .i64 a,.int .i64 s],.int .i64 top,.func (.func 225) #[] #[.pointer (some ⟨C+1+1,0,none⟩),.pointer (some ⟨C+1+2,0,none⟩),.pointer (some ⟨C+1,0,none⟩)],.agg #[.int .i64 x.at_,.int .i64 x.h.k,.int .i64 x.h.f,.int .i64 x.h.r,.bool x.h.m,.int .i64 x.h.c,.int .i64 x.e,.bool x.last],undef,undef,undef,undef,undef,undef,undef,undef,undef],defers:= []})
  ?hax ?assign ?body ?done ?stop
 case hax=>
  rintro pre x a' A B ⟨⟨v,hv⟩,hE,X,hX,hbX,rfl⟩ hb hk
  exact ⟨⟨v,hv.keep oM hk⟩,Below.trans hE (Below.mono hb oM),X,hX,hk X _ hbX rfl,rfl⟩
 case assign=>
  rintro lq pre x W K ⟨⟨v,hv⟩,hE,hS⟩ hK
  have hsz:=AG hE
  have HV:=zH hv
  have HE:=zH hE
  clear hv hE
  gi_wp2
  exact hK _ _ ⟨⟨v,HV.out.ext ((AD W).alloc _)⟩,HE.out.alloc _,W.heap.size,hS,World.alloc_heap_new _ _,rfl⟩ ((KeepsOthers.alloc _ _).from _) (KpX.ext ((AD W).alloc _) oM oM)
 case body=>
  rintro lq pre x a' W ⟨⟨v,hv⟩,hE,X,hX,hbX,rfl⟩ hgd
  have hlen:(bT pre).length≤1099511627777:=by
   have h1:=hgd.length_le
   have h2:=lN pre
   have h3:=HLN.out
   simp only [List.length_append]at h1
   omega
  have hltX:=aA hbX
  have hsz:=AG hE
  have HV:=zH hv
  have HE:=zH hE
  obtain ⟨xat,xh,xe,xl⟩:=x
  have g3:W.cell? ⟨X,7,none⟩=some (.bool xl):=by simp [World.cell?,hbX]
  have g0:W.cell? ⟨X,0,none⟩=some (.int .i64 xat):=by simp [World.cell?,hbX]
  obtain ⟨c1,c2⟩:=hv.cell
  clear hv hE hbX hgd
  cases xl
  ·have HPG:=zH (uK pre ⟨xat,xh,xe,false⟩ rfl)
   gi_wp2_with (gi_at_builtin;refine fg rfl (.tmp 30) (.tmp 33) 38 rfl bj aO rfl (by exact HV.out.own) [xat] 1 _ rfl ((bT pre).length+1) 1 sM rfl W.heap.size rfl rfl oM (by simp [maxLen];omega) oM ?_;intro A1 cap1 w3 hown1 hgr1 hat1;obtain ⟨⟨d1,d2⟩,hc2,hk2,hf2,hot⟩:=CollG.app (HV.out.ext ((AD W).alloc _)) oM (nV:=V.heap.size) oM (by simp;omega) (H:=W.heap.size+1) sM hown1 hgr1 hat1;have HC2:=zH hc2;have HK2:=zH hk2;have HF2:=zH hf2;have HOT:=zH hot;clear hown1 hgr1 hat1 hc2 hk2 hf2 hot)
   have hk0:Kp V.heap.size w2.heap.size C W (W.alloc (.cells #[.int .i64 xat] 3)):=Ac ((Below.refl _ W).alloc (Nat.le_refl _) _) oM oM
   refine ⟨KeepsFrom.trans ((KeepsOthers.alloc _ _).from _) HF2.out,⟨hk0.trans HK2.out,fun k o hk ho=> ?_⟩,⟨_,by rw [HPG.out];exact HC2.out⟩,Below.trans HE.out (hk0.trans HK2.out).below,by have:=(hk0.trans HK2.out).below.size;omega⟩
   have hkl:k < w2.heap.size∧k≠C:=by rcases hk with rfl | rfl | rfl <;>omega
   have h1:(W.alloc (.cells #[.int .i64 xat] 3)).heap[k]?=some o:=b8 ho
   exact (HOT.out k (aA h1) hkl.2 (fun e=>by have:=(World.ownsRow.lt HV.out.own k e).1;omega)).trans h1
  ·have HPG:=zH (qK pre ⟨xat,xh,xe,true⟩ rfl)
   gi_wp2
   exact ⟨dK (AD _),KpX.ext (AD _) oM oM,⟨v,by rw [HPG.out];exact HV.out⟩,HE.out,by omega⟩
 case done=>
  rintro D ys W hD rfl ⟨⟨v,hv⟩,hE,hS⟩ hK
  obtain ⟨c1,c2⟩:=hv.cell
  have HV:=zH hv
  have HE:=zH hE
  clear hv hE
  gi_wp2
  refine ⟨by simp,.inl ⟨_,_,rfl,run_takeDeferred hK,?_⟩⟩
  have hab:AbI w2.heap.size C W (W.putObj D (.deferred none)):=AP hD hK rfl
  have hcf:=HV.out.abI oM hab
  have hEE:=Below.trans HE.out (Below.mono hab.below oM)
  obtain ⟨A1,cap1,rfl, -⟩:=hcf.own.form aO dM
  have hrow:=hcf.own.mono (B':=V.heap.size) oM
  exact ⟨.tuple #[.slice A1 (bT (ax l top a)).length cap1,.int .i64 0],(by simp only [results,Tryz.results171];go_simp),by rw [HL0.out,HSE.out];exact ⟨A1,cap1,rfl,hrow,hEE⟩⟩
 case stop=>
  rintro D c pre W _ _ h _
  exact h.elim
theorem wP (p:Option Addr) (l:Option (List Int)) (a s top er:Int) (zs:List Int) (h1:bn l a s top=zs) (h2:bN l a s top=er) (V:World) (hp:ArP V p l):
  Calls Tryz.prog 171 #[.pointer p,.agg #[.int .i64 (a),.int .i64 (s)],.int .i64 top] V (yt V zs er):=by
 have:=wO p l a s top V hp
 rwa [h1,h2]at this
theorem lO (a s:Int) (b:Bool) (h:mayB a s=b) (w:World):Calls Tryz.prog 100 #[.agg #[.int .i64 (a),.int .i64 (s)]] w fun e w'=>e= .returned (.bool b)∧Ext w w':=by
 rw [←h];exact cY a s w
theorem dH (A:Option Addr) (cap:Nat) (ws:List Int) (i er:Int) (h:Hd) (h1:aU (some ws) i=er) (h2:aK (some ws) i=h) (V:World) (hl:WordsAt V A ws) (hlen:ws.length≤98304) (hbd:∀z∈ws,0≤z∧z < 18446744073709551616) (hi: -9223372036854775808≤i∧i≤9223372036854775807):
  Calls Tryz.prog 68 #[.slice A ws.length cap,.int .i64 i] V fun e w'=>e= .returned (.tuple #[.agg #[.int .i64 h.k,.int .i64 h.f,.int .i64 h.r,.bool h.m,.int .i64 h.c],.int .i64 er])∧Ext V w':=by
 rw [←h1,←h2];exact jk A cap ws i V hl hlen hbd hi
def MetW (l:Option (List Int)) (a top:Int) (out:List Int) (i:Int):Prop:=bT (ax l top a)=out++bT (ax l top i)∧b9 l top a=b9 l top i∧a≤i∧i≤top∧(out.length:Int)≤i - a
theorem MetW.start {l:Option (List Int)} {a top:Int} (h:a≤top):MetW l a top [] a:=⟨rfl,rfl,Int.le_refl _,h,by simp⟩
theorem MetW.go {l:Option (List Int)} {a top i:Int} {out:List Int} (h:MetW l a top out i) (hi:i < top) (h2:wkE l top i=0) (hle:i+av (aK l i)≤top):MetW l a top (out++ [i]) (i+av (aK l i)):=by
 obtain ⟨h3,h4,h5,h6,h7⟩:=h
 have hg:=gz hi h2
 have:=cX (fp h2).1
 obtain ⟨pre,x,e1, -, -, -⟩:=ga l top _ (i+av (aK l i)) (Nat.le_refl _)
 refine ⟨?_,?_,by omega,hle,by simp;omega⟩
 ·rw [h3,hg];simp [bT]
 ·rw [h4,b9,b9,hg,e1,←List.cons_append]
  simp only [List.getLastD_eq_getLast?,List.getLast?_append,List.getLast?_singleton,Option.some_or,Option.getD_some]
theorem MetW.stop {l:Option (List Int)} {a top i:Int} {out:List Int} (h:MetW l a top out i) (hi:¬i < top):bT (ax l top a)=out∧b9 l top a=⟨i,hd0,0,true⟩∧i=top:=by
 obtain ⟨h3,h4,h5,h6,h7⟩:=h
 have he:=eo (l:=l) hi
 exact ⟨by rw [h3,he];simp [bT],by rw [h4,b9,he];rfl,by omega⟩
theorem MetW.err {l:Option (List Int)} {a top i:Int} {out:List Int} (h:MetW l a top out i) (hi:i < top) (h2:wkE l top i≠0):b9 l top a=⟨i,hd0,wkE l top i,true⟩:=by
 rw [h.2.1,b9,fq hi h2];rfl
def tE (V:World) (zs:List Int) (x er:Int) (e:Ending) (w':World):Prop:=∃A1 cap1,e= .returned (.tuple #[.slice A1 zs.length cap1,.int .i64 x,.int .i64 er])∧IntsAt w' A1 zs∧Ext V w'
theorem qL (A:Option Addr) (cap:Nat) (ws:List Int) (a s top:Int) (V:World) (hl:WordsAt V A ws) (hlen:ws.length≤98304) (hbd:∀z∈ws,0≤z∧z < 18446744073709551616):
  Calls Tryz.prog 116 #[.slice A ws.length cap,.agg #[.int .i64 (a),.int .i64 (s)],.int .i64 top] V (tE V (bn (some ws) a s top) (cj (some ws) a s top) (bN (some ws) a s top)):=by
 have HL:=zH hl
 have HLN:=zH hlen
 have HBD:=zH hbd
 have hb5:=aR V #[.int .i64 a,.int .i64 s] 63 _ rfl
 have HX:=zH ((AD V).alloc (.cells #[.int .i64 a,.int .i64 s] 63))
 have HB5:=zH hb5
 obtain ⟨b,hb⟩:∃b,mayB a s=b:=⟨_,rfl⟩
 have HB:=zH hb
 clear hl hlen hbd hb5 hb
 go_enter Tryz.func116,Tryz.ntmps116
 go_wp2_with fail
 generalize V.alloc (.cells #[.int .i64 a,.int .i64 s] 63)=w4 at*
 refine (lO a s b HB.out w4).mono ?_
 rintro e w1 ⟨rfl,hx⟩
 have HX1:=zH (HX.out.trans hx)
 have HB6:=zH ((hx.block (aA HB5.out)).trans HB5.out)
 clear hx HX HB5
 have g0:w1.cell? ⟨V.heap.size,0,none⟩=some (.int .i64 a):=by simp [World.cell?,HB6.out]
 have g1:w1.cell? ⟨V.heap.size,1,none⟩=some (.int .i64 s):=by simp [World.cell?,HB6.out]
 by_cases hk:wkB a s top=true
 rotate_left
 ·have hk':wkB a s top=false:=by simpa using hk
  have h1:bN (some ws) a s top=1:=by rw [bN,hk'];rfl
  have HR:Hid (bn (some ws) a s top= []∧bN (some ws) a s top=1∧cj (some ws) a s top=0):=zH ⟨by rw [bn,h1];rfl,h1,by rw [cj,hk'];rfl⟩
  have HRET:Hid (∀w',Ext V w'→tE V (bn (some ws) a s top) (cj (some ws) a s top) (bN (some ws) a s top) (.returned (.tuple #[.slice none 0 0,.int .i64 0,.int .i64 1])) w'):=zH (fun w' hw=>by
   rw [HR.out.1,HR.out.2.1,HR.out.2.2]
   exact ⟨none,0,rfl,AU _ _ _,hw⟩)
  cases b
  ·clear hk hk' h1
   go_wp2_with fail
   ((try simp only [Exit.inBlock,Exit.then]);refine bodyPost_ret (v:= .tuple #[.slice none 0 0,.int .i64 0,.int .i64 1]) (by simp only [results,Tryz.results116];go_simp) rfl ?_)
   exact HRET.out _ HX1.out
  ·obtain ⟨m1,m2,m3,m4⟩:=au HB.out
   have hw:wrap64 (a+s)=a+s:=IntWalk.wrap64_in _ ⟨by omega,by omega⟩
   by_cases h2:top < a
   ·have d1:decide (top < a)=true:=by simpa using h2
    clear hk hk' h1
    go_wp2_with fail
    ((try simp only [Exit.inBlock,Exit.then]);refine bodyPost_ret (v:= .tuple #[.slice none 0 0,.int .i64 0,.int .i64 1]) (by simp only [results,Tryz.results116];go_simp) rfl ?_)
    exact HRET.out _ HX1.out
   ·have d1:decide (top < a)=false:=by simpa using h2
    have d2:decide (a+s < top)=true:=by
     have:=HB.out
     simp only [wkB,this,Bool.true_and,decide_eq_false_iff_not]at hk'
     simp only [decide_eq_true_eq]
     omega
    clear hk hk' h1
    go_wp2_with fail
    ((try simp only [Exit.inBlock,Exit.then]);refine bodyPost_ret (v:= .tuple #[.slice none 0 0,.int .i64 0,.int .i64 1]) (by simp only [results,Tryz.results116];go_simp) rfl ?_)
    exact HRET.out _ HX1.out
 obtain rfl:b=true:=by
  have:=HB.out
  unfold wkB at hk
  rw [this]at hk
  cases b
  ·simp at hk
  ·rfl
 obtain ⟨m1,m2,m3,m4⟩:=au HB.out
 have hw:wrap64 (a+s)=a+s:=IntWalk.wrap64_in _ ⟨by omega,by omega⟩
 obtain ⟨t1,t2⟩:a≤top∧top≤a+s:=by simpa [wkB,HB.out]using hk
 have d1:decide (top < a)=false:=by simp;omega
 have d2:decide (a+s < top)=false:=by simp;omega
 have HK:=zH hk
 clear hk
 have HSA:Hid (cj (some ws) a s top=(b9 (some ws) top a).at_∧bN (some ws) a s top=(b9 (some ws) top a).e):=zH (by rw [cj,bN,HK.out];exact ⟨rfl,rfl⟩)
 have HLS:Hid (bn (some ws) a s top=if (b9 (some ws) top a).e=0 then bT (ax (some ws) top a)else []):=zH (by rw [bn,HSA.out.2])
 go_wp2_with fail
 go_loopw [9,10,11,12,13] (fun v j _ _ _ wr=>∃(A1:Option Addr) (cap1 m:Nat) (out:List Int) (i:Int),v= .slice A1 m cap1∧j= .int .i64 i∧Hid (out.length=m)∧Hid (Own 3 1 intC wr V.heap.size (.slice A1 m cap1) out)∧Hid (MetW (some ws) a top out i)∧Hid (Ext V wr)) (fun _ j _ _ _ _=>(top - intOf j).toNat)
 case atStart=>exact ⟨none,0,0,[],a,rfl,rfl,zH rfl,zH (AM _ _ _ _ _),zH (MetW.start t1),HX1⟩
 case round=>
  obtain ⟨A1,cap1,m,out,i,rfl,rfl,HM,HO,HMW,HXR⟩:=hrel
  have hib:a≤i∧i≤top∧(m:Int)≤i - a:=by
   have h:=HMW.out
   have h2:=HM.out
   exact ⟨h.2.2.1,h.2.2.2.1,by rw [←h2];exact h.2.2.2.2⟩
  obtain ⟨hi1,hi2,hi3⟩:=hib
  clear g0 g1 hw d1 d2 HX1 HB6
  by_cases hlt:i < top
  rotate_left
  ·have d3:decide (i < top)=false:=by simpa using hlt
   obtain ⟨e1,e2,rfl⟩:=HMW.out.stop hlt
   have HRET:Hid (tE V (bn (some ws) a s i) (cj (some ws) a s i) (bN (some ws) a s i) (.returned (.tuple #[.slice A1 m cap1,.int .i64 i,.int .i64 0])) wr):=zH (by
    rw [HLS.out,HSA.out.1,HSA.out.2,e2,e1]
    obtain ⟨A2,cap2,hv,hrow, -⟩:=HO.out.form aO dM
    injection hv with h1 h2 h3
    subst h1 h3
    exact ⟨A1,cap1,by rw [if_pos rfl,HM.out],hrow,HXR.out⟩)
   clear e1 e2 hlt
   go_wp2_with fail
   ((try simp only [Exit.inBlock,Exit.then]);refine bodyPost_ret (v:= .tuple #[.slice A1 m cap1,.int .i64 i,.int .i64 0]) (by simp only [results,Tryz.results116];go_simp) rfl ?_)
   exact HRET.out
  have d3:decide (i < top)=true:=by simpa using hlt
  obtain ⟨er,her⟩:∃e,aU (some ws) i=e:=⟨_,rfl⟩
  obtain ⟨h,hh⟩:∃h,aK (some ws) i=h:=⟨_,rfl⟩
  obtain ⟨n,hn⟩:∃n,av h=n:=⟨_,rfl⟩
  have HER:=zH her
  have HH:=zH hh
  have HN:=zH hn
  have hnb:=lM h
  rw [hn]at hnb
  have HWK:Hid (wkE (some ws) top i=if er=0 then (if top - i < n then 2 else 0)else er):=zH (by rw [wkE,her,hh,hn])
  have HLT:=zH hlt
  have HEE:Hid (∀x,wkE (some ws) top i=x→x≠0→∀w',Ext V w'→tE V (bn (some ws) a s top) (cj (some ws) a s top) (bN (some ws) a s top) (.returned (.tuple #[.slice none 0 0,.int .i64 i,.int .i64 x])) w'):=zH (fun x hx h0 w' hw'=>by
   have e:=HMW.out.err HLT.out (by rw [hx];exact h0)
   rw [HLS.out,HSA.out.1,HSA.out.2,e,hx,if_neg h0]
   exact ⟨none,0,rfl,AU _ _ _,hw'⟩)
  clear her hh hn hlt
  go_wp2_with fail
  have Z:=dH A cap ws i er h HER.out HH.out wr (HL.out.ext HXR.out) HLN.out HBD.out ⟨by omega,by omega⟩
  refine Z.mono ?_
  clear Z
  rintro e w2 ⟨rfl,hx⟩
  have HX2:=zH (HXR.out.trans hx)
  have HO2:=zH (HO.out.ext hx)
  clear hx HXR HO
  by_cases h0:er=0
  rotate_left
  ·have hne:(er !=0)=true:=by simpa using h0
   have HR:=zH (HEE.out er (HWK.out.trans (if_neg h0)) h0)
   clear h0
   go_wp2_with fail
   ((try simp only [Exit.inBlock,Exit.then]);refine bodyPost_ret (v:= .tuple #[.slice none 0 0,.int .i64 i,.int .i64 er]) (by simp only [results,Tryz.results116];go_simp) rfl ?_)
   exact HR.out _ (HX2.out.alloc _)
  subst h0
  have HW2:Hid (wkE (some ws) top i=if top - i < n then 2 else 0):=zH (HWK.out.trans (if_pos rfl))
  have HBH:=zH (aR w2 #[.int .i64 h.k,.int .i64 h.f,.int .i64 h.r,.bool h.m,.int .i64 h.c] 85 _ rfl)
  have HX3:=zH (HX2.out.alloc (.cells #[.int .i64 h.k,.int .i64 h.f,.int .i64 h.r,.bool h.m,.int .i64 h.c] 85))
  have HO3:=zH (HO2.out.ext ((AD w2).alloc (.cells #[.int .i64 h.k,.int .i64 h.f,.int .i64 h.r,.bool h.m,.int .i64 h.c] 85)))
  clear HWK HX2 HO2
  go_wp2_with fail
  generalize w2.alloc (.cells #[.int .i64 h.k,.int .i64 h.f,.int .i64 h.r,.bool h.m,.int .i64 h.c] 85)=w3 at*
  generalize w2.heap.size=X at*
  have Z:=cQ h n HN.out w3
  refine Z.mono ?_
  clear Z
  rintro e w5 ⟨rfl,hx⟩
  have HX5:=zH (HX3.out.trans hx)
  have HO5:=zH (HO3.out.ext hx)
  clear hx HX3 HO3 HBH
  have hw:wrap64 (i+n)=i+n:=IntWalk.wrap64_in _ ⟨by omega,by omega⟩
  by_cases hs:top - i < n
  ·have d5:decide (top < i+n)=true:=by simp;omega
   have HR:=zH (HEE.out 2 (HW2.out.trans (if_pos hs)) dM)
   clear hs
   go_wp2_with fail
   ((try simp only [Exit.inBlock,Exit.then]);refine bodyPost_ret (v:= .tuple #[.slice none 0 0,.int .i64 i,.int .i64 2]) (by simp only [results,Tryz.results116];go_simp) rfl ?_)
   exact HR.out _ HX5.out
  ·have d5:decide (top < i+n)=false:=by simp;omega
   have hle:i+n≤top:=by omega
   have HMG:Hid (MetW (some ws) a top (out++ [i]) (i+n)):=zH (by
    have h1:=HMW.out.go HLT.out (HW2.out.trans (if_neg hs))
    rw [HH.out,HN.out]at h1
    exact h1 hle)
   have hn1:1≤n:=by
    have h1:=HMG.out.2.2.2.2
    have h2:=cX HER.out
    rw [HH.out,HN.out]at h2
    exact h2.1
   have hsz5:=AG HX5.out
   clear hs HEE HW2
   go_wp2_with (at_builtin;refine aH rfl (.tmp 55) (.tmp 57) 38 rfl bj aO rfl (by exact HO5.out) [i] 1 _ rfl (m+1) 1 (by rw [HM.out];rfl) rfl _ rfl (by first | rfl | simp) oM (by simp [maxLen];try omega) (by exact hsz5) ?_;intro A4 cap4 w6 hown4 hgr4 hat4;have HO6:=zH hown4;have HX6:Hid (Ext V w6):=zH (AI HO5.out (Below.alloc HX5.out (by exact hsz5) _) hgr4 (by simp;omega));clear hown4 hgr4 hat4)
   go_roundw
   case rel=>exact ⟨A4,cap4,m+1,out++ [i],i+n,rfl,rfl,zH (by rw [List.length_append,HM.out];rfl),HO6,HMG,HX6⟩
   case measure=>simp [intOf];omega
attribute [local go_sem] Oper.semAt_some
theorem qM (l:Option (List Int)) (top:Int):∀(n:Nat) (i:Int) (x:Stp),x∈cq l top n i→x.last=false→x.h=aK l x.at_∧i≤x.at_∧x.at_ < top:=by
 intro n
 induction n with
 | zero=>intro i x hx hl;simp only [cq,List.mem_singleton]at hx;subst hx;cases hl
 | succ n ih=>
  intro i x hx hl
  rw [cq]at hx
  split at hx
  ·split at hx
   ·rename_i h1 h2
    rcases List.mem_cons.1 hx with rfl | hx
    ·exact ⟨rfl,Int.le_refl _,h1⟩
    ·obtain ⟨h3,h4,h5⟩:=ih _ _ hx hl
     have:=cX (fp h2).1
     exact ⟨h3,by omega,h5⟩
   ·simp only [List.mem_singleton]at hx;subst hx;cases hl
  ·simp only [List.mem_singleton]at hx;subst hx;cases hl
theorem tF {l:Option (List Int)} {a s top:Int} (h:bN l a s top=0):0≤a∧a≤top∧top≤2199023255552:=by
 have hk:wkB a s top=true:=by
  cases hh:wkB a s top
  ·rw [bN,hh]at h;simp at h
  ·rfl
 obtain ⟨hm,ht⟩:mayB a s=true∧(a≤top∧top≤a+s):=by simpa [wkB]using hk
 have:=au hm
 omega
theorem od {l:Option (List Int)} {a s top x:Int} (h:x∈bn l a s top):a≤x∧x < top∧0≤x∧x < 2199023255552:=by
 rw [bn]at h
 split at h
 ·rename_i h0
  have:=tF h0
  rw [bT]at h
  obtain ⟨y,hy,rfl⟩:=List.mem_map.1 h
  obtain ⟨hy,hl⟩:=List.mem_filter.1 hy
  have:=qM _ _ _ _ _ hy (by simpa using hl)
  omega
 ·simp at h
theorem hP (l:Option (List Int)) (a s top:Int):(bn l a s top).length≤2199023255553:=by
 rw [bn]
 split
 ·rename_i h0
  have:=tF h0
  have h1:=lN (ax l top a)
  have h2:=mu l top (top - a).toNat a
  rw [←ax]at h2
  omega
 ·simp
end Go.Proofs.YtphpppjfogpohaaGreat
namespace Go.Proofs.YtphpppjfogpohaaGreat
open Go.RowKit
inductive Chain (l:Option (List Int)) (top:Int):Int→List Int→Prop
 | nil:Chain l top top []
 | cons {i:Int} {zs:List Int}:i < top→aU l i=0→av (aK l i)≤top - i→Chain l top (i+av (aK l i)) zs→Chain l top i (i::zs)
theorem yN {l:Option (List Int)} {top i:Int} (hi:i < top) (h2:wkE l top i=0):b9 l top i=b9 l top (i+av (aK l i)):=by
 have hg:=gz hi h2
 obtain ⟨pre,x,e1, -, -, -⟩:=ga l top _ (i+av (aK l i)) (Nat.le_refl _)
 rw [b9,b9,hg,e1,←List.cons_append]
 simp only [List.getLastD_eq_getLast?,List.getLast?_append,List.getLast?_singleton,Option.some_or,Option.getD_some]
theorem wQ (l:Option (List Int)) (top:Int):∀(n:Nat) (i:Int),(top - i).toNat≤n→i≤top→(b9 l top i).e=0→Chain l top i (bT (ax l top i)):=by
 intro n
 induction n with
 | zero=>
  intro i hn hi _
  obtain rfl:i=top:=by omega
  rw [eo oM]
  exact Chain.nil
 | succ n ih=>
  intro i hn hi he
  by_cases h:i < top
  ·by_cases h2:wkE l top i=0
   ·have hh:=fp h2
    have hs:=cX hh.1
    rw [yN h h2]at he
    have:=ih (i+av (aK l i)) oM oM he
    rw [gz h h2]
    exact Chain.cons h hh.1 hh.2 this
   ·rw [b9,fq h h2]at he
    exact absurd he h2
  ·obtain rfl:i=top:=by omega
   rw [eo oM]
   exact Chain.nil
theorem Chain.head {l:Option (List Int)} {top i:Int} {zs:List Int} (h:Chain l top i zs):zs.headD top=i:=by cases h <;>rfl
theorem io {l:Option (List Int)} {a s top:Int} (h:bN l a s top=0):Chain l top a (bn l a s top)∧wkB a s top=true∧0≤a∧top≤1099511627776:=by
 have hk:wkB a s top=true:=by
  cases hh:wkB a s top
  ·rw [bN,hh]at h;simp at h
  ·rfl
 obtain ⟨hm,ht⟩:mayB a s=true∧(a≤top∧top≤a+s):=by simpa [wkB]using hk
 have hm':=hm
 simp only [mayB,decide_eq_true_eq]at hm'
 rw [bn,if_pos h]
 refine ⟨wQ l top _ a (Nat.le_refl _) ht.1 ?_,hk,by omega,by omega⟩
 rwa [bN,hk]at h
theorem ft {l:Option (List Int)} {i:Int} (h:aU l i=0):av (aK l i)=1+(aK l i).f+(aK l i).r∧0≤(aK l i).f∧(aK l i).f≤4096∧0≤(aK l i).r∧(aK l i).r≤4096:=by
 rw [aK,if_pos h]
 unfold aU at h
 split at h
 ·split at h
  ·rename_i hb
   simp only [dP,Bool.and_eq_true]at hb
   rw [av,hb.2,if_pos rfl]
   have:=hb.2
   simp only [cw,decide_eq_true_eq]at this
   omega
  ·cases h
 ·rename_i h2
  exact absurd h h2
theorem qN {l:Option (List Int)} {top:Int}:∀ {i:Int} {zs:List Int},Chain l top i zs→∀k,k < zs.length→aU l (zs.getD k 0)=0∧zs.getD (k+1) top=zs.getD k 0+av (aK l (zs.getD k 0)):=by
 intro i zs h
 induction h with
 | nil=>intro k hk;simp at hk
 | @cons i zs h1 h2 h3 h4 ih=>
  intro k hk
  cases k with
  | zero=>
   have h5:=h4.head
   refine ⟨h2,?_⟩
   show zs.getD 0 top=_
   cases zs with
   | nil=>exact h5
   | cons y ys=>exact h5
  | succ k=>exact ih k (by simpa using hk)
end Go.Proofs.YtphpppjfogpohaaGreat
namespace Go.Proofs.YtphpppjfogpohaaGreat
open Go.RowKit Go.Shelf
theorem tG {l:Option (List Int)} {i:Int} (h:aU l i=0):∃ws,l=some ws∧0≤i∧i+av (aK l i)≤ws.length:=by
 have h2:=h
 rw [aU]at h2
 split at h2
 ·rename_i h3
  obtain ⟨ws,rfl,h4,h5⟩:=gy h3
  refine ⟨ws,rfl,h4,?_⟩
  split at h2
  ·split at h2
   ·cases h2
   ·rename_i h6
    rw [aK,if_pos h]
    simp only [lenA,Option.getD_some]at h6
    omega
  ·cases h2
 ·rename_i h3;exact absurd h2 h3
def eS (h:Hd) (raw:Bool):Int:=if raw then h.r else h.f
def iA (h:Hd) (raw:Bool):Int:=if raw then h.f else 0
def placeE (l:Option (List Int)) (i k:Int) (raw:Bool):Int:=if aU l i=0 then (if 0≤k∧k < eS (aK l i) raw then 0 else 1)else aU l i
def oplZ (l:Option (List Int)) (i k:Int) (raw:Bool):Int:=if placeE l i k raw=0 then i+1+iA (aK l i) raw+k else 0
theorem lP {l:Option (List Int)} {i k:Int} {raw:Bool} (h:placeE l i k raw=0):aU l i=0∧0≤k∧k < eS (aK l i) raw∧atA l (oplZ l i k raw)=0∧i < oplZ l i k raw∧oplZ l i k raw < i+av (aK l i):=by
 have hz:oplZ l i k raw=i+1+iA (aK l i) raw+k:=by rw [oplZ,if_pos h]
 have h0:aU l i=0:=by
  by_cases h0:aU l i=0
  ·exact h0
  ·rw [placeE,if_neg h0]at h;exact h
 rw [placeE,if_pos h0]at h
 have hk:0≤k∧k < eS (aK l i) raw:=by
  by_cases hk:0≤k∧k < eS (aK l i) raw
  ·exact hk
  ·rw [if_neg hk]at h;cases h
 obtain ⟨g1,g2,g3,g4,g5⟩:=ft h0
 obtain ⟨ws,rfl,h3,h4⟩:=tG h0
 have h5:i < oplZ (some ws) i k raw∧oplZ (some ws) i k raw < i+av (aK (some ws) i):=by
  rw [hz]
  cases raw <;>simp only [iA,eS,if_true,Bool.false_eq_true,if_false]at hk⊢<;>omega
 refine ⟨h0,hk.1,hk.2,?_,h5.1,h5.2⟩
 simp only [atA]
 rw [if_neg oM]
theorem rp (p:Option Addr) (l:Option (List Int)) (i k:Int) (raw:Bool) (V:World) (hp:ArP V p l) (hi: -9223372036854775808≤i∧i≤9223372036854775807):
  Calls Tryz.prog 229 #[.pointer p,.int .i64 i,.int .i64 k,.bool raw] V fun e w'=>e= .returned (.tuple #[.int .i64 (oplZ l i k raw),.int .i64 (placeE l i k raw)])∧Ext V w':=by
 have HP:=zH hp
 obtain ⟨er,her⟩:∃e,aU l i=e:=⟨_,rfl⟩
 obtain ⟨h,hh⟩:∃h,aK l i=h:=⟨_,rfl⟩
 have HE:=zH her
 have HH:=zH hh
 clear hp
 by_cases h0:er=0
 rotate_left
 ·have hne:(er !=0)=true:=by simpa using h0
  have h1:placeE l i k raw=er:=by rw [placeE,if_neg (by rw [her];exact h0),her]
  have HR:Hid (oplZ l i k raw=0∧placeE l i k raw=er):=zH ⟨by rw [oplZ,if_neg (by rw [h1];exact h0)],h1⟩
  clear her hh h0 h1
  go_enter Tryz.func229,Tryz.ntmps229
  go_wp2_with fail
  refine (fC p l i h er HH.out HE.out V HP.out hi).mono ?_
  rintro e w1 ⟨rfl,hx⟩
  go_wp2_with fail
  go_ret2
  exact ⟨by rw [HR.out.1,HR.out.2];rfl,hx.alloc _⟩
 subst h0
 obtain ⟨g1,g2,g3,g4,g5⟩:=ft her
 obtain ⟨ws,rfl,h3,h4⟩:=tG her
 have hs:=cX her
 have hws:ws.length≤98304:=by
  rcases HP.out with ⟨_,hl⟩ | ⟨b,A,cap,ws',_,hl,hb⟩
  ·cases hl
  ·injection hl with hl;rw [hl];exact hb.len
 rw [hh]at g1 g2 g3 g4 g5 h4 hs
 have HR:Hid (placeE (some ws) i k raw=(if 0≤k∧k < eS h raw then 0 else 1)∧oplZ (some ws) i k raw=if 0≤k∧k < eS h raw then i+1+iA h raw+k else 0):=zH (by
  have e1:placeE (some ws) i k raw=(if 0≤k∧k < eS h raw then 0 else 1):=by rw [placeE,if_pos HE.out,HH.out]
  refine ⟨e1,?_⟩
  rw [oplZ,e1,HH.out]
  by_cases hk:0≤k∧k < eS h raw
  ·rw [if_pos hk,if_pos hk,if_pos rfl]
  ·rw [if_neg hk,if_neg hk,if_neg dM])
 have HB:=aG V #[.int .i64 h.k,.int .i64 h.f,.int .i64 h.r,.bool h.m,.int .i64 h.c] 85 _ rfl
 clear her hh
 go_enter Tryz.func229,Tryz.ntmps229
 go_wp2_with fail
 refine (fC p (some ws) i h 0 HH.out HE.out V HP.out hi).mono ?_
 rintro e w1 ⟨rfl,hx⟩
 have HBH:=aG w1 #[.int .i64 h.k,.int .i64 h.f,.int .i64 h.r,.bool h.m,.int .i64 h.c] 85 _ rfl
 have HX:=zH (hx.alloc (.cells #[.int .i64 h.k,.int .i64 h.f,.int .i64 h.r,.bool h.m,.int .i64 h.c] 85))
 clear hx
 go_wp2_with fail
 generalize w1.alloc (.cells #[.int .i64 h.k,.int .i64 h.f,.int .i64 h.r,.bool h.m,.int .i64 h.c] 85)=W at*
 generalize w1.heap.size=X at*
 have g:=HBH.cells
 have hxw:=AD W
 (refine aC (W:=W) kR kR aS ?_;(repeat (go_big_quiet_step (fail)));refine wpQuiet_nil ?_;intro w1 hx)
 obtain ⟨uq,rfl⟩:∃u:ExtOf W,w1=u.1:=⟨⟨w1,hx⟩,rfl⟩
 clear hx hxw
 cases raw
 ·simp only [eS,iA,Bool.false_eq_true,if_false,Int.add_zero]at HR
  by_cases h5:k < 0
  ·have d1:decide (k < 0)=true:=by simpa using h5
   rw [if_neg oM,if_neg oM]at HR
   clear h5
   go_wp2_with fail
   go_ret2
   exact ⟨by rw [HR.out.1,HR.out.2];rfl,HX.out.trans uq.2⟩
  have d1:decide (k < 0)=false:=by simpa using h5
  by_cases h6:k < h.f
  ·have d2:decide (h.f≤k)=false:=by simp;omega
   rw [if_pos oM,if_pos oM]at HR
   go_wp2_with fail
   go_ret2
   exact ⟨by rw [HR.out.1,HR.out.2];rfl,HX.out.trans uq.2⟩
  ·have d2:decide (h.f≤k)=true:=by simp;omega
   rw [if_neg oM,if_neg oM]at HR
   clear h5 h6
   go_wp2_with fail
   go_ret2
   exact ⟨by rw [HR.out.1,HR.out.2];rfl,HX.out.trans uq.2⟩
 ·simp only [eS,iA,if_true]at HR
  go_wp2_with fail
  have hxw:=uq.2
  (refine aC (W:=W) kR kR aS ?_;(repeat (go_big_quiet_step (fail)));refine wpQuiet_nil ?_;intro w1 hx)
  obtain ⟨uq,rfl⟩:∃u:ExtOf W,w1=u.1:=⟨⟨w1,hx⟩,rfl⟩
  clear hx hxw
  by_cases h5:k < 0
  ·have d1:decide (k < 0)=true:=by simpa using h5
   rw [if_neg oM,if_neg oM]at HR
   clear h5
   go_wp2_with fail
   go_ret2
   exact ⟨by rw [HR.out.1,HR.out.2];rfl,HX.out.trans uq.2⟩
  have d1:decide (k < 0)=false:=by simpa using h5
  by_cases h6:k < h.r
  ·have d2:decide (h.r≤k)=false:=by simp;omega
   rw [if_pos oM,if_pos oM]at HR
   go_wp2_with fail
   go_ret2
   exact ⟨by rw [HR.out.1,HR.out.2];rfl,HX.out.trans uq.2⟩
  ·have d2:decide (h.r≤k)=true:=by simp;omega
   rw [if_neg oM,if_neg oM]at HR
   clear h5 h6
   go_wp2_with fail
   go_ret2
   exact ⟨by rw [HR.out.1,HR.out.2];rfl,HX.out.trans uq.2⟩
def fldZ (l:Option (List Int)) (i k:Int) (raw:Bool):Int:=if placeE l i k raw=0 then rdA l (oplZ l i k raw)else 0
theorem uL (p:Option Addr) (l:Option (List Int)) (i k:Int) (raw:Bool) (V:World) (hp:ArP V p l) (hi: -9223372036854775808≤i∧i≤9223372036854775807):
  Calls Tryz.prog 209 #[.pointer p,.int .i64 i,.int .i64 k,.bool raw] V fun e w'=>e= .returned (.tuple #[.int .u64 (fldZ l i k raw),.int .i64 (placeE l i k raw)])∧Ext V w':=by
 have HP:=zH hp
 obtain ⟨er,her⟩:∃e,placeE l i k raw=e:=⟨_,rfl⟩
 obtain ⟨z,hz⟩:∃e,oplZ l i k raw=e:=⟨_,rfl⟩
 have Z:=rp p l i k raw V hp hi
 rw [her,hz]at Z
 rw [fldZ,her,hz]
 clear hp
 by_cases h0:er=0
 ·subst h0
  have h1:=(lP her).2.2.2.1
  rw [hz]at h1
  have H1:=zH h1
  clear her hz h1
  go_enter Tryz.func209,Tryz.ntmps209
  go_wp2_with fail
  refine Z.mono ?_
  clear Z
  rintro e w1 ⟨rfl,hx⟩
  go_wp2_with fail
  refine (qF p l z _ 0 rfl H1.out w1 (HP.out.ext hx)).mono ?_
  rintro e w2 ⟨rfl,hx2⟩
  go_wp2_with fail
  go_ret2
  exact ⟨rfl,hx.trans hx2⟩
 ·have hne:(er !=0)=true:=by simpa using h0
  rw [if_neg h0]
  clear her hz h0
  go_enter Tryz.func209,Tryz.ntmps209
  go_wp2_with fail
  refine Z.mono ?_
  clear Z
  rintro e w1 ⟨rfl,hx⟩
  go_wp2_with fail
  go_ret2
  exact ⟨rfl,hx⟩
theorem rq (p:Option Addr) (l:Option (List Int)) (i k:Int) (V:World) (hp:ArP V p l) (hi: -9223372036854775808≤i∧i≤9223372036854775807):
  Calls Tryz.prog 176 #[.pointer p,.int .i64 i,.int .i64 k] V fun e w'=>e= .returned (.tuple #[.int .u64 (fldZ l i k false),.int .i64 (placeE l i k false)])∧Ext V w':=by
 have Z:=uL p l i k false V hp hi
 generalize fldZ l i k false=z at*
 generalize placeE l i k false=er at*
 go_enter Tryz.func176,Tryz.ntmps176
 go_wp2_with fail
 refine Z.mono ?_
 rintro e w1 ⟨rfl,hx⟩
 go_wp2_with fail
 go_ret2
 exact ⟨rfl,hx⟩
theorem lQ {s l t m:Int} {b:Bool} (h:cfgB s l t m=b) (w:World):Calls Tryz.prog 85 #[.agg #[.int .i64 (s),.int .i64 (l),.int .i64 (t),.int .i64 (m)]] w fun e w'=>e= .returned (.bool b)∧Ext w w':=by
 rw [←h];exact cl s l t m w
theorem fu {s l t m n:Int} (h:cZ s l t m=n) (w:World):Calls Tryz.prog 88 #[.agg #[.int .i64 (s),.int .i64 (l),.int .i64 (t),.int .i64 (m)]] w fun e w'=>e= .returned (.int .i64 n)∧Ext w w':=by
 rw [←h];exact tf s l t m w
theorem lU {s l t m x y:Int} {b:Bool} (h1:bL s l t m b=x) (h2:bO s l t m=y) (w:World):Calls Tryz.prog 81 #[.agg #[.int .i64 (s),.int .i64 (l),.int .i64 (t),.int .i64 (m)],.bool b] w fun e w'=>e= .returned (.agg #[.int .i64 (x),.int .i64 (y)])∧Ext w w':=by
 rw [←h1,←h2];exact vL s l t m b w
theorem mw {s l t m x y:Int} (h1:bE s l t m=x) (h2:bC s l t m=y) (w:World):Calls Tryz.prog 89 #[.agg #[.int .i64 (s),.int .i64 (l),.int .i64 (t),.int .i64 (m)]] w fun e w'=>e= .returned (.agg #[.int .i64 (x),.int .i64 (y)])∧Ext w w':=by
 rw [←h1,←h2];exact th s l t m w
theorem fx {s l t m x:Int} {b:Bool} (h:dq s l t m x=b) (w:World):Calls Tryz.prog 133 #[.agg #[.int .i64 (s),.int .i64 (l),.int .i64 (t),.int .i64 (m)],.int .i64 x] w fun e w'=>e= .returned (.bool b)∧Ext w w':=by
 rw [←h];exact ti s l t m x w
theorem rt (A:Option Addr) (cap:Nat) (sl:List (Bool×Int×Int)) (n:Int) (b:Bool) (h:bQ sl n=b) (V:World) (hl:SlotsAt V A sl) (hlen:sl.length≤9223372036854775807) (hbd:∀x∈sl,0≤x.2.2∧x.2.2 < 18446744073709551616):
  Calls Tryz.prog 175 #[.slice A sl.length cap,.int .i64 n] V fun e w'=>e= .returned (.bool b)∧Ext V w':=by
 rw [←h];exact pk A cap sl n V hl hlen hbd
theorem tH (s l t m:Int) (b:Bool):0≤bL s l t m b∧bL s l t m b≤32768∧0≤bO s l t m∧bO s l t m≤32768:=by
 unfold bL bO
 cases h:cfgB s l t m
 ·simp
 ·have:=gN h
  cases b <;>simp <;>omega
def topB (c0 c1 c2 c3:Int) (sn:Bool) (top:Int):Bool:=decide (bL c0 c1 c2 c3 sn≤top∧top≤bL c0 c1 c2 c3 sn+bO c0 c1 c2 c3)
section
variable {c0 c1 c2 c3 : Int} {sn : Bool} {wA : Option Addr} {ws : List Int} {wc : Nat} {top : Int} {tA : Option Addr} {tb : List (Int × Int)} {tc : Nat} {fA : Option Addr} {fr : List (Int × Int)} {fc : Nat} {sA : Option Addr} {sl : List (Bool × Int × Int)} {sc : Nat}
variable {p sm m : Value} {V : World} {L : Nat}
theorem oe (hL:Pers V (fun w=>w.heap[L]?=some (.cells #[.int .i64 c0,.int .i64 c1,.int .i64 c2,.int .i64 c3,.bool sn,.slice wA ws.length wc,.int .i64 top,.slice tA tb.length tc,.slice fA fr.length fc,.slice sA sl.length sc,p,sm,m] 124 (0,0)))):
  Calls Tryz.prog 79 #[.pointer (some ⟨L,0,none⟩)] V fun e w'=>e= .returned (.bool (cfgB c0 c1 c2 c3))∧Ext V w':=by
 obtain ⟨b,hb⟩:∃b,cfgB c0 c1 c2 c3=b:=⟨_,rfl⟩
 have HB:=zH hb
 rw [hb]
 have g:=hL.cells
 clear hb
 refine aM fun uq=> ?_
 go_enter Tryz.func79,Tryz.ntmps79
 go_wp2_with fail
 (refine (lQ HB.out _).mono ?_;rintro e wq ⟨rfl,hx⟩;replace hx:=AF (a:=V) zE hx;obtain ⟨uq,rfl⟩:∃u:ExtOf V,wq=u.1:=⟨⟨wq,hx⟩,rfl⟩;clear hx;go_wp2_with fail)
 go_ret
 exact ⟨rfl,AH _⟩
theorem qO (hL:Pers V (fun w=>w.heap[L]?=some (.cells #[.int .i64 c0,.int .i64 c1,.int .i64 c2,.int .i64 c3,.bool sn,.slice wA ws.length wc,.int .i64 top,.slice tA tb.length tc,.slice fA fr.length fc,.slice sA sl.length sc,p,sm,m] 124 (0,0)))) (hlen:ws.length≤9223372036854775807):
  Calls Tryz.prog 142 #[.pointer (some ⟨L,0,none⟩)] V fun e w'=>e= .returned (.bool (decide ((ws.length:Int)=cZ c0 c1 c2 c3)))∧Ext V w':=by
 obtain ⟨n,hn⟩:∃b,cZ c0 c1 c2 c3=b:=⟨_,rfl⟩
 have HN:=zH hn
 rw [hn]
 obtain ⟨b,hb⟩:∃b,((ws.length:Int)==n)=b:=⟨_,rfl⟩
 have HR:Hid (decide ((ws.length:Int)=n)=b):=zH (by rw [←hb];exact Bool.eq_iff_iff.2 sM)
 have g:=hL.cells
 clear hn
 refine aM fun uq=> ?_
 go_enter Tryz.func142,Tryz.ntmps142
 go_wp2_with fail
 have hu:=uq.2
 (refine aC (W:=V) kR kR aS ?_;(repeat (go_big_quiet_step (first | (go_at_call 88;with_reducible exact AE (fu HN.out _)))));refine wpQuiet_nil ?_;intro w1 hx)
 (obtain ⟨uq,rfl⟩:∃u:ExtOf V,w1=u.1:=⟨⟨w1,hx⟩,rfl⟩;clear hx;go_wp2_with fail)
 go_ret
 exact ⟨aD HR.out.symm,AH _⟩
theorem uM (hL:Pers V (fun w=>w.heap[L]?=some (.cells #[.int .i64 c0,.int .i64 c1,.int .i64 c2,.int .i64 c3,.bool sn,.slice wA ws.length wc,.int .i64 top,.slice tA tb.length tc,.slice fA fr.length fc,.slice sA sl.length sc,p,sm,m] 124 (0,0)))):
  Calls Tryz.prog 80 #[.pointer (some ⟨L,0,none⟩)] V fun e w'=>e= .returned (.bool (topB c0 c1 c2 c3 sn top))∧Ext V w':=by
 obtain ⟨a,ha⟩:∃b,bL c0 c1 c2 c3 sn=b:=⟨_,rfl⟩
 obtain ⟨n,hn⟩:∃b,bO c0 c1 c2 c3=b:=⟨_,rfl⟩
 obtain ⟨b1,b2,b3,b4⟩:=tH c0 c1 c2 c3 sn
 rw [ha]at b1 b2
 rw [hn]at b3 b4
 have HA:=zH ha
 have HN:=zH hn
 have HT:Hid (topB c0 c1 c2 c3 sn top=decide (a≤top∧top≤a+n)):=zH (by rw [topB,ha,hn])
 have hw:wrap64 (a+n)=a+n:=IntWalk.wrap64_in _ ⟨by omega,by omega⟩
 have HW:=zH hw
 have g:=hL.cells
 clear ha hn hw
 refine aM fun uq=> ?_
 go_enter Tryz.func80,Tryz.ntmps80
 go_wp2_with fail
 have hu:=uq.2
 refine kE (Behind fun a' w'=>Ext V w'∧∃X,Hid (w'.heap[X]?=some (.cells #[.int .i64 a,.int .i64 n] 63 (0,0)))∧a'= {tmps:= #[.pointer (some ⟨L,0,none⟩),undef,.bool false,.pointer (some ⟨X,0,none⟩),.pointer (some ⟨L,0,none⟩),.pointer (some ⟨L,0,none⟩),.pointer (some ⟨L,0,none⟩),.pointer (some ⟨L,0,none⟩),.agg #[.int .i64 (c0),.int .i64 (c1),.int .i64 (c2),.int .i64 (c3)],.pointer (some ⟨L,0,none⟩),.pointer (some ⟨L,0,none⟩),.pointer (some ⟨L,0,none⟩),.pointer (some ⟨L,4,none⟩),.bool sn,.agg #[.int .i64 (a),.int .i64 (n)],undef,undef,undef,undef,undef,undef,undef,undef,undef,undef,undef,undef,undef,undef,undef,undef,undef,undef,undef,undef,undef],defers:= []}) ?_ ?_
 ·(refine kZ (W:=V) [(0,true),(1,true),(2,true),(3,true),(4,true),(5,true),(6,true),(7,true),(8,true),(9,true)] 1 [(10,[11]),(11,[10])] [12] kR kR (by intro c a d v w h;cases d <;>first | exact h | (cases h;done) | cases h.1.1 | cases h.1) aS ?_;simp only [aI,List.map_cons,List.map_nil,List.getD_cons_zero,List.getD_cons_succ];(repeat (go_big_quiet_step (fail)));refine wpQuiet_nil ?_;refine iO ?_ ?_ <;>(simp only [aI,List.map_cons,List.map_nil,List.getD_cons_zero,List.getD_cons_succ];intro w1 hx))
  ·(refine cT rM ?_;intro K hK;go_simp)
   refine (lU HA.out HN.out _).mono ?_
   rintro e w2 ⟨rfl,hx2⟩
   refine hK _ _ (hx.trans hx2) ?_
   clear hK K
   (refine cT rM ?_;intro K hK;go_simp)
   refine hK _ _ ((hx.trans hx2).alloc _) ?_
   clear hK K
   refine cD ?_
   go_wp2_with fail
   exact Behind.mk ⟨(hx.trans hx2).alloc _,w2.heap.size,zH (World.alloc_heap_new _ _),rfl⟩
  ·(refine cT rM ?_;intro K hK;go_simp)
   refine hK _ _ (hx.alloc _) ?_
   clear hK K
   have hb:=aR w1 #[.int .i64 0,.int .i64 0] 63 _ rfl
   have hx1:=hx.alloc (.cells #[.int .i64 0,.int .i64 0] 63)
   generalize w1.alloc (.cells #[.int .i64 0,.int .i64 0] 63)=w3 at*
   have hX:V.heap.size≤w1.heap.size:=hx.size
   generalize w1.heap.size=X at*
   (refine cT rM ?_;intro K hK;go_simp)
   refine (lU HA.out HN.out _).mono ?_
   rintro e w2 ⟨rfl,hx2⟩
   refine hK _ _ (hx1.trans hx2) ?_
   clear hK K
   have hb2:=(hx2.block (aA hb)).trans hb
   have g3:∀i,w2.cell? ⟨X,i,none⟩=(#[.int .i64 0,.int .i64 0]:Array Value)[i]?:=fun i=>by simp [World.cell?,hb2]
   have g4:∀i,w2.frozen? ⟨X,i,none⟩=false:=fun i=>by simp [World.frozen?,hb2]
   refine cD ?_
   go_wp2_with fail
   exact Behind.mk ⟨((hx1.trans hx2).setCell hX _).setCell hX _,X,zH (aL (aL hb2 _) _),rfl⟩
 intro a' W hbeh
 obtain ⟨hx2,X,hS0,rfl⟩:=hbeh.out
 clear hbeh
 have hS:=aP hS0.out
 have HX:=zH hx2
 replace hL:=hL.re hx2
 clear hx2 g hu hS0
 go_wp2_with fail
 have g1:=hL.cells
 have g2:=hS.cells
 have hxw:=AD W
 have hw:=HW.out
 by_cases h1:a≤top
 ·have d1:decide (a≤top)=true:=by simpa using h1
  obtain ⟨b,hb⟩:∃b,decide (top≤a+n)=b:=⟨_,rfl⟩
  have HR:Hid (topB c0 c1 c2 c3 sn top=b):=zH (by rw [HT.out,←hb];simp [h1])
  clear h1
  (refine aC (W:=W) kR kR aS ?_;(repeat (go_big_quiet_step (fail)));refine wpQuiet_nil ?_;intro w1 hx)
  (obtain ⟨uq,rfl⟩:∃u:ExtOf W,w1=u.1:=⟨⟨w1,hx⟩,rfl⟩;clear hx;go_wp2_with fail)
  go_ret
  exact ⟨aD HR.out.symm,HX.out.trans (AH _)⟩
 ·have d1:decide (a≤top)=false:=by simpa using h1
  have HR:Hid (topB c0 c1 c2 c3 sn top=false):=zH (by rw [HT.out];simp [h1])
  clear h1
  (refine aC (W:=W) kR kR aS ?_;(repeat (go_big_quiet_step (fail)));refine wpQuiet_nil ?_;intro w1 hx)
  (obtain ⟨uq,rfl⟩:∃u:ExtOf W,w1=u.1:=⟨⟨w1,hx⟩,rfl⟩;clear hx;go_wp2_with fail)
  go_ret
  exact ⟨aD HR.out.symm,HX.out.trans (AH _)⟩
theorem qP (hL:Pers V (fun w=>w.heap[L]?=some (.cells #[.int .i64 c0,.int .i64 c1,.int .i64 c2,.int .i64 c3,.bool sn,.slice wA ws.length wc,.int .i64 top,.slice tA tb.length tc,.slice fA fr.length fc,.slice sA sl.length sc,p,sm,m] 124 (0,0)))) (HS:Pers V (fun w=>SlotsAt w sA sl)) (hlen:sl.length≤9223372036854775807) (hbd:∀x∈sl,0≤x.2.2∧x.2.2 < 18446744073709551616):
  Calls Tryz.prog 146 #[.pointer (some ⟨L,0,none⟩)] V fun e w'=>e= .returned (.bool (bQ sl c2))∧Ext V w':=by
 obtain ⟨b,hb⟩:∃b,bQ sl c2=b:=⟨_,rfl⟩
 have HB:=zH hb
 have HBD:=zH hbd
 rw [hb]
 have g:=hL.cells
 clear hb hbd
 refine aM fun uq=> ?_
 go_enter Tryz.func146,Tryz.ntmps146
 go_wp2_with fail
 have hu:=uq.2
 (refine aC (W:=V) kR kR aS ?_;(repeat (go_big_quiet_step (first | (go_at_call 175;with_reducible exact AE (rt sA sc sl c2 b HB.out _ (HS.at zE) hlen HBD.out)))));refine wpQuiet_nil ?_;intro w1 hx)
 (obtain ⟨uq,rfl⟩:∃u:ExtOf V,w1=u.1:=⟨⟨w1,hx⟩,rfl⟩;clear hx;go_wp2_with fail)
 go_ret
 exact ⟨rfl,AH _⟩
end
def dT (h:Hd):Bool:= !h.m && (h.c==0)
theorem eZ (h:Hd) (b:Bool) (hb:dT h=b) (V:World):Calls Tryz.prog 173 #[.agg #[.int .i64 h.k,.int .i64 h.f,.int .i64 h.r,.bool h.m,.int .i64 h.c]] V fun e w'=>e= .returned (.bool b)∧Ext V w':=by
 obtain ⟨hk,hf,hr,m,c⟩:=h
 subst hb
 obtain ⟨b,hb⟩:∃b,(c==0)=b:=⟨_,rfl⟩
 cases m
 ·have HR:Hid (dT ⟨hk,hf,hr,false,c⟩=b):=zH (by simp [dT,←hb])
  go_enter Tryz.func173,Tryz.ntmps173
  go_wp2_with fail
  go_ret
  exact ⟨aD HR.out.symm,(AD V).alloc _⟩
 ·have HR:Hid (dT ⟨hk,hf,hr,true,c⟩=false):=zH (by simp [dT])
  go_enter Tryz.func173,Tryz.ntmps173
  go_wp2_with fail
  go_ret
  exact ⟨aD HR.out.symm,(AD V).alloc _⟩
theorem zR {zs:List Int} {k:Nat} (hk:k < zs.length) {v:Int} (h:v=zs.getD k 0):decide (v∈zs)=true:=by
 rw [decide_eq_true_eq,h,List.getD_eq_getElem?_getD,List.getElem?_eq_getElem hk]
 exact List.getElem_mem hk
theorem wR {zs:List Int} {v:Int} (h:∀i,i < zs.length→v≠zs.getD i 0):decide (v∈zs)=false:=by
 rw [decide_eq_false_iff_not]
 intro hm
 obtain ⟨i,hi,he⟩:=List.getElem_of_mem hm
 exact h i hi (by rw [List.getD_eq_getElem?_getD,List.getElem?_eq_getElem hi];exact he.symm)
theorem mW (A:Option Addr) (cap:Nat) (zs:List Int) (v:Int) (W:World) (hlen:zs.length≤9223372036854775807) (hl:IntsAt W A zs):
  Calls Tryz.prog 154 #[.slice A zs.length cap,.int .i64 v] W fun e w'=>e= .returned (.bool (decide (v∈zs)))∧Ext W w':=by
 have HL:=zH hl
 clear hl
 go_enter Tryz.func154,Tryz.ntmps154
 go_wp2_with fail
 go_loopw [5] (fun i wr=>∃k:Nat,k≤zs.length∧i= .int .i64 k∧Ext W wr∧Hid (∀i,i < k→v≠zs.getD i 0)) (fun i _=>zs.length - (intOf i).toNat)
 case atStart=>exact ⟨0,by omega,rfl,AD _,zH oM⟩
 case round=>
  obtain ⟨k,hk,rfl,hxr,hq⟩:=hrel
  by_cases hlt:k < zs.length
  rotate_left
  ·have HR:=zH (wR fun i hi=>hq.out i oM)
   clear hq
   go_wp2_with fail
   go_ret
   exact ⟨aD HR.out.symm,hxr⟩
  obtain ⟨lb,off,rfl,hc⟩:=HL.out.get oM
  have c1:=hxr.cell (bD hc hlt)
  have HS:=zH (fun (h:v≠zs.getD k 0)=>(fun i (hi:i < k+1)=>by
   rcases Nat.lt_or_ge i k with h' | h'
   ·exact hq.out i h'
   ·obtain rfl:i=k:=by omega
    exact h:∀i,i < k+1→v≠zs.getD i 0))
  have HD:=zH (fun (h:v=zs.getD k 0)=>zR hlt h)
  clear hc HL hq
  generalize zs.getD k 0=x at*
  have ib1:(k:Int) < (zs.length:Int):=by omega
  by_cases he:v=x
  ·have HE:=zH (HD.out he)
   have hb:(x==v)=true:=by rw [beq_iff_eq];exact he.symm
   clear he HD HS
   go_wp2_with fail
   go_ret
   exact ⟨aD HE.out.symm,hxr⟩
  ·have hb:(x==v)=false:=by rw [beq_eq_false_iff_ne];exact fun h=>he h.symm
   have HE:=zH (HS.out he)
   clear he HD HS
   go_wp2_with fail
   go_roundw
   case rel=>exact ⟨k+1,by omega,by go_num,hxr,HE⟩
   case measure=>simp [intOf];omega
end Go.Proofs.YtphpppjfogpohaaGreat
