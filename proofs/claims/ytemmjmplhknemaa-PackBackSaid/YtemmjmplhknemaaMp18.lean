/- Merged by program (merge.py) out of: WkA. -/
import Derived.Deep.Cut
import Derived.LoopIn
import Derived.LoopNIn
import Derived.Test.YtemmjmplhknemaaMp17
import Derived.Test.YtemmjmplhknemaaMp6
set_option linter.unusedSimpArgs false
set_option linter.unusedVariables false
set_option maxRecDepth 100000
set_option maxHeartbeats 16000000
namespace Go.Proofs.Ytemmjmplhknemaa
open Go.RowKit Go.Shelf
attribute [local go_sem] Oper.semAt_some
structure Stp where
 at_:Int
 h:Hd
 e:Int
 last:Bool
def wkE (l:Option (List Int)) (top i:Int):Int:=if headE l i=0 then (if top - i < hsize (headH l i)then 2 else 0)else headE l i
def stepsF (l:Option (List Int)) (top:Int):Nat→Int→List Stp
 | 0,i=> [⟨i,hd0,0,true⟩]
 | n+1,i=>if i < top then (if wkE l top i=0 then ⟨i,headH l i,0,false⟩::stepsF l top n (i+hsize (headH l i))else [⟨i,hd0,wkE l top i,true⟩])else [⟨i,hd0,0,true⟩]
theorem head_size {l:Option (List Int)} {i:Int} (h:headE l i=0):1≤hsize (headH l i)∧hsize (headH l i)≤8193:=by
 rw [headH,if_pos h]
 unfold headE at h
 split at h
 ·split at h
  ·rename_i hb
   simp only [hdecB,Bool.and_eq_true]at hb
   rw [hsize,hb.2,if_pos rfl]
   have:=hb.2
   simp only [hmayB,decide_eq_true_eq]at this
   omega
  ·cases h
 ·rename_i h2
  exact absurd h h2
theorem wkE_head {l:Option (List Int)} {top i:Int} (h:wkE l top i=0):headE l i=0∧hsize (headH l i)≤top - i:=by
 unfold wkE at h
 split at h
 ·rename_i h0
  split at h
  ·cases h
  ·exact ⟨h0,by omega⟩
 ·rename_i h0
  exact absurd h h0
theorem stepsF_fuel (l:Option (List Int)) (top:Int):∀(n m:Nat) (i:Int),(top - i).toNat≤n→(top - i).toNat≤m→stepsF l top n i=stepsF l top m i:=by
 intro n
 induction n with
 | zero=>
  intro m i hn _
  cases m with
  | zero=>rfl
  | succ m=>rw [stepsF,stepsF,if_neg (by omega)]
 | succ n ih=>
  intro m i hn hm
  cases m with
  | zero=>rw [stepsF,stepsF,if_neg (by omega)]
  | succ m=>
   rw [stepsF,stepsF]
   by_cases h:i < top
   ·rw [if_pos h,if_pos h]
    by_cases h2:wkE l top i=0
    ·have:=head_size (wkE_head h2).1
     rw [if_pos h2,if_pos h2,ih m _ (by omega) (by omega)]
    ·rw [if_neg h2,if_neg h2]
   ·rw [if_neg h,if_neg h]
def stepsA (l:Option (List Int)) (top i:Int):List Stp:=stepsF l top (top - i).toNat i
theorem steps_end {l:Option (List Int)} {top i:Int} (h:¬i < top):stepsA l top i= [⟨i,hd0,0,true⟩]:=by
 unfold stepsA
 rw [show (top - i).toNat=0 by omega]
 rfl
theorem steps_err {l:Option (List Int)} {top i:Int} (h:i < top) (h2:wkE l top i≠0):stepsA l top i= [⟨i,hd0,wkE l top i,true⟩]:=by
 unfold stepsA
 obtain ⟨n,hn⟩:∃n,(top - i).toNat=n+1:=⟨(top - i).toNat - 1,by omega⟩
 rw [hn,stepsF,if_pos h,if_neg h2]
theorem steps_go {l:Option (List Int)} {top i:Int} (h:i < top) (h2:wkE l top i=0):stepsA l top i=⟨i,headH l i,0,false⟩::stepsA l top (i+hsize (headH l i)):=by
 unfold stepsA
 obtain ⟨n,hn⟩:∃n,(top - i).toNat=n+1:=⟨(top - i).toNat - 1,by omega⟩
 have:=head_size (wkE_head h2).1
 rw [hn,stepsF,if_pos h,if_pos h2,stepsF_fuel l top n (top - (i+hsize (headH l i))).toNat _ (by omega) (by omega)]
theorem ohead_is (p:Option Addr) (l:Option (List Int)) (i:Int) (h:Hd) (er:Int) (h1:headH l i=h) (h2:headE l i=er) (V:World) (hp:ArP V p l) (hi: -9223372036854775808≤i∧i≤9223372036854775807):Calls Try.prog 53 #[.pointer p,.int .i64 i] V fun e w'=>e= .returned (.tuple #[.agg #[.int .i64 h.k,.int .i64 h.f,.int .i64 h.r,.bool h.m,.int .i64 h.c],.int .i64 er])∧Ext V w':=by
 rw [←h1,←h2];exact ohead_any p l i V hp hi
structure Wk (nV bs bt ba:Nat) (w wr:World):Prop where
 below:Below nV w wr
 b1:wr.heap[bs]?=w.heap[bs]?
 b2:wr.heap[bt]?=w.heap[bt]?
 b3:wr.heap[ba]?=w.heap[ba]?
 size:w.heap.size≤wr.heap.size
section
variable {nV bs bt ba Bout : Nat} {w wr w' : World}
theorem Wk.ext (h:Wk nV bs bt ba w wr) (hx:Ext wr w') (hV:nV≤w.heap.size) (h1:bs < w.heap.size) (h2:bt < w.heap.size) (h3:ba < w.heap.size):Wk nV bs bt ba w w':=
 have hs:=h.size
 ⟨Below.trans h.below (Below.mono hx (by omega)),(hx.block (by omega)).trans h.b1,(hx.block (by omega)).trans h.b2,(hx.block (by omega)).trans h.b3,Nat.le_trans h.size hx.size⟩
theorem Wk.of (hx:Ext w wr) (hV:nV≤w.heap.size) (h1:bs < w.heap.size) (h2:bt < w.heap.size) (h3:ba < w.heap.size):Wk nV bs bt ba w wr:=
 ⟨Below.mono hx hV,hx.block h1,hx.block h2,hx.block h3,hx.size⟩
theorem Wk.kp (h:Wk nV bs bt ba w wr) {n0:Nat} (hk:KpX (fun k=>k=bs∨k=bt∨k=ba) nV n0 Bout wr w') (h1:bs < w.heap.size) (h2:bt < w.heap.size) (h3:ba < w.heap.size):Wk nV bs bt ba w w':=by
 have hs:=h.size
 have e:∀k,(k=bs∨k=bt∨k=ba)→k < wr.heap.size→w'.heap[k]?=wr.heap[k]?:=fun k hk' hlt=>by
  rw [Array.getElem?_eq_getElem hlt]
  exact hk.more k _ hk' (Array.getElem?_eq_getElem hlt)
 exact ⟨Below.trans h.below hk.kp.below,(e bs (.inl rfl) (by omega)).trans h.b1,(e bt (.inr (.inl rfl)) (by omega)).trans h.b2,(e ba (.inr (.inr rfl)) (by omega)).trans h.b3,Nat.le_trans h.size hk.kp.below.size⟩
theorem Wk.cell2 (h:Wk nV bs bt ba w wr) {o:Nat} {v:Value} (hc:w.cell? ⟨bt,o,none⟩=some v):wr.cell? ⟨bt,o,none⟩=some v:=by rw [World.cell?_of_block (w:=w) (w':=wr) (a:=⟨bt,o,none⟩) h.b2];exact hc
theorem Wk.cell3 (h:Wk nV bs bt ba w wr) {o:Nat} {v:Value} (hc:w.cell? ⟨ba,o,none⟩=some v):wr.cell? ⟨ba,o,none⟩=some v:=by rw [World.cell?_of_block (w:=w) (w':=wr) (a:=⟨ba,o,none⟩) h.b3];exact hc
end
theorem walk1_stops (nV bs bt ba Bout:Nat) (p:Option Addr) (l:Option (List Int)) (s0 s1 top:Int) (w:World) (hbs:bs < w.heap.size) (hbt:bt < w.heap.size) (hba:ba < w.heap.size)
  (cs:w.cell? ⟨bs,0,none⟩=some (.int .i64 s0)) (ct:w.cell? ⟨bt,0,none⟩=some (.int .i64 top)) (ca:w.cell? ⟨ba,0,none⟩=some (.pointer p)) (hp:∀W',Below nV w W'→ArP W' p l) (hV:nV≤w.heap.size) (h0:0≤s0) (h1:s0≤top) (h2:top≤2199023255552) (hBo:Bout < w.heap.size) (hld:∀b,¬Led w Bout b):
  IterStopsK Try.prog 73 #[.pointer (some ⟨bs,0,none⟩),.pointer (some ⟨bt,0,none⟩),.pointer (some ⟨ba,0,none⟩)] (fun x:Stp=> #[.agg #[.int .i64 x.at_,.int .i64 x.h.k,.int .i64 x.h.f,.int .i64 x.h.r,.bool x.h.m,.int .i64 x.h.c,.int .i64 x.e,.bool x.last]]) (fun k=>k=bs∨k=bt∨k=ba) nV Bout (fun ys=>ys=stepsA l top s0) (fun pre=>pre <+:stepsA l top s0) (fun pre=>pre <+:stepsA l top s0) w:=by
 intro lp J Jx U hW hJ hJx hY hj0
 refine callsIn_wide.2 ?_
 show Calls Try.prog 73 #[.func (.yield lp) #[] #[],.pointer (some ⟨bs,0,none⟩),.pointer (some ⟨bt,0,none⟩),.pointer (some ⟨ba,0,none⟩)] U _
 have hW:Ext w U:=hW
 have HY:=zH hY
 have HJ:=zH hJ
 have H0:=zH hj0
 have HP:=zH hp
 have HCT:=zH ct
 have HCA:=zH ca
 have c0:=hW.cell cs
 have HW:=zH (Wk.of (nV:=nV) hW hV hbs hbt hba)
 have hUw0:w.heap.size≤U.heap.size:=hW.size
 have HLU:Hid (∀b,Led U Bout b→b < U.heap.size):=zH (fun b hb=>absurd ((led_ext hW hBo).1 hb) (hld b))
 clear hY hJ hJx hj0 hp ct ca cs hW hld
 go_enter Try.func73,Try.ntmps73
 go_wp2_with fail
 go_loopw [5] (fun v wr=>∃(pre:List Stp) (i:Int),s0≤i∧i≤top∧v= .int .i64 i∧Hid (pre++stepsA l top i=stepsA l top s0)∧Hid (Wk nV bs bt ba w wr)∧U.heap.size≤wr.heap.size∧Hid (J pre wr)∧Hid (∀b,Led wr Bout b→b < wr.heap.size)) (fun v _=>(top - intOf v).toNat)
 case atStart=>exact ⟨[],s0,by omega,by omega,rfl,zH rfl,HW,Nat.le_refl _,H0,HLU⟩
 case round=>
  obtain ⟨pre,i,hi1,hi2,rfl,hs,hx,hsz,hj,hle⟩:=hrel
  clear H0 c0 HLU
  have hUw:=HW.out.size
  have ct:=hx.out.cell2 HCT.out
  have ca:=hx.out.cell3 HCA.out
  by_cases hlt:i < top
  rotate_left
  ·have hd:decide (i < top)=false:=by simpa using hlt
   have HE:=zH (steps_end (l:=l) hlt)
   have hml:pre++ [⟨i,hd0,0,true⟩] <+:stepsA l top s0:=by rw [←hs.out,HE.out];exact List.prefix_refl _
   obtain ⟨fn,tmps,assign,body,hy,hRR⟩:=HY.out _ ⟨i,hd0,0,true⟩ _ hj.out hml
   dsimp only [hd0]at hy
   have hro:Fence.wide.round=none:=rfl
   clear hml hlt
   go_upto_region 9 with (fail)
   refine (wpIn_wide (n:=4)).1 ?_
   gi_wp2
   refine hRR.mono ?_
   clear hy hRR
   have HSS:=zH (show pre++ [⟨i,hd0,0,true⟩]=stepsA l top s0 by rw [←hs.out,HE.out])
   rintro e W3 (⟨rfl,hJ3,hk3⟩ | ⟨rfl,hJx3⟩)
   ·clear hk3
    gi_wp2
    go_wp2_with fail
    go_end0
    exact ⟨⟨_,rfl⟩,.inl ⟨_,HSS.out,hJ3⟩⟩
   ·gi_wp2
    go_wp2_with fail
    go_end0
    exact ⟨⟨_,rfl⟩,.inr ⟨_,by rw [HSS.out];exact List.prefix_refl _,hJx3⟩⟩
  have hd:decide (i < top)=true:=by simpa using hlt
  obtain ⟨er,her⟩:∃er,headE l i=er:=⟨_,rfl⟩
  obtain ⟨hh,hhh⟩:∃hh,headH l i=hh:=⟨_,rfl⟩
  have HE:=zH her
  have HH:=zH hhh
  clear her hhh
  go_wp2_with fail
  refine (ohead_is p l i hh er HH.out HE.out _ (HP.out _ hx.out.below) ⟨by omega,by omega⟩).mono ?_
  rintro e w1 ⟨rfl,hx1⟩
  have HX1:=zH (hx.out.ext hx1 hV hbs hbt hba)
  have HL1:Hid (∀b,Led w1 Bout b→b < w1.heap.size):=zH (fun b hb=>by
   have h1:=hle.out b ((led_ext hx1 (by have:=hx.out.size;omega)).1 hb)
   have:=hx1.size
   omega)
  have hws1:w.heap.size≤w1.heap.size:=HX1.out.size
  have HJ1:=zH (HJ.out _ _ _ hj.out (Ab.ext hx1 hsz))
  have hsz1:U.heap.size≤w1.heap.size:=Nat.le_trans hsz hx1.size
  clear hx1 hj hsz ct ca hx
  go_wp2_with fail
  have hxa:=(Ext.refl w1).alloc (.cells #[.int .i64 hh.k,.int .i64 hh.f,.int .i64 hh.r,.bool hh.m,.int .i64 hh.c] 99)
  have hb6:=blk_new w1 #[.int .i64 hh.k,.int .i64 hh.f,.int .i64 hh.r,.bool hh.m,.int .i64 hh.c] 99 _ rfl
  have HX6:=zH (HX1.out.ext hxa hV hbs hbt hba)
  have HJ6:=zH (HJ.out _ _ _ HJ1.out (Ab.ext hxa hsz1))
  have hsz6:U.heap.size≤(w1.alloc (.cells #[.int .i64 hh.k,.int .i64 hh.f,.int .i64 hh.r,.bool hh.m,.int .i64 hh.c] 99)).heap.size:=Nat.le_trans hsz1 hxa.size
  have HL6:Hid (∀b,Led (w1.alloc (.cells #[.int .i64 hh.k,.int .i64 hh.f,.int .i64 hh.r,.bool hh.m,.int .i64 hh.c] 99)) Bout b→b < w1.heap.size):=zH (fun b hb=>HL1.out b ((led_ext hxa (by omega)).1 hb))
  have hws6:w1.heap.size < (w1.alloc (.cells #[.int .i64 hh.k,.int .i64 hh.f,.int .i64 hh.r,.bool hh.m,.int .i64 hh.c] 99)).heap.size:=by simp
  clear hxa HJ1 hsz1 HX1 HL1
  generalize w1.alloc (.cells #[.int .i64 hh.k,.int .i64 hh.f,.int .i64 hh.r,.bool hh.m,.int .i64 hh.c] 99)=W6 at*
  generalize w1.heap.size=X6 at*
  have HB6:=zH hb6
  clear hb6
  have l0:∀u:ExtOf W6,u.1.cell? ⟨X6,0,none⟩=some (.int .i64 hh.k):=fun u=>u.2.cell (by simp [World.cell?,HB6.out])
  have l1:∀u:ExtOf W6,u.1.cell? ⟨X6,1,none⟩=some (.int .i64 hh.f):=fun u=>u.2.cell (by simp [World.cell?,HB6.out])
  have l2:∀u:ExtOf W6,u.1.cell? ⟨X6,2,none⟩=some (.int .i64 hh.r):=fun u=>u.2.cell (by simp [World.cell?,HB6.out])
  have l3:∀u:ExtOf W6,u.1.cell? ⟨X6,3,none⟩=some (.bool hh.m):=fun u=>u.2.cell (by simp [World.cell?,HB6.out])
  have l4:∀u:ExtOf W6,u.1.cell? ⟨X6,4,none⟩=some (.int .i64 hh.c):=fun u=>u.2.cell (by simp [World.cell?,HB6.out])
  have l5:∀u:ExtOf W6,u.1.cell? ⟨bt,0,none⟩=some (.int .i64 top):=fun u=>(HX6.out.ext u.2 hV hbs hbt hba).cell2 HCT.out
  have hx60:=Ext.refl W6
  obtain ⟨n,hn⟩:∃n,hsize hh=n:=⟨_,rfl⟩
  have HN:=zH hn
  clear hn
  have hsub:wrap64 (top - i)=top - i:=by unfold wrap64;omega
  by_cases h0e:er=0
  rotate_left
  ·have hne:(er==0)=false:=by simpa using h0e
   have hne2:(er !=0)=true:=by simpa using h0e
   have HW6:Hid (wkE l top i=er):=zH (by rw [wkE,HE.out,if_neg h0e])
   (refine wp_region_seg (W:=W6) [] [(0,true),(1,true),(2,true),(3,true),(5,true),(6,true),(7,true),(4,false),(8,true),(9,true)] [] (by kernel_rfl) (by kernel_rfl) (by intro c a d v w h;cases d <;>first | exact h | (cases h;done) | cases h.1.1 | cases h.1) (by with_reducible assumption) ?_;simp only [opsOf,List.map_cons,List.map_nil,List.getD_cons_zero,List.getD_cons_succ])
   ((first | refine seg_cons ?_ | refine seg_last ?_);(repeat (go_big_quiet_step (fail)));refine wpQuiet_nil ?_;intro w1 hx)
   have HJ2:=zH (HJ.out _ _ _ HJ6.out (Ab.ext hx hsz6))
   clear l0 l1 l2 l3 l4 l5
   have HSS:=zH (show pre++ [⟨i,hd0,er,true⟩]=stepsA l top s0 by rw [←hs.out,steps_err hlt (by rw [HW6.out];first | exact h0e | decide),HW6.out])
   have hml:pre++ [⟨i,hd0,er,true⟩] <+:stepsA l top s0:=by rw [HSS.out];exact List.prefix_refl _
   obtain ⟨fn,tmps,assign,body,hy,hRR⟩:=HY.out _ ⟨i,hd0,er,true⟩ _ HJ2.out hml
   dsimp only [hd0]at hy
   have hro:Fence.wide.round=none:=rfl
   clear hml
   go_upto_region 6 with (fail)
   refine (wpIn_wide (n:=4)).1 ?_
   gi_wp2
   refine hRR.mono ?_
   clear hy hRR
   rintro e W3 (⟨rfl,hJ3,hk3⟩ | ⟨rfl,hJx3⟩)
   ·clear hk3
    gi_wp2
    go_wp2_with fail
    (try simp only [Exit.inBlock,Exit.then])
    refine bodyPost_ret (results_none rfl _ _ _) rfl ?_
    exact ⟨⟨_,rfl⟩,.inl ⟨_,HSS.out,hJ3⟩⟩
   ·gi_wp2
    go_wp2_with fail
    (try simp only [Exit.inBlock,Exit.then])
    refine bodyPost_ret (results_none rfl _ _ _) rfl ?_
    exact ⟨⟨_,rfl⟩,.inr ⟨_,by rw [HSS.out];exact List.prefix_refl _,hJx3⟩⟩
  subst h0e
  have HSZ:=zH (show 1≤n∧n≤8193 by have:=head_size HE.out;rw [HH.out,HN.out]at this;exact this)
  by_cases hfit:top - i < n
  ·have hd2:decide (top - i < n)=true:=by simpa using hfit
   have h0e:(2:Int)≠0:=by decide
   have HW6:Hid (wkE l top i=2):=zH (by rw [wkE,HE.out,if_pos rfl,HH.out,HN.out,if_pos hfit])
   (refine wp_region_seg (W:=W6) [] [(0,true),(1,true),(2,true),(3,true),(5,true),(6,true),(7,true),(4,false),(8,true),(9,true)] [] (by kernel_rfl) (by kernel_rfl) (by intro c a d v w h;cases d <;>first | exact h | (cases h;done) | cases h.1.1 | cases h.1) (by with_reducible assumption) ?_;simp only [opsOf,List.map_cons,List.map_nil,List.getD_cons_zero,List.getD_cons_succ])
   ((first | refine seg_cons ?_ | refine seg_last ?_);(repeat (go_big_quiet_step (first | (go_at_call 56;with_reducible exact Calls.ext_of (hsize_is hh n HN.out _)))));refine wpQuiet_nil ?_;intro w1 hx)
   have HJ2:=zH (HJ.out _ _ _ HJ6.out (Ab.ext hx hsz6))
   clear l0 l1 l2 l3 l4 l5 hfit
   have HSS:=zH (show pre++ [⟨i,hd0,2,true⟩]=stepsA l top s0 by rw [←hs.out,steps_err hlt (by rw [HW6.out];first | exact h0e | decide),HW6.out])
   have hml:pre++ [⟨i,hd0,2,true⟩] <+:stepsA l top s0:=by rw [HSS.out];exact List.prefix_refl _
   obtain ⟨fn,tmps,assign,body,hy,hRR⟩:=HY.out _ ⟨i,hd0,2,true⟩ _ HJ2.out hml
   dsimp only [hd0]at hy
   have hro:Fence.wide.round=none:=rfl
   clear hml
   go_upto_region 6 with (fail)
   refine (wpIn_wide (n:=4)).1 ?_
   gi_wp2
   refine hRR.mono ?_
   clear hy hRR
   rintro e W3 (⟨rfl,hJ3,hk3⟩ | ⟨rfl,hJx3⟩)
   ·clear hk3
    gi_wp2
    go_wp2_with fail
    (try simp only [Exit.inBlock,Exit.then])
    refine bodyPost_ret (results_none rfl _ _ _) rfl ?_
    exact ⟨⟨_,rfl⟩,.inl ⟨_,HSS.out,hJ3⟩⟩
   ·gi_wp2
    go_wp2_with fail
    (try simp only [Exit.inBlock,Exit.then])
    refine bodyPost_ret (results_none rfl _ _ _) rfl ?_
    exact ⟨⟨_,rfl⟩,.inr ⟨_,by rw [HSS.out];exact List.prefix_refl _,hJx3⟩⟩
  have hd2:decide (top - i < n)=false:=by simpa using hfit
  have HW6:Hid (wkE l top i=0):=zH (by rw [wkE,HE.out,if_pos rfl,HH.out,HN.out,if_neg hfit])
  (refine wp_region_seg (W:=W6) [] [(0,true),(1,true),(2,true),(3,true),(5,true),(6,true),(7,true),(4,false),(8,true),(9,true)] [] (by kernel_rfl) (by kernel_rfl) (by intro c a d v w h;cases d <;>first | exact h | (cases h;done) | cases h.1.1 | cases h.1) (by with_reducible assumption) ?_;simp only [opsOf,List.map_cons,List.map_nil,List.getD_cons_zero,List.getD_cons_succ])
  ((first | refine seg_cons ?_ | refine seg_last ?_);(repeat (go_big_quiet_step (first | (go_at_call 56;with_reducible exact Calls.ext_of (hsize_is hh n HN.out _)))));refine wpQuiet_nil ?_;intro w1 hx)
  have HJ2:=zH (HJ.out _ _ _ HJ6.out (Ab.ext hx hsz6))
  have HX7:=zH (HX6.out.ext hx hV hbs hbt hba)
  have m0:=l0 ⟨_,hx⟩
  have m1:=l1 ⟨_,hx⟩
  have m2:=l2 ⟨_,hx⟩
  have m3:=l3 ⟨_,hx⟩
  have m4:=l4 ⟨_,hx⟩
  have HB7:=zH ((hx.block (lt_of_heap HB6.out)).trans HB6.out)
  have hsz7:U.heap.size≤w1.heap.size:=Nat.le_trans hsz6 hx.size
  have HLD:Hid (¬Led w1 Bout X6):=zH (fun hl=>by have:=HL6.out X6 ((led_ext hx (by omega)).1 hl);omega)
  have HL7:Hid (∀b,Led w1 Bout b→b < w1.heap.size):=zH (fun b hb=>by have:=HL6.out b ((led_ext hx (by omega)).1 hb);have:=hx.size;omega)
  simp only at m0 m1 m2 m3 m4
  have HGO:=zH (show (pre++ [⟨i,hh,0,false⟩])++stepsA l top (i+n)=stepsA l top s0 by rw [←hs.out,steps_go hlt HW6.out,HH.out,HN.out,List.append_assoc];rfl)
  have hml:pre++ [⟨i,hh,0,false⟩] <+:stepsA l top s0:=by rw [←HGO.out];exact List.prefix_append _ _
  obtain ⟨fn,tmps,assign,body,hy,hRR⟩:=HY.out _ ⟨i,hh,0,false⟩ _ HJ2.out hml
  dsimp only at hy
  have hro:Fence.wide.round=none:=rfl
  clear l0 l1 l2 l3 l4 l5 hx hml
  go_upto_region 7 with (fail)
  refine (wpIn_wide (n:=4)).1 ?_
  gi_wp2
  refine hRR.mono ?_
  clear hy hRR
  rintro e W3 (⟨rfl,hJ3,hk3⟩ | ⟨rfl,hJx3⟩)
  ·have hb3:=hk3.kp.cells X6 _ hws1 HB7.out rfl HLD.out
   have HL3:Hid (∀b,Led W3 Bout b→b < W3.heap.size):=zH (fun b hb=>by
    have h5:=hk3.kp.below.size
    rcases hk3.kp.led b hb with h | h
    ·have:=HL7.out b h;omega
    ·omega)
   have HX3:=zH (HX7.out.kp hk3 hbs hbt hba)
   have hsz3:U.heap.size≤W3.heap.size:=by have:=hk3.kp.below.size;omega
   have m0:W3.cell? ⟨X6,0,none⟩=some (.int .i64 hh.k):=by simp [World.cell?,hb3]
   have m1:W3.cell? ⟨X6,1,none⟩=some (.int .i64 hh.f):=by simp [World.cell?,hb3]
   have m2:W3.cell? ⟨X6,2,none⟩=some (.int .i64 hh.r):=by simp [World.cell?,hb3]
   have m3:W3.cell? ⟨X6,3,none⟩=some (.bool hh.m):=by simp [World.cell?,hb3]
   have m4:W3.cell? ⟨X6,4,none⟩=some (.int .i64 hh.c):=by simp [World.cell?,hb3]
   have J3:=zH hJ3
   clear hb3 hk3 hJ3
   gi_wp2
   go_wp2_with fail
   refine (hsize_is hh n HN.out _).mono ?_
   rintro e W4 ⟨rfl,hx4⟩
   have HX4:=zH (HX3.out.ext hx4 hV hbs hbt hba)
   have HJ4:=zH (HJ.out _ _ _ J3.out (Ab.ext hx4 hsz3))
   have hsz4:U.heap.size≤W4.heap.size:=Nat.le_trans hsz3 hx4.size
   have HL4:Hid (∀b,Led W4 Bout b→b < W4.heap.size):=zH (fun b hb=>by
    have h1:=HL3.out b ((led_ext hx4 (by have:=HX3.out.size;omega)).1 hb)
    have:=hx4.size
    omega)
   have hadd:wrap64 (i+n)=i+n:=by have:=HSZ.out;unfold wrap64;omega
   have HSZ2:=HSZ.out
   clear hx4 m0 m1 m2 m3 m4
   go_wp2_with fail
   go_roundw
   case rel=>exact ⟨_,i+n,by omega,by omega,rfl,HGO,HX4,hsz4,HJ4,HL4⟩
   case measure=>simp [intOf];omega
  ·gi_wp2
   go_wp2_with fail
   (try simp only [Exit.inBlock,Exit.then])
   refine bodyPost_ret (results_none rfl _ _ _) rfl ?_
   exact ⟨⟨_,rfl⟩,.inr ⟨_,by rw [←HGO.out];exact List.prefix_append _ _,hJx3⟩⟩
end Go.Proofs.Ytemmjmplhknemaa
