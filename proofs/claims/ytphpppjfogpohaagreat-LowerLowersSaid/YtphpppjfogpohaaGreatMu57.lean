/- Merged by program (merge.py) out of: AwX, LwLw. -/
import Derived.Test.YtphpppjfogpohaaGreatMu56
import Derived.Test.YtphpppjfogpohaaGreatMu26
set_option linter.unusedSimpArgs false
set_option linter.unusedVariables false
set_option maxRecDepth 100000
set_option maxHeartbeats 16000000
namespace Go.Proofs.YtphpppjfogpohaaGreat
open Go.RowKit Go.Shelf
theorem awake20_any (V:World):Calls Tryz.prog 10 #[] V fun e w'=>e= .returned (.bool true)∧Ext V w':=by
 obtain ⟨hg,hb,hc,hr,hx,hs⟩:=aw20_lit V
 have HG:=zH hg
 have HB:=zH hb
 have HC:=zH hc
 have HR:=zH hr
 have HNE:Hid (V.heap.size+1+1≠V.heap.size+1+1+1∧V.heap.size+1≠V.heap.size+1+1+1∧V.heap.size≠V.heap.size+1+1+1+1∧V.heap.size+1+1+1 < V.heap.size+1+1+1+1∧V.heap.size+1+1+1+1 < V.heap.size+1+1+1+1+1∧V.heap.size < V.heap.size+1+1+1∧V.heap.size≤V.heap.size+1+1+1):=zH (by omega)
 have HX:=zH hx
 have HS:=zH hs
 clear hg hb hc hr hx hs
 go_enter Tryz.func10,Tryz.ntmps10
 go_wp2_with fail
 generalize (((((V.alloc (.cells #[.int .i64 4,.int .i64 3,.int .i64 1,.int .i64 2] 23)).alloc (.cells #[.int .u64 1,.int .u64 2] 61)).alloc (.cells #[.int .i64 0,.slice none 0 0,.slice none 0 0,.int .i64 0,.slice none 0 0,.slice (some ⟨V.heap.size+1,0,none⟩) 2 2,.int .i64 1,.slice none 0 0,.slice none 0 0] 66)).alloc (.cells #[.int .i64 2,.int .i64 1] 71)).alloc (.cells #[.slice (some ⟨V.heap.size+1+1,0,none⟩) 3 3,.slice (some ⟨V.heap.size+1+1+1,0,none⟩) 1 1] 27))=W1 at*
 generalize V.heap.size+1+1+1+1+1=b5 at*
 generalize V.heap.size+1+1+1+1=b4 at*
 generalize V.heap.size+1+1+1=b3 at*
 generalize V.heap.size+1+1=b2 at*
 generalize V.heap.size+1=b1 at*
 generalize hb0:V.heap.size=b0 at*
 have HB0:=zH hb0
 clear hb0
 have HOK:Hid (GOk (aw20 b2 b1 (some ⟨b3,0,none⟩) 1 [(2,1)])):=zH (aw20_ok (by simp) (by simp) (by simp) (by simp))
 refine (aw20_lw b2 b1 (some ⟨b3,0,none⟩) 1 W1 HG.out HOK.out).mono ?_
 rintro e w2 ⟨⟨t0,t1,t2,t3,tsn,wA,tws,wc,ttop,tA,ttb,tc,fA,tfr,fc,sA,tsl,sc⟩,rfl,ot,ht,hx2⟩
 simp only at ht
 obtain ⟨rfl,rfl,rfl,rfl,rfl,rfl,rfl,rfl,rfl,rfl⟩:=ht
 have HX2:=zH hx2
 have HB6N:Hid (b5≤w2.heap.size):=zH (by have:=hx2.size;rw [HS.out]at this;exact this)
 have HB2:=zH ((hx2.block (lt_of_heap HB.out)).trans HB.out)
 have HC2:=zH ((hx2.block (lt_of_heap HC.out)).trans HC.out)
 have OT:=zH ot
 have c0:w2.cell? ⟨b4,0,none⟩=some (.slice (some ⟨b2,0,none⟩) 3 3):=by simp [World.cell?,HB2.out]
 have c1:w2.cell? ⟨b4,1,none⟩=some (.slice (some ⟨b3,0,none⟩) 1 1):=by simp [World.cell?,HB2.out]
 have d0:w2.cell? ⟨b0,0,none⟩=some (.int .i64 4):=by simp [World.cell?,HC2.out]
 have d1:w2.cell? ⟨b0,1,none⟩=some (.int .i64 3):=by simp [World.cell?,HC2.out]
 have d2:w2.cell? ⟨b0,2,none⟩=some (.int .i64 1):=by simp [World.cell?,HC2.out]
 have d3:w2.cell? ⟨b0,3,none⟩=some (.int .i64 2):=by simp [World.cell?,HC2.out]
 have hlt:=lt_of_heap HB2.out
 have hlt0:=lt_of_heap HC2.out
 clear hx2 ot
 go_wp2_with fail
 generalize hob:(Obj.cells #[.int .i64 4,.int .i64 3,.int .i64 1,.int .i64 2,.bool false,.slice wA aw20w.length wc,.int .i64 2,.slice tA 1 tc,.slice fA 0 fc,.slice sA 1 sc] 34)=ob
 have hs2:(w2.alloc ob).heap[w2.heap.size]?=some ob:=World.alloc_heap_new w2 ob
 have hx2:=(Ext.refl w2).alloc ob
 replace HX2:=zH (HX2.out.trans hx2)
 have OT2:=zH (OT.out.ext hx2)
 have HS2:=zH hs2
 replace HB2:=zH ((hx2.block (lt_of_heap HB2.out)).trans HB2.out)
 replace HC2:=zH ((hx2.block (lt_of_heap HC2.out)).trans HC2.out)
 clear c0 c1 d0 d1 d2 d3 hlt hlt0 hs2 hx2 HB HC OT
 generalize w2.alloc ob=W2 at*
 generalize w2.heap.size=b6 at*
 refine (aw20_pp b2 b1 (some ⟨b3,0,none⟩) 1 W2 (HG.out.ext HX2.out) HOK.out).mono ?_
 rintro e w3 ⟨A3,k3,rfl,hi3,hx3⟩
 have HX3:=zH (HX2.out.trans hx3)
 have HI3:=zH hi3
 have HB3:=zH ((hx3.block (lt_of_heap HB2.out)).trans HB2.out)
 have HC3:=zH ((hx3.block (lt_of_heap HC2.out)).trans HC2.out)
 have HS3:=zH ((hx3.block (lt_of_heap HS2.out)).trans HS2.out)
 have HR3:=zH ((HX3.out.block (lt_of_heap HR.out)).trans HR.out)
 have OT3:=zH (OT2.out.ext hx3)
 clear hx3 hi3 HB2 HC2 HS2 OT2 HX2 HR
 have HRO:=zH (aw20_own HR3.out)
 have k3:=(cells_of HB3.out).1
 have f3:=(cells_of HB3.out).2
 have l3:=lt_of_heap HB3.out
 have HLE:Hid (b3≤w3.heap.size):=zH (by have:=lt_of_heap HR3.out;omega)
 go_wp2_with (at_builtin;refine wpList_app_lit rfl (.tmp 31) (.tmp 33) 25 rfl valInfo spanCells rfl HRO.out [((0:Int),(0:Int))] 1 _ rfl 2 1 rfl rfl _ rfl (by first | rfl | simp) (by decide) (by decide) HLE.out ?_;intro A6 c6 w6 ho6 hg6 ht6;have HG6:Hid (World.grownBy _ w6 (some b3)):=zH hg6;have HO6:=zH ho6;have hb6:=(HG6.out.block b4 (by have:=HNE.out;simp;omega) (fun e=>by have:=HNE.out;have:=Option.some.inj e;omega)).trans (((Ext.refl w3).alloc (.cells #[.int .i64 0,.int .i64 0] 71)).block (lt_of_heap HB3.out) |>.trans HB3.out);have hc6:=(HG6.out.block b0 (by have:=lt_of_heap HC3.out;simp;omega) (fun e=>by have:=HNE.out;have:=Option.some.inj e;omega)).trans (((Ext.refl w3).alloc (.cells #[.int .i64 0,.int .i64 0] 71)).block (lt_of_heap HC3.out) |>.trans HC3.out);have k6:=(cells_of hb6).1;have f6:=(cells_of hb6).2;have l6:=lt_of_heap hb6;have hb7:(w6.setCell ⟨b4,1,none⟩ (.slice A6 2 c6)).heap[b4]?=some (.cells #[.slice (some ⟨b2,0,none⟩) 3 3,.slice A6 2 c6] 27 (0,0)):=blk_set hb6 _;have hc7:(w6.setCell ⟨b4,1,none⟩ (.slice A6 2 c6)).heap[b0]?=some (.cells #[.int .i64 4,.int .i64 3,.int .i64 1,.int .i64 2] 23 (0,0)):=blk_set_other hc6 _ HNE.out.2.2.1;have HB6:=zH hb6;have HB7:=zH hb7;have HC7:=zH hc7;have k7:=(cells_of hb7).1;have kc:=(cells_of hc7).1;have l7:=lt_of_heap hb7;have lc:=lt_of_heap hc7;clear ho6 hg6 ht6 hb6 hc6 hb7 hc7 k3 f3 l3)
 have HXL:=zH ((Ext.refl w3).alloc (.cells #[.int .i64 0,.int .i64 0] 71))
 have HG7:=zH (aw20_gr (v:= .slice A6 2 c6) HG.out (HX3.out.trans HXL.out) HNE.out.1 HNE.out.2.1 HG6.out HO6.out HB6.out (by simp) (by simp) 1)
 have HI7:=zH (rowAt_box (aw20_far ((HXL.out.block (lt_of_heap HR3.out)).trans HR3.out) (HI3.out.ext HXL.out) HG6.out) (fun x=>⟨_,_,rfl⟩) HB6.out (by intros;simp) (by intros;simp) 1 (.slice A6 2 c6))
 have HS7:=zH (blk_set_other (i:=1) ((HG6.out.block b6 (lt_of_heap ((HXL.out.block (lt_of_heap HS3.out)).trans HS3.out)) (fun e=>by have:=HNE.out;have:=HB6N.out;have:=Option.some.inj e;omega)).trans ((HXL.out.block (lt_of_heap HS3.out)).trans HS3.out)) (.slice A6 2 c6) (show b6≠b4 by have:=HNE.out;have:=HB6N.out;omega))
 have OT7:=zH (((OT3.out.ext HXL.out).grown1 HG6.out (by rw [HS.out];have:=HNE.out;omega)).far (g:=b4) (by rw [HS.out];have:=HNE.out;omega) 1 (.slice A6 2 c6))
 have HX7:=zH (((HRO.out.ext HXL.out).grown HG6.out (by rw [HB0.out];exact HNE.out.2.2.2.2.2.2) (HX.out.trans (HX3.out.trans HXL.out))).setCell (p:=⟨b4,1,none⟩) (by rw [HB0.out];have:=HNE.out;simp only;omega) (.slice A6 2 c6))
 have HOK2:=zH (aw20_ok2 (nb:=b2) (rb:=b1) HO6.out)
 clear k6 f6 l6 k7 kc l7 lc HB6 HG6 HO6 HXL HRO HLE OT3 HR3 HS3 HC3 HB3 HI3 HX3 HG HOK HX
 generalize w6.setCell ⟨b4,1,none⟩ (.slice A6 2 c6)=W4 at*
 refine (aw20_lw2 b2 b1 A6 c6 W4 HG7.out HOK2.out).mono ?_
 rintro e w8 ⟨t2,rfl,hx8⟩
 have hy:=hx8.trans ((Ext.refl w8).alloc (.cells #[.int .i64 t2.c0,.int .i64 t2.c1,.int .i64 t2.c2,.int .i64 t2.c3,.bool t2.snd,.slice t2.wA t2.ws.length t2.wc,.int .i64 t2.top,.slice t2.tA t2.tb.length t2.tc,.slice t2.fA t2.fr.length t2.fc,.slice t2.sA t2.sl.length t2.sc] 34))
 have HG8:=zH (HG7.out.ext hy)
 have HI8:=zH (HI7.out.ext hy)
 have HB8:=zH ((hy.block (lt_of_heap HB7.out)).trans HB7.out)
 have HC8:=zH ((hy.block (lt_of_heap HC7.out)).trans HC7.out)
 have HS8:=zH ((hy.block (lt_of_heap HS7.out)).trans HS7.out)
 rw [←hob]at HS8
 have OT8:=zH (OT7.out.ext hy)
 have HX8:=zH (HX7.out.trans hy)
 have hz8:(w8.alloc (.cells #[.int .i64 t2.c0,.int .i64 t2.c1,.int .i64 t2.c2,.int .i64 t2.c3,.bool t2.snd,.slice t2.wA t2.ws.length t2.wc,.int .i64 t2.top,.slice t2.tA t2.tb.length t2.tc,.slice t2.fA t2.fr.length t2.fc,.slice t2.sA t2.sl.length t2.sc] 34)).heap.size=w8.heap.size+1:=by simp
 have HZ8:=zH hz8
 obtain ⟨g1,rfl, -, -⟩:=own_some OT8.out.t (by simp)
 obtain ⟨g2,rfl, -, -⟩:=own_some OT8.out.s (by simp)
 have c0:=own_cellAt spanCells (by decide) OT8.out.t rfl 0 0 (by simp) _ rfl
 have c1:=own_cellAt slotCells (by decide) OT8.out.s rfl 0 2 (by simp) _ rfl
 simp only [Nat.zero_mul,Nat.zero_add,Nat.add_zero]at c0 c1
 have ks:=(cells_of HS8.out).1
 have ls:=lt_of_heap HS8.out
 clear hx8 hy hz8 HG7 HI7 HB7 HC7 HS7 OT7 HX7
 go_wp2_with fail
 have hw:=row_litb (ys:= [(4:Int),8,5]) (w8.alloc (.cells #[.int .i64 t2.c0,.int .i64 t2.c1,.int .i64 t2.c2,.int .i64 t2.c3,.bool t2.snd,.slice t2.wA t2.ws.length t2.wc,.int .i64 t2.top,.slice t2.tA t2.tb.length t2.tc,.slice t2.fA t2.fr.length t2.fc,.slice t2.sA t2.sl.length t2.sc] 34)) (w8.heap.size+1) HZ8.out #[.int .i64 4,.int .i64 8,.int .i64 5] rfl intCells (by decide) (e:=3)
 have hy:=(Ext.refl (w8.alloc (.cells #[.int .i64 t2.c0,.int .i64 t2.c1,.int .i64 t2.c2,.int .i64 t2.c3,.bool t2.snd,.slice t2.wA t2.ws.length t2.wc,.int .i64 t2.top,.slice t2.tA t2.tb.length t2.tc,.slice t2.fA t2.fr.length t2.fc,.slice t2.sA t2.sl.length t2.sc] 34))).alloc (.cells #[.int .i64 4,.int .i64 8,.int .i64 5] 3)
 have HI9:=zH (HI8.out.ext hy)
 have HX9:=zH (HX8.out.trans hy)
 have HG9:=zH (HG8.out.ext hy)
 have HB9:=zH ((hy.block (lt_of_heap HB8.out)).trans HB8.out)
 have HC9:=zH ((hy.block (lt_of_heap HC8.out)).trans HC8.out)
 have HS9:=zH ((hy.block (lt_of_heap HS8.out)).trans HS8.out)
 have OT9:=zH (OT8.out.ext hy)
 have HW9:=zH hw
 clear hw hy c0 c1 ks ls HI8 HX8 HG8 HB8 HC8 HS8 OT8
 generalize (w8.alloc (.cells #[.int .i64 t2.c0,.int .i64 t2.c1,.int .i64 t2.c2,.int .i64 t2.c3,.bool t2.snd,.slice t2.wA t2.ws.length t2.wc,.int .i64 t2.top,.slice t2.tA t2.tb.length t2.tc,.slice t2.fA t2.fr.length t2.fc,.slice t2.sA t2.sl.length t2.sc] 34)).alloc (.cells #[.int .i64 4,.int .i64 8,.int .i64 5] 3)=W9 at*
 generalize w8.heap.size+1=b9 at*
 refine (ints_is A3 (some ⟨b9,0,none⟩) k3 3 [4,8,5] [4,8,5] true (by decide) W9 (by decide) (by decide) HI9.out HW9.out).mono ?_
 rintro e w10 ⟨rfl,hx⟩
 replace HX9:=zH (HX9.out.trans hx)
 replace HG9:=zH (HG9.out.ext hx)
 replace HB9:=zH ((hx.block (lt_of_heap HB9.out)).trans HB9.out)
 replace HC9:=zH ((hx.block (lt_of_heap HC9.out)).trans HC9.out)
 replace HS9:=zH ((hx.block (lt_of_heap HS9.out)).trans HS9.out)
 replace OT9:=zH (OT9.out.ext hx)
 have kb:=(cells_of HB9.out).1
 have kc:=(cells_of HC9.out).1
 have lb:=lt_of_heap HB9.out
 have lc:=lt_of_heap HC9.out
 clear hx HI9 HW9
 go_wp2_with fail
 clear kb kc lb lc
 refine (aw20_ff b2 b1 A6 c6 w10 HG9.out HOK2.out).mono ?_
 rintro e w11 ⟨rfl,hx⟩
 replace HX9:=zH (HX9.out.trans hx)
 replace HS9:=zH ((hx.block (lt_of_heap HS9.out)).trans HS9.out)
 replace OT9:=zH (OT9.out.ext hx)
 have ks:=(cells_of HS9.out).1
 have ls:=lt_of_heap HS9.out
 clear hx HG9 HB9 HC9
 go_wp2_with fail
 clear ks ls
 refine (stcheck_s _ 0 aw20_ck w11 OT9.out.at ⟨show aw20w.length≤98304 by decide,by simp,by simp,by simp⟩ ⟨show ∀z∈aw20w,0≤z∧z < 18446744073709551616 by decide,by simp,by simp⟩).mono ?_
 rintro e w12 ⟨rfl,hx⟩
 replace HX9:=zH (HX9.out.trans hx)
 clear hx
 go_wp2_with fail
 go_returns
 exact ⟨rfl,HX9.out⟩
theorem lw_both {a b n:StD} (h:eqvS a n=true) (h2:eqvS b n=true):eqvS a b=true:=by
 rw [eqvS_iff]at h h2⊢
 simp [h,h2]
theorem lw_le {a n:StD} (h:eqvS a n=true) (hn:StLe n):StLe a:=by
 obtain ⟨-, -, -,h1,h2,h3,h4⟩:=eqvS_iff.1 h
 exact ⟨by rw [h1];exact hn.w,by rw [h2];exact hn.t,by rw [h3];exact hn.f,by rw [h4];exact hn.s⟩
section
variable {c0 c1 c2 c3 : Int}
theorem lwRun_tb {sn:Bool}:∀(l:List Int) (s t:LwS),lwRun c0 c1 c2 c3 sn s l=some t→t.tb.length≤s.tb.length+l.length
 | [],s,t,h=>by
  injection h with h
  subst h
  simp
 | n::l,s,t,h=>by
  simp only [lwRun]at h
  cases hs:lwStep c0 c1 c2 c3 sn s n with
  | none=>rw [hs]at h;cases h
  | some v=>
   rw [hs]at h
   have h1:=lwRun_tb l v t h
   have h2:=step_tb hs
   rw [List.length_cons]
   omega
theorem lwRun_sn {d:Int} (hd:halfA c0 c1 c2 c3 true=halfA c0 c1 c2 c3 false+d):∀(l:List Int) (s t:LwS),t.top=s.top+d→t.u=s.u→((lwRun c0 c1 c2 c3 true t l).isSome=(lwRun c0 c1 c2 c3 false s l).isSome)
 | [],s,t,h,h2=>rfl
 | n::l,s,t,h,h2=>by
  have e1:lwRun c0 c1 c2 c3 true t (n::l)=match lwStep c0 c1 c2 c3 true t n with | none=>none | some v=>lwRun c0 c1 c2 c3 true v l:=rfl
  have e2:lwRun c0 c1 c2 c3 false s (n::l)=match lwStep c0 c1 c2 c3 false s n with | none=>none | some v=>lwRun c0 c1 c2 c3 false v l:=rfl
  rw [e1,e2]
  unfold lwStep
  rw [h,h2,hd]
  by_cases hb:smallB c0 c1 c2 c3 n=true
  ·rw [if_pos hb,if_pos hb]
   by_cases h3:halfA c0 c1 c2 c3 false+halfS c0 c1 c2 c3 < s.top+n
   ·rw [if_pos h3,if_pos (by omega)]
   ·rw [if_neg h3,if_neg (by omega)]
    exact lwRun_sn hd l _ _ (by simp only;omega) rfl
  ·rw [if_neg hb,if_neg hb]
   by_cases h3:largeS c0 c1 c2 c3 < s.u+n
   ·rw [if_pos h3,if_pos h3]
   ·rw [if_neg h3,if_neg h3]
    exact lwRun_sn hd l _ _ rfl rfl
theorem layE_sn (G:GraphD) (sn:Bool):layE c0 c1 c2 c3 false G=layE c0 c1 c2 c3 sn G:=by
 cases sn with
 | false=>rfl
 | true=>
  have h:=lwRun_sn (c0:=c0) (c1:=c1) (c2:=c2) (c3:=c3) (d:=halfA c0 c1 c2 c3 true - halfA c0 c1 c2 c3 false) (by omega) (G.ns.map sizeN) (lwS0 c0 c1 c2 c3 false) (lwS0 c0 c1 c2 c3 true) (by simp only [lwS0];omega) rfl
  unfold layE lwAll
  cases h1:lwRun c0 c1 c2 c3 true (lwS0 c0 c1 c2 c3 true) (G.ns.map sizeN) <;>cases h2:lwRun c0 c1 c2 c3 false (lwS0 c0 c1 c2 c3 false) (G.ns.map sizeN) <;>first | rfl | (rw [h1,h2]at h;cases h)
theorem lwSt_le {sn:Bool} {G:GraphD} (hn:G.ns.length≤1000):StLe (lwSt c0 c1 c2 c3 sn G):=by
 by_cases h:layE c0 c1 c2 c3 sn G=0
 ·obtain ⟨hc,hR,hl,ha⟩:=lay_ok h
  have hw:wordsZ c0 c1 c2 c3=2*c0+c1:=by simp [wordsZ,hc]
  have ht:=lwRun_tb _ _ _ ha
  simp only [cfgB,decide_eq_true_eq]at hc
  rw [lwSt,if_pos h]
  refine ⟨?_,?_,?_,?_⟩
  ·show (lwW _ _ _).length≤_
   rw [lwW_len,List.length_replicate,hw]
   omega
  ·show (layS c0 c1 c2 c3 sn G).tb.length≤_
   simp [lwS0]at ht
   omega
  ·show (frL _ _ _).length≤_
   unfold frL
   split <;>simp
  ·show (lwSl _ _ _ _).length≤_
   rw [lwSl_len (Nat.le_refl _) (by omega)]
   omega
 ·rw [lwSt,if_neg h]
  exact ⟨by simp,by simp,by simp,by simp⟩
theorem fits_is (sn:Bool) (G:GraphD) (b:Bool) (hb:(layE c0 c1 c2 c3 sn G==0)=b) (V:World) (hG:GraphAt V G) (oG:GOk G):Calls Tryz.prog 17 #[.agg #[.int .i64 (c0),.int .i64 (c1),.int .i64 (c2),.int .i64 (c3)],.agg #[.slice G.nA G.ns.length G.ncap,.slice G.rA G.rs.length G.rcap]] V fun e w'=>e= .returned (.bool b)∧Ext V w':=by
 rw [←hb,←layE_sn G sn]
 exact fits_any c0 c1 c2 c3 G V hG oG
theorem rlay_is (sn:Bool) (G:GraphD) (er:Int) (s:LwS) (he:layE c0 c1 c2 c3 sn G=er) (hs:layS c0 c1 c2 c3 sn G=s) (V:World) (hG:GraphAt V G) (oG:GOk G):Calls Tryz.prog 14 #[.agg #[.int .i64 (c0),.int .i64 (c1),.int .i64 (c2),.int .i64 (c3)],.bool sn,.agg #[.slice G.nA G.ns.length G.ncap,.slice G.rA G.rs.length G.rcap]] V fun e w'=>
  ∃pA pc tA nt tc fA nf fc,e= .returned (.tuple #[.agg #[.slice pA s.pl.length pc,.int .i64 s.top,.slice tA nt tc,.slice fA nf fc],.int .i64 er])∧IntsAt w' pA s.pl∧Ext V w':=by
 refine (reflay_any c0 c1 c2 c3 sn G V hG oG).mono ?_
 rintro e w' ⟨pA,pc,tA,tc,fA,fc,rfl,h1, -, -,hx⟩
 rw [hs]at h1
 exact ⟨pA,pc,tA,_,tc,fA,_,fc,by rw [he,hs],own_ints h1,hx⟩
end
theorem lowerLowers_any (c0 c1 c2 c3:Int) (sn:Bool) (G:GraphD) (V:World) (hG:GraphAt V G) (oG:GraphOk G):
  Calls Tryz.prog 3 #[.agg #[.int .i64 (c0),.int .i64 (c1),.int .i64 (c2),.int .i64 (c3)],.bool sn,.agg #[.slice G.nA G.ns.length G.ncap,.slice G.rA G.rs.length G.rcap]] V fun e w'=>e= .returned (.bool true)∧Ext V w':=by
 have hx0:=((Ext.refl V).alloc (.cells #[.int .i64 c0,.int .i64 c1,.int .i64 c2,.int .i64 c3] 23)).alloc (.cells #[.slice G.nA G.ns.length G.ncap,.slice G.rA G.rs.length G.rcap] 27)
 have hC:=(pers_new V #[.int .i64 c0,.int .i64 c1,.int .i64 c2,.int .i64 c3] 23 _ rfl).re ((Ext.refl _).alloc (.cells #[.slice G.nA G.ns.length G.ncap,.slice G.rA G.rs.length G.rcap] 27))
 have hB:=pers_new (V.alloc (.cells #[.int .i64 c0,.int .i64 c1,.int .i64 c2,.int .i64 c3] 23)) #[.slice G.nA G.ns.length G.ncap,.slice G.rA G.rs.length G.rcap] 27 (V.heap.size+1) (by simp)
 have HG:Pers _ (fun w=>GraphAt w G):=fun w k=>hG.ext (hx0.trans k)
 have HX:=zH hx0
 have HOG:=zH oG
 obtain ⟨b,hb⟩:∃b,largeG G=b:=⟨_,rfl⟩
 have HL:=zH hb
 clear hx0 hb hG oG
 have k0:=(cells_of hC.here).1
 have k1:=(cells_of hB.here).1
 have q1:=lt_of_heap hB.here
 have q0:=lt_of_heap hC.here
 go_enter Tryz.func3,Tryz.ntmps3
 go_wp2_with fail
 clear k0 k1 q0 q1
 generalize (V.alloc (.cells #[.int .i64 c0,.int .i64 c1,.int .i64 c2,.int .i64 c3] 23)).alloc (.cells #[.slice G.nA G.ns.length G.ncap,.slice G.rA G.rs.length G.rcap] 27)=W at*
 generalize V.heap.size+1=B1 at*
 generalize V.heap.size=B0 at*
 refine (large_is G b HL.out W HG.here HOG.out).mono ?_
 rintro e w1 ⟨rfl,hx⟩
 (replace hC:=hC.re hx;replace hB:=hB.re hx;replace HG:=HG.re hx;replace HX:=zH (HX.out.trans hx))
 clear hx
 cases b
 rotate_left
 ·go_wp2_with fail
  refine (awake20_any _).mono ?_
  rintro e w2 ⟨rfl,hx⟩
  replace HX:=zH (HX.out.trans hx)
  clear hx
  go_wp2_with fail
  go_returns
  exact ⟨rfl,HX.out⟩
 by_cases h0:1000 < c0
 ·have g0:decide ((1000:Int) < c0)=true:=by simpa using h0
  have k0:=(cells_of hC.here).1
  have q0:=lt_of_heap hC.here
  clear h0
  go_wp2_with fail
  refine (awake20_any _).mono ?_
  rintro e w2 ⟨rfl,hx⟩
  replace HX:=zH (HX.out.trans hx)
  clear hx
  go_wp2_with fail
  go_returns
  exact ⟨rfl,HX.out⟩
 have g0:decide ((1000:Int) < c0)=false:=by simpa using h0
 by_cases h1:1000 < c1
 ·have g1:decide ((1000:Int) < c1)=true:=by simpa using h1
  have k0:=(cells_of hC.here).1
  have q0:=lt_of_heap hC.here
  clear h0 h1
  go_wp2_with fail
  refine (awake20_any _).mono ?_
  rintro e w2 ⟨rfl,hx⟩
  replace HX:=zH (HX.out.trans hx)
  clear hx
  go_wp2_with fail
  go_returns
  exact ⟨rfl,HX.out⟩
 have g1:decide ((1000:Int) < c1)=false:=by simpa using h1
 clear h0 h1
 have HGK:Hid (GOk G):=zH ⟨HOG.out,MidG.of HL.out⟩
 obtain ⟨er,he⟩:∃x,layE c0 c1 c2 c3 sn G=x:=⟨_,rfl⟩
 obtain ⟨s,hs⟩:∃x,layS c0 c1 c2 c3 sn G=x:=⟨_,rfl⟩
 obtain ⟨n,hn⟩:∃x,lwSt c0 c1 c2 c3 sn G=x:=⟨_,rfl⟩
 obtain ⟨q,hq⟩:∃x,(er==0)=x:=⟨_,rfl⟩
 have HE:=zH he
 have HS:=zH hs
 have HN:=zH hn
 have HQ:Hid ((layE c0 c1 c2 c3 sn G==0)=q):=zH (by rw [he];exact hq)
 have HNL:Hid (StLe n):=zH (by rw [←hn];exact lwSt_le HGK.out.2.1)
 have HPL:Hid (s.pl.length≤1000):=zH (by
  rw [←hs]
  by_cases h:layE c0 c1 c2 c3 sn G=0
  ·rw [lay_len h];exact HGK.out.2.1
  ·rw [layS,if_neg h];simp)
 clear he hs hn
 have k0:=(cells_of hC.here).1
 have k1:=(cells_of hB.here).1
 have q1:=lt_of_heap hB.here
 have q0:=lt_of_heap hC.here
 go_wp2_with fail
 clear k0 k1 q0 q1 g0 g1
 have Z:=lower_any c0 c1 c2 c3 sn G w1 HG.here HGK.out
 rw [HE.out,HN.out]at Z
 refine Z.mono ?_
 clear Z
 rintro e w2 ⟨t,rfl,ho,hv,hx⟩
 (replace hC:=hC.re hx;replace hB:=hB.re hx;replace HG:=HG.re hx;replace HX:=zH (HX.out.trans hx))
 have HT:=ho.at.pers
 have HTV:=zH hv
 have hy:=(Ext.refl w2).alloc (.cells #[.int .i64 t.c0,.int .i64 t.c1,.int .i64 t.c2,.int .i64 t.c3,.bool t.snd,.slice t.wA t.ws.length t.wc,.int .i64 t.top,.slice t.tA t.tb.length t.tc,.slice t.fA t.fr.length t.fc,.slice t.sA t.sl.length t.sc] 34)
 have hA:=pers_new w2 #[.int .i64 t.c0,.int .i64 t.c1,.int .i64 t.c2,.int .i64 t.c3,.bool t.snd,.slice t.wA t.ws.length t.wc,.int .i64 t.top,.slice t.tA t.tb.length t.tc,.slice t.fA t.fr.length t.fc,.slice t.sA t.sl.length t.sc] 34 _ rfl
 have k0:=(cells_of hC.here).1
 have k1:=(cells_of hB.here).1
 have q1:=lt_of_heap hB.here
 have q0:=lt_of_heap hC.here
 clear hx ho hv
 go_wp2_with fail
 clear k0 k1 q0 q1
 (replace hC:=hC.re hy;replace hB:=hB.re hy;replace HG:=HG.re hy;replace HX:=zH (HX.out.trans hy);replace HT:=HT.re hy)
 clear hy
 generalize w2.alloc (.cells #[.int .i64 t.c0,.int .i64 t.c1,.int .i64 t.c2,.int .i64 t.c3,.bool t.snd,.slice t.wA t.ws.length t.wc,.int .i64 t.top,.slice t.tA t.tb.length t.tc,.slice t.fA t.fr.length t.fc,.slice t.sA t.sl.length t.sc] 34)=W2 at*
 generalize w2.heap.size=B2 at*
 have Z:=reflower_any c0 c1 c2 c3 sn G W2 HG.here HGK.out
 rw [HE.out,HN.out]at Z
 refine Z.mono ?_
 clear Z
 rintro e w3 ⟨t2,rfl,ho,hv,hx⟩
 (replace hC:=hC.re hx;replace hB:=hB.re hx;replace HG:=HG.re hx;replace HX:=zH (HX.out.trans hx);replace HT:=HT.re hx;replace hA:=hA.re hx)
 have HT2:=ho.at.pers
 have HTV2:=zH hv
 have hy:=(Ext.refl w3).alloc (.cells #[.int .i64 t2.c0,.int .i64 t2.c1,.int .i64 t2.c2,.int .i64 t2.c3,.bool t2.snd,.slice t2.wA t2.ws.length t2.wc,.int .i64 t2.top,.slice t2.tA t2.tb.length t2.tc,.slice t2.fA t2.fr.length t2.fc,.slice t2.sA t2.sl.length t2.sc] 34)
 have hA2:=pers_new w3 #[.int .i64 t2.c0,.int .i64 t2.c1,.int .i64 t2.c2,.int .i64 t2.c3,.bool t2.snd,.slice t2.wA t2.ws.length t2.wc,.int .i64 t2.top,.slice t2.tA t2.tb.length t2.tc,.slice t2.fA t2.fr.length t2.fc,.slice t2.sA t2.sl.length t2.sc] 34 _ rfl
 have k0:=(cells_of hC.here).1
 have k1:=(cells_of hB.here).1
 have q1:=lt_of_heap hB.here
 have q0:=lt_of_heap hC.here
 clear hx ho hv
 go_wp2_with fail
 clear k0 k1 q0 q1
 (replace hC:=hC.re hy;replace hB:=hB.re hy;replace HG:=HG.re hy;replace HX:=zH (HX.out.trans hy);replace HT:=HT.re hy;replace HT2:=HT2.re hy;replace hA:=hA.re hy)
 clear hy
 generalize w3.alloc (.cells #[.int .i64 t2.c0,.int .i64 t2.c1,.int .i64 t2.c2,.int .i64 t2.c3,.bool t2.snd,.slice t2.wA t2.ws.length t2.wc,.int .i64 t2.top,.slice t2.tA t2.tb.length t2.tc,.slice t2.fA t2.fr.length t2.fc,.slice t2.sA t2.sl.length t2.sc] 34)=W3 at*
 generalize w3.heap.size=B3 at*
 have Z:=places_any c0 c1 c2 c3 sn G W3 HG.here HGK.out
 rw [HE.out,HS.out]at Z
 refine Z.mono ?_
 clear Z
 rintro e w4 ⟨A1,cap1,rfl,hl,hx⟩
 (replace hC:=hC.re hx;replace hB:=hB.re hx;replace HG:=HG.re hx;replace HX:=zH (HX.out.trans hx);replace HT:=HT.re hx;replace HT2:=HT2.re hx;replace hA:=hA.re hx;replace hA2:=hA2.re hx)
 have HI1:=pers_row hl
 have k0:=(cells_of hC.here).1
 have k1:=(cells_of hB.here).1
 have q1:=lt_of_heap hB.here
 have q0:=lt_of_heap hC.here
 clear hx hl
 go_wp2_with fail
 clear k0 k1 q0 q1
 refine (rlay_is sn G er s HE.out HS.out w4 HG.here HGK.out).mono ?_
 rintro e w5 ⟨A2,cap2,tA,nt,tc,fA,nf,fc,rfl,hl,hx⟩
 (replace hC:=hC.re hx;replace hB:=hB.re hx;replace HG:=HG.re hx;replace HX:=zH (HX.out.trans hx);replace HT:=HT.re hx;replace HT2:=HT2.re hx;replace hA:=hA.re hx;replace hA2:=hA2.re hx;replace HI1:=HI1.re hx)
 have HI2:=pers_row hl
 have hy:=(Ext.refl w5).alloc (.cells #[.slice A2 s.pl.length cap2,.int .i64 s.top,.slice tA nt tc,.slice fA nf fc] 42)
 have hD:=pers_new w5 #[.slice A2 s.pl.length cap2,.int .i64 s.top,.slice tA nt tc,.slice fA nf fc] 42 _ rfl
 have k0:=(cells_of hA.here).1
 have k1:=(cells_of hA2.here).1
 have q1:=lt_of_heap hA2.here
 have q0:=lt_of_heap hA.here
 clear hx hl
 go_wp2_with fail
 clear k0 k1 q0 q1
 (replace hC:=hC.re hy;replace hB:=hB.re hy;replace HG:=HG.re hy;replace HX:=zH (HX.out.trans hy);replace HT:=HT.re hy;replace HT2:=HT2.re hy;replace HI1:=HI1.re hy;replace HI2:=HI2.re hy)
 clear hy
 generalize w5.alloc (.cells #[.slice A2 s.pl.length cap2,.int .i64 s.top,.slice tA nt tc,.slice fA nf fc] 42)=W5 at*
 generalize w5.heap.size=B5 at*
 have HSM:=zH (lw_both HTV.out HTV2.out)
 have Z:=refssame_any t t2 W5 HT.here HT2.here (lw_le HTV.out HNL.out) (lw_le HTV2.out HNL.out)
 rw [HSM.out]at Z
 refine Z.mono ?_
 clear Z
 rintro e w6 ⟨rfl,hx⟩
 (replace hC:=hC.re hx;replace hB:=hB.re hx;replace hD:=hD.re hx;replace HG:=HG.re hx;replace HX:=zH (HX.out.trans hx);replace HI1:=HI1.re hx;replace HI2:=HI2.re hx)
 have k0:=(cells_of hD.here).1
 have q0:=lt_of_heap hD.here
 clear hx
 go_wp2_with fail
 clear k0 q0
 refine (ints_is A1 A2 cap1 cap2 s.pl s.pl true (by simp) w6 (by have:=HPL.out;omega) (by have:=HPL.out;omega) HI1.here HI2.here).mono ?_
 rintro e w7 ⟨rfl,hx⟩
 (replace hC:=hC.re hx;replace hB:=hB.re hx;replace HG:=HG.re hx;replace HX:=zH (HX.out.trans hx))
 have k0:=(cells_of hC.here).1
 have k1:=(cells_of hB.here).1
 have q1:=lt_of_heap hB.here
 have q0:=lt_of_heap hC.here
 clear hx
 go_wp2_with fail
 clear k0 k1 q0 q1
 refine (fits_is sn G q HQ.out w7 HG.here HGK.out).mono ?_
 rintro e w8 ⟨rfl,hx⟩
 (replace HX:=zH (HX.out.trans hx))
 clear hx
 cases q
 all_goals
  go_wp2_with fail
  refine (awake20_any _).mono ?_
  rintro e w9 ⟨rfl,hx⟩
  (replace HX:=zH (HX.out.trans hx))
  clear hx
  go_wp2_with fail
  go_returns
  exact ⟨rfl,HX.out⟩
theorem lowerLowers_fin {v0 v2:Value} {b:Bool} {w:World} (h0:∃s l t m:Int,v0= .agg #[.int .i64 (s),.int .i64 (l),.int .i64 (t),.int .i64 (m)]) (h2:IsGraph w v2):Calls Tryz.prog 3 #[v0,.bool b,v2] w fun e w'=>e= .returned (.bool true)∧Ext w w':=by
 obtain ⟨c0,c1,c2,c3,rfl⟩:=h0
 obtain ⟨G,rfl,hG,oG⟩:=h2
 exact lowerLowers_any c0 c1 c2 c3 b G w hG oG
end Go.Proofs.YtphpppjfogpohaaGreat
