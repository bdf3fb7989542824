/- Merged by program (merge.py) out of: LowV, LowX, LowW, LowY. -/
import Derived.Test.YtphpppjfogpohaaGreatMx55
import Derived.Test.YtphpppjfogpohaaGreatMx21
import Derived.Test.YtphpppjfogpohaaGreatMx42
set_option linter.unusedSimpArgs false
set_option linter.unusedVariables false
set_option maxRecDepth 100000
set_option maxHeartbeats 16000000
namespace Go.Proofs.YtphpppjfogpohaaGreat
open Go.RowKit Go.Shelf
structure LwV (W0:World) (T L:Nat) (A:Option Addr) (cap:Nat) (pl:List Int) (s:StD) (wr:World):Prop where
 st:StOwn W0.heap.size wr s
 tb:wr.heap[T]?=some (.cells #[.int .i64 s.c0,.int .i64 s.c1,.int .i64 s.c2,.int .i64 s.c3,.bool s.snd,.slice s.wA s.ws.length s.wc,.int .i64 s.top,.slice s.tA s.tb.length s.tc,.slice s.fA s.fr.length s.fc,.slice s.sA s.sl.length s.sc] 34 (0,0))
 lb:wr.heap[L]?=some (.cells #[.slice A pl.length cap] 38 (0,0))
 pl:Own 3 1 intC wr W0.heap.size (.slice A pl.length cap) pl
 ext:Ext W0 wr
section
variable {W0 wr w' : World} {T L g : Nat} {A : Option Addr} {cap : Nat} {pl : List Int} {s : StD}
theorem LwV.grow (h:LwV W0 T L A cap pl s wr) (hx:Ext wr w'):LwV W0 T L A cap pl s w':=
 ⟨h.st.ext hx,(hx.block (lt_of_heap h.tb)).trans h.tb,(hx.block (lt_of_heap h.lb)).trans h.lb,h.pl.ext hx,h.ext.trans hx⟩
theorem LwV.setW (h:LwV W0 T L A cap pl s wr) (hA:s.wA=some ⟨g,0,none⟩) (k:Nat) (z:Int):LwV W0 T L A cap pl {s with ws:=s.ws.set k z} (wr.setCell ⟨g,k,none⟩ (.int .u64 z)):=by
 have hw:=h.st.w
 rw [hA]at hw
 obtain ⟨cur,hc⟩:=own_heap hw
 have hg:=(own_lt hw (g:=g) rfl).1
 have nT:T≠g:=fun e=>by have:=h.tb;rw [e,hc]at this;simp at this
 have nL:L≠g:=fun e=>by have:=h.lb;rw [e,hc]at this;simp at this
 refine ⟨h.st.setW hA k z,?_,blk_set_other h.lb _ nL,h.pl.setOther hc (by decide),h.ext.setCell hg _⟩
 rw [blk_set_other h.tb _ nT]
 simp only [List.length_set]
theorem LwV.setWs (h:LwV W0 T L A cap pl s wr) (hA:s.wA=some ⟨g,0,none⟩):∀(ys:List Int) (k:Nat),LwV W0 T L A cap pl {s with ws:=putW s.ws k ys} (wr.setCells g k (ys.map (Value.int .u64))):=by
 intro ys
 induction ys generalizing s wr with
 | nil=>intro k;exact h
 | cons y ys ih=>intro k;exact ih (h.setW hA k y) hA (k+1)
theorem LwV.setSl (h:LwV W0 T L A cap pl s wr) (hA:s.sA=some ⟨g,0,none⟩) (k:Nat) (hk:k < s.sl.length) (hz:s.sl[k]=(false,0,0)) (z:Int):
  LwV W0 T L A cap pl {s with sl:=s.sl.set k (true,0,z)} (((wr.setCell ⟨g,k*3,none⟩ (.bool true)).setCell ⟨g,k*3+1,none⟩ (.int .i64 0)).setCell ⟨g,k*3+2,none⟩ (.int .u64 z)):=by
 have hs:=h.st.s
 rw [hA]at hs
 obtain ⟨cur,hc⟩:=own_heap hs
 have hg:=(own_lt hs (g:=g) rfl).1
 have nT:T≠g:=fun e=>by have:=h.tb;rw [e,hc]at this;simp at this
 have nL:L≠g:=fun e=>by have:=h.lb;rw [e,hc]at this;simp at this
 have a1:=h.st.setS hA k 0 hk (by decide) (true,0,0) (.bool true) (by rw [hz];rfl)
 have a2:=a1.setS (g:=g) hA k 1 (by simpa using hk) (by decide) (true,0,0) (.int .i64 0) (by simp [slotC])
 have a3:=a2.setS (g:=g) hA k 2 (by simpa using hk) (by decide) (true,0,z) (.int .u64 z) (by simp [slotC])
 simp only [Nat.add_zero,List.set_set]at a3
 have b1:=h.pl.setOther (i:=k*3) (u:= .bool true) hc (by decide)
 have hc1:=blk_set (i:=k*3) hc (.bool true)
 have b2:=b1.setOther (i:=k*3+1) (u:= .int .i64 0) hc1 (by decide)
 have hc2:=blk_set (i:=k*3+1) hc1 (.int .i64 0)
 have b3:=b2.setOther (i:=k*3+2) (u:= .int .u64 z) hc2 (by decide)
 refine ⟨a3,?_,blk_set_other (blk_set_other (blk_set_other h.lb _ nL) _ nL) _ nL,b3,((h.ext.setCell hg _).setCell hg _).setCell hg _⟩
 rw [blk_set_other (blk_set_other (blk_set_other h.tb _ nT) _ nT) _ nT]
 simp only [List.length_set]
theorem LwV.other (h:LwV W0 T L A cap pl s wr) (hA:s.wA=some ⟨g,0,none⟩) {H:Nat} {cs:Array Value} {t:TypeId} {r:Nat×Nat} (hb:wr.heap[H]?=some (.cells cs t r)) (ht:t≠61):H≠g:=fun e=>by
 have hw:=h.st.w
 rw [hA]at hw
 obtain ⟨cur,hc⟩:=own_heap hw
 rw [e,hc]at hb
 simp only [Option.some.injEq,Obj.cells.injEq]at hb
 exact ht hb.2.1.symm
end
theorem own_tb {α:Type} {e:TypeId} {n:Nat} {f:α→List Value} {B T:Nat} {v:Value} {xs:List α} {w:World} (h:Own e n f w B v xs) {cs:Array Value} {t:TypeId} {r:Nat×Nat} (hb:w.heap[T]?=some (.cells cs t r)) (hne:t≠e) (u0 u1 u2 u3:Value):
  Own e n f ((((w.setCell ⟨T,4,none⟩ u0).setCell ⟨T,6,none⟩ u1).setCell ⟨T,7,none⟩ u2).setCell ⟨T,8,none⟩ u3) B v xs:=by
 have n1:=(h.ne_block hb hne).symm
 repeat (first | with_reducible exact h | with_reducible refine Own.setNe ?_ n1)
theorem LwV.start {W w:World} {T L:Nat} {A:Option Addr} {cap n:Nat} {pl:List Int} {t0 t1 t2 t3 top:Int} {sn b0:Bool} {wA:Option Addr} {ws:List Int} {wc:Nat} {tA:Option Addr} {tb:List (Int×Int)} {tc:Nat} {fA:Option Addr} {fr:List (Int×Int)} {fc:Nat} {sA:Option Addr} {sl:List (Bool×Int×Int)} {sc:Nat} {z6 z7 z8:Value}
  (hT:w.heap[T]?=some (.cells #[.int .i64 t0,.int .i64 t1,.int .i64 t2,.int .i64 t3,.bool b0,.slice wA ws.length wc,z6,z7,z8,.slice sA sl.length sc] 34 (0,0)))
  (hL:w.heap[L]?=some (.cells #[.slice A n cap] 38 (0,0))) (hn:pl.length=n) (hw:Own 61 1 u64C w W.heap.size (.slice wA ws.length wc) ws) (ht:OwnS w W.heap.size (.slice tA tb.length tc) tb) (hf:OwnS w W.heap.size (.slice fA fr.length fc) fr)
  (hs:Own 73 3 slotC w W.heap.size (.slice sA sl.length sc) sl) (hp:Own 3 1 intC w W.heap.size (.slice A n cap) pl) (hx:Ext W w) (hlo:W.heap.size≤T):
  LwV W T L A cap pl ⟨t0,t1,t2,t3,sn,wA,ws,wc,top,tA,tb,tc,fA,fr,fc,sA,sl,sc⟩ ((((w.setCell ⟨T,4,none⟩ (.bool sn)).setCell ⟨T,6,none⟩ (.int .i64 top)).setCell ⟨T,7,none⟩ (.slice tA tb.length tc)).setCell ⟨T,8,none⟩ (.slice fA fr.length fc)):=by
 subst hn
 have nL:L≠T:=fun e=>by rw [e,hT]at hL;simp at hL
 have h1:=blk_set (i:=4) hT (.bool sn)
 have h2:=blk_set (i:=6) h1 (.int .i64 top)
 have h3:=blk_set (i:=7) h2 (.slice tA tb.length tc)
 have h4:=blk_set (i:=8) h3 (.slice fA fr.length fc)
 exact ⟨⟨own_tb hw hT (by decide) _ _ _ _,own_tb ht hT (by decide) _ _ _ _,own_tb hf hT (by decide) _ _ _ _,own_tb hs hT (by decide) _ _ _ _⟩,h4,blk_set_other (blk_set_other (blk_set_other (blk_set_other hL _ nL) _ nL) _ nL) _ nL,own_tb hp hT (by decide) _ _ _ _,(((hx.setCell hlo _).setCell hlo _).setCell hlo _).setCell hlo _⟩
theorem lrun_copy (w:World) (ty:TypeId) (b o dl dc:Nat) (a:Addr) (sl sc:Nat) (cs:List Value) (hn:cs.length=Nat.min sl dl)
  (hsrc:∀j v,cs[j]?=some v→w.cell? (a.add j)=some v) (hc:∀j,j < cs.length→(w.cell? ⟨b,o+j,none⟩).isSome=true) (hf:∀j,j < cs.length→w.frozen? ⟨b,o+j,none⟩=false) (h1:∀v∈cs,v.oneCell'=true):
  (Builtin.copy_ #[30,30] ty #[.slice (some ⟨b,o,none⟩) dl dc,.slice (some a) sl sc]).run Tryz.prog w= .ok (goInt (Nat.min sl dl)) (w.setCells b o cs):=by
 have hl:=run_loadCells_list (P:=Tryz.prog) w a cs hsrc
 have hst:=run_storeCells_cells (P:=Tryz.prog) b o cs 0 w (by simpa using hc) (by simpa using hf) h1
 obtain ⟨i,z,hi,_,hz,_,_⟩:=(u64Info).inf
 simp only [Nat.add_zero]at hst
 simp [Builtin.copy_,run_underlying Tryz.underlying30,Builtin.lenOf,Builtin.firstCells,sizeOf,typeInfo,hi,hz,←hn,hl,hst]
theorem lrun_copy_none (w:World) (ty:TypeId) (D:Option Addr) (dl dc:Nat) (sA:Option Addr) (sc:Nat):
  (Builtin.copy_ #[30,30] ty #[.slice D dl dc,.slice sA 0 sc]).run Tryz.prog w= .ok (goInt 0) w:=by
 obtain ⟨i,z,hi,_,hz,_,_⟩:=(u64Info).inf
 have hl:=fun a=>run_loadCells_list (P:=Tryz.prog) w a [] (by simp)
 simp only [List.length_nil]at hl
 cases D <;>cases sA <;>simp [Builtin.copy_,run_underlying Tryz.underlying30,Builtin.lenOf,Builtin.firstCells,sizeOf,typeInfo,hi,hz,hl,storeCells]
theorem retLow_no {V w':World} {c0 c1 c2 c3 k:Int} {sn:Bool} {G:GraphD} (h:layE c0 c1 c2 c3 sn G=k) (hk:k≠0) (hx:Ext V w'):RetNew V (lwSt c0 c1 c2 c3 sn G) (layE c0 c1 c2 c3 sn G) (.returned (.tuple #[.agg #[.int .i64 0,.int .i64 0,.int .i64 0,.int .i64 0,.bool false,.slice none 0 0,.int .i64 0,.slice none 0 0,.slice none 0 0,.slice none 0 0],.int .i64 k])) w':=by
 subst h
 unfold lwSt
 rw [if_neg hk]
 exact ⟨⟨0,0,0,0,false,none,[],0,0,none,[],0,none,[],0,none,[],0⟩,rfl,⟨Own.nil _ _ _ _ _,Own.nil _ _ _ _ _,Own.nil _ _ _ _ _,Own.nil _ _ _ _ _⟩,by simp [eqvS],hx⟩
theorem lower_any (c0 c1 c2 c3:Int) (sn:Bool) (G:GraphD) (V:World) (hG:GraphAt V G) (oG:GOk G):Calls Tryz.prog 11 #[.agg #[.int .i64 (c0),.int .i64 (c1),.int .i64 (c2),.int .i64 (c3)],.bool sn,.agg #[.slice G.nA G.ns.length G.ncap,.slice G.rA G.rs.length G.rcap]] V (RetNew V (lwSt c0 c1 c2 c3 sn G) (layE c0 c1 c2 c3 sn G)):=by
 obtain ⟨nA,ncap,ns,rA,rcap,rs⟩:=G
 have hx0:=(((Ext.refl V).alloc (.cells #[.int .i64 c0,.int .i64 c1,.int .i64 c2,.int .i64 c3] 23)).alloc (.cells #[.slice nA ns.length ncap,.slice rA rs.length rcap] 27)).alloc (.cells #[.int .i64 0,.int .i64 0,.int .i64 0,.int .i64 0,.bool false,.slice none 0 0,.int .i64 0,.slice none 0 0,.slice none 0 0,.slice none 0 0] 34)
 have hC:=(pers_new V #[.int .i64 c0,.int .i64 c1,.int .i64 c2,.int .i64 c3] 23 _ rfl).re (((Ext.refl _).alloc (.cells #[.slice nA ns.length ncap,.slice rA rs.length rcap] 27)).alloc (.cells #[.int .i64 0,.int .i64 0,.int .i64 0,.int .i64 0,.bool false,.slice none 0 0,.int .i64 0,.slice none 0 0,.slice none 0 0,.slice none 0 0] 34))
 have hB:=(pers_new (V.alloc (.cells #[.int .i64 c0,.int .i64 c1,.int .i64 c2,.int .i64 c3] 23)) #[.slice nA ns.length ncap,.slice rA rs.length rcap] 27 (V.heap.size+1) (by simp)).re ((Ext.refl _).alloc (.cells #[.int .i64 0,.int .i64 0,.int .i64 0,.int .i64 0,.bool false,.slice none 0 0,.int .i64 0,.slice none 0 0,.slice none 0 0,.slice none 0 0] 34))
 have hR:=pers_new ((V.alloc (.cells #[.int .i64 c0,.int .i64 c1,.int .i64 c2,.int .i64 c3] 23)).alloc (.cells #[.slice nA ns.length ncap,.slice rA rs.length rcap] 27)) #[.int .i64 0,.int .i64 0,.int .i64 0,.int .i64 0,.bool false,.slice none 0 0,.int .i64 0,.slice none 0 0,.slice none 0 0,.slice none 0 0] 34 (V.heap.size+1+1) (by simp)
 have HG:Pers _ (fun w=>GraphAt w ⟨nA,ncap,ns,rA,rcap,rs⟩):=fun w k=>hG.ext (hx0.trans k)
 have HX:=zH hx0
 have HOG:=zH oG
 have hnl:ns.length≤1000:=oG.2.1
 have hrl:rs.length≤1000:=oG.2.2
 have HVR:Hid (V.heap.size≤V.heap.size+1+1):=zH (by omega)
 clear hx0 hG oG
 go_enter Tryz.func11,Tryz.ntmps11
 go_wp2_with fail
 generalize ((V.alloc (.cells #[.int .i64 c0,.int .i64 c1,.int .i64 c2,.int .i64 c3] 23)).alloc (.cells #[.slice nA ns.length ncap,.slice rA rs.length rcap] 27)).alloc (.cells #[.int .i64 0,.int .i64 0,.int .i64 0,.int .i64 0,.bool false,.slice none 0 0,.int .i64 0,.slice none 0 0,.slice none 0 0,.slice none 0 0] 34)=W at*
 generalize V.heap.size+1+1=R at*
 generalize V.heap.size+1=S2 at*
 generalize hS:V.heap.size=S at*
 have HS:=zH hS
 clear hS
 refine (lay_any c0 c1 c2 c3 sn ⟨nA,ncap,ns,rA,rcap,rs⟩ W HG.here HOG.out).mono ?_
 rintro e w1 (⟨he,rfl,hx⟩ | ⟨he,X,tA,tc,fA,fc,A,cap,rfl,hg,ho,hx⟩)
 ·obtain ⟨k,hk⟩:∃k,layE c0 c1 c2 c3 sn ⟨nA,ncap,ns,rA,rcap,rs⟩=k:=⟨_,rfl⟩
  have HK:=zH hk
  have HX1:=zH (HX.out.trans hx)
  have HKN:=zH (show k≠0 from by rw [←hk];exact he)
  have hy:=(Ext.refl w1).alloc (.cells #[.slice none 0 0] 38)
  have hR1:=hR.at (hx.trans hy)
  have k1:=(cells_of hR1).1
  have f1:=(cells_of hR1).2
  have d0:(k !=0)=true:=by have:=HKN.out;simpa using this
  have HY:=zH hy
  rw [hk]
  clear he hk hx hR1 hy
  go_wp2_with fail
  ((try simp only [Exit.inBlock,Exit.then]);refine bodyPost_ret (v:= .tuple #[.agg #[.int .i64 0,.int .i64 0,.int .i64 0,.int .i64 0,.bool false,.slice none 0 0,.int .i64 0,.slice none 0 0,.slice none 0 0,.slice none 0 0],.int .i64 k]) (by simp only [results,Tryz.results11];go_simp) rfl ?_)
  have hz:=retLow_no HK.out HKN.out (ext10x (HX1.out.trans HY.out) (X:=R) (by have:=HS.out;have:=HVR.out;omega) (.int .i64 0) (.int .i64 0) (.int .i64 0) (.int .i64 0) (.bool false) (.slice none 0 0) (.int .i64 0) (.slice none 0 0) (.slice none 0 0) (.slice none 0 0))
  exact hz
 ·have L:=zH (LayOk.of he)
  have HE:=zH he
  have HLN:=zH (lay_len he)
  obtain ⟨h1,h2,h3,h4,h5,h6⟩:=cfg_parts (sn:=sn) L.out.cfg
  have HC0:=zH h1
  have HWZ:=zH h6
  have HNEW:Hid (newS c0 c1 c2 c3=⟨c0,c1,c2,c3,false,none,List.replicate (wordsZ c0 c1 c2 c3).toNat 0,0,0,none,[],0,none,newFr c0 c1 c2 c3,0,none,List.replicate c2.toNat (false,0,0),0⟩∧newE c0 c1 c2 c3=0):=zH (by
   rw [newS,newE,L.out.cfg];exact ⟨rfl,rfl⟩)
  have HX1:=zH (HX.out.trans hx)
  have HW1:=zH hx
  have HGR:=zH hg
  have HO:=zH ho
  have hy:=(Ext.refl w1).alloc (.cells #[.slice A ns.length cap] 38)
  have hL:=pers_new w1 #[.slice A ns.length cap] 38 _ rfl
  have k1:=(cells_of (hC.at (hx.trans hy))).1
  have HY:=zH (hx.trans hy)
  have HGY:=zH (hg.ext hy)
  have HOY:=zH (ho.ext hy)
  clear he h1 h2 h3 h4 h5 h6 hx hg ho hy
  go_wp2_with fail
  generalize w1.alloc (.cells #[.slice A ns.length cap] 38)=w2 at*
  generalize w1.heap.size=Lb at*
  refine (stnew_any c0 c1 c2 c3 w2).mono ?_
  rintro e w3 ⟨t,rfl,ho,hv,hx⟩
  rw [HNEW.out.1]at hv
  obtain ⟨⟨a1,a2,a3,a4⟩,a5,a6,a7,a8,a9,a10⟩:=eqvS_iff.1 hv
  obtain ⟨t0,t1,t2,t3,tsn,wA,ws,wc,top,tA0,tb0,tc0,fA0,fr0,fc0,sA,sl,sc⟩:=t
  simp only at a1 a2 a3 a4 a5 a6 a7 a8 a9 a10
  subst a1 a2 a3 a4 a5 a6 a8 a9
  have HWS:=zH a7
  have HSL:=zH a10
  rw [HNEW.out.2]
  obtain ⟨fr0n,hfn⟩:∃n,(newFr t0 t1 t2 t3).length=n:=⟨_,rfl⟩
  have HOW:=zH ho.w
  have HOS:=zH ho.s
  have hy:=(Ext.refl w3).alloc (.cells #[.int .i64 t0,.int .i64 t1,.int .i64 t2,.int .i64 t3,.bool false,.slice wA ws.length wc,.int .i64 0,.slice tA0 0 tc0,.slice fA0 fr0n fc0,.slice sA sl.length sc] 34)
  have hT:=pers_new w3 #[.int .i64 t0,.int .i64 t1,.int .i64 t2,.int .i64 t3,.bool false,.slice wA ws.length wc,.int .i64 0,.slice tA0 0 tc0,.slice fA0 fr0n fc0,.slice sA sl.length sc] 34 _ rfl
  replace HOW:=zH (HOW.out.ext hy)
  replace HOS:=zH (HOS.out.ext hy)
  have HTW:=zH (show W.heap.size≤w3.heap.size∧W.heap.size≤w2.heap.size from ⟨(HY.out.trans hx).size,HY.out.size⟩)
  replace HY:=zH (HY.out.trans (hx.trans hy))
  replace HGY:=zH (HGY.out.ext (hx.trans hy))
  replace HOY:=zH (HOY.out.ext (hx.trans hy))
  (replace hL:=hL.re (hx.trans hy))
  clear hv ho hx a7 a10 k1
  simp only [hfn]
  clear hfn hy
  go_wp2_with fail
  generalize w3.alloc (.cells #[.int .i64 t0,.int .i64 t1,.int .i64 t2,.int .i64 t3,.bool false,.slice wA ws.length wc,.int .i64 0,.slice tA0 0 tc0,.slice fA0 fr0n fc0,.slice sA sl.length sc] 34)=w4 at*
  generalize w3.heap.size=Tb at*
  obtain ⟨ss,hss⟩:∃x,layS t0 t1 t2 t3 sn ⟨nA,ncap,ns,rA,rcap,rs⟩=x:=⟨_,rfl⟩
  have HSS:=zH hss
  rw [hss]at HGY HOY HLN
  obtain ⟨fr,hfr⟩:∃x,frL (largeA t0 t1 t2 t3) (largeS t0 t1 t2 t3) ss.u=x:=⟨_,rfl⟩
  have HFR:=zH hfr
  have hX:=pers_blk HGY.out.blk
  have HGT:=zH HGY.out.tb
  have HGF:=zH HGY.out.fr
  rw [hfr]at hX HGF
  clear hss hfr HGY HGR HO
  have hyd:=(Ext.refl w4).drew
  have hGP:BoxK X #[.int .i64 t0,.int .i64 t1,.int .i64 t2,.int .i64 t3,.int .i64 (halfA t0 t1 t2 t3 sn),.int .i64 (halfS t0 t1 t2 t3),.int .i64 ss.top,.slice tA ss.tb.length tc,.slice fA fr.length fc] 79 w4.drew:=hX.at hyd
  have gB:=hGP.cells
  have HXT:Hid (X≠Tb):=zH (fun e=>by have h1:=hX.here;have h2:=hT.here;rw [e,h2]at h1;simp at h1)
  clear hX
  (replace hT:=hT.re hyd;replace hL:=hL.re hyd)
  replace HY:=zH (HY.out.trans hyd)
  replace HOW:=zH (HOW.out.ext hyd)
  replace HOS:=zH (HOS.out.ext hyd)
  replace HOY:=zH (HOY.out.ext hyd)
  replace HGT:=zH (HGT.out.ext hyd)
  replace HGF:=zH (HGF.out.ext hyd)
  (refine wp_region_gp (w:=w4) (fun w'=>∃u:KeptOf (w4).drew (BoxK X #[.int .i64 t0,.int .i64 t1,.int .i64 t2,.int .i64 t3,.int .i64 (halfA t0 t1 t2 t3 sn),.int .i64 (halfS t0 t1 t2 t3),.int .i64 ss.top,.slice tA ss.tb.length tc,.slice fA fr.length fc] 79),w'=u.1) (.rd [0,1,2,3,4,5,6,7,8,9,10,11,12,13] (.one 14 (.rd [15] (.one 16 (.rd [17] (.one 18 (.rd [19] .tl))))))) [20] (by kernel_rfl) (by kernel_rfl) (by intro c a d v w h;first | exact h | (cases d <;>first | exact h | (cases h;done) | cases h.1.1 | cases h.1)) (kept_mk hGP) ?_)
  (refine gp_rd ?_;(try simp only [opsOf,List.map_cons,List.map_nil,List.getD_cons_zero,List.getD_cons_succ]);(repeat (go_big_quiet_step (fail)));refine wpQuiet_nil ?_)
  clear hyd gB
  have HGP:=zH hGP
  clear hGP
  generalize w4.drew=w5 at*
  have HV0:=zH (LwV.start (top:=ss.top) (sn:=sn) hT.here hL.here HLN.out (HOW.out.mono HTW.out.2) HGT.out HGF.out (HOS.out.mono HTW.out.2) HOY.out HY.out HTW.out.1)
  have k1:=(cells_of hT.here).1
  have f1:=(cells_of hT.here).2
  (refine gp_one (by (try simp only [List.getD_cons_succ,List.getD_cons_zero]);rfl) (by rfl) ?_;intro K hK;go_simp)
  refine hK _ _ _ (fun _ h=>h) (kept_mk (show BoxK X #[.int .i64 t0,.int .i64 t1,.int .i64 t2,.int .i64 t3,.int .i64 (halfA t0 t1 t2 t3 sn),.int .i64 (halfS t0 t1 t2 t3),.int .i64 ss.top,.slice tA ss.tb.length tc,.slice fA fr.length fc] 79 _ from blk_set_other HGP.out _ HXT.out)) ?_
  clear hK K
  (refine gp_rd ?_;(try simp only [opsOf,List.map_cons,List.map_nil,List.getD_cons_zero,List.getD_cons_succ]);(repeat (go_big_quiet_step (fail)));refine wpQuiet_nil ?_)
  (refine gp_one (by (try simp only [List.getD_cons_succ,List.getD_cons_zero]);rfl) (by rfl) ?_;intro K hK;go_simp)
  refine hK _ _ _ (fun _ h=>h) (kept_mk (show BoxK X #[.int .i64 t0,.int .i64 t1,.int .i64 t2,.int .i64 t3,.int .i64 (halfA t0 t1 t2 t3 sn),.int .i64 (halfS t0 t1 t2 t3),.int .i64 ss.top,.slice tA ss.tb.length tc,.slice fA fr.length fc] 79 _ from blk_set_other (blk_set_other HGP.out _ HXT.out) _ HXT.out)) ?_
  clear hK K
  (refine gp_rd ?_;(try simp only [opsOf,List.map_cons,List.map_nil,List.getD_cons_zero,List.getD_cons_succ]);(repeat (go_big_quiet_step (fail)));refine wpQuiet_nil ?_)
  (refine gp_one (by (try simp only [List.getD_cons_succ,List.getD_cons_zero]);rfl) (by rfl) ?_;intro K hK;go_simp)
  refine hK _ _ _ (fun _ h=>h) (kept_mk (show BoxK X #[.int .i64 t0,.int .i64 t1,.int .i64 t2,.int .i64 t3,.int .i64 (halfA t0 t1 t2 t3 sn),.int .i64 (halfS t0 t1 t2 t3),.int .i64 ss.top,.slice tA ss.tb.length tc,.slice fA fr.length fc] 79 _ from blk_set_other (blk_set_other (blk_set_other HGP.out _ HXT.out) _ HXT.out) _ HXT.out)) ?_
  clear hK K
  (refine gp_rd ?_;(try simp only [opsOf,List.map_cons,List.map_nil,List.getD_cons_zero,List.getD_cons_succ]);(repeat (go_big_quiet_step (fail)));refine wpQuiet_nil ?_)
  (refine gp_tl ?_;(try simp only [opsOf,List.map_cons,List.map_nil,List.getD_cons_zero,List.getD_cons_succ]))
  have k2:=(cells_of (hB.at HY.out)).1
  have HBL:=zH (show Tb < w5.heap.size∧Lb < w5.heap.size from ⟨lt_of_heap hT.here,lt_of_heap hL.here⟩)
  clear HOW HOS HOY HGT HGF HGP
  go_wp2_with fail
  generalize (((w5.setCell ⟨Tb,4,none⟩ (.bool sn)).setCell ⟨Tb,6,none⟩ (.int .i64 ss.top)).setCell ⟨Tb,7,none⟩ (.slice tA ss.tb.length tc)).setCell ⟨Tb,8,none⟩ (.slice fA fr.length fc)=W6 at*
  have hwl:(ws.length:Int)=wordsZ t0 t1 t2 t3:=by
   have h1:=HC0.out
   have h2:=HWZ.out
   rw [HWS.out,List.length_replicate]
   omega
  have HWL:=zH (show 0 < ws.length∧ws.length≤100000 from by have h1:=HC0.out;have h2:=HWZ.out;omega)
  obtain ⟨g,rfl,hgb,hgl⟩:=own_some HV0.out.st.w (by intro e;have:=HWL.out;simp only at e;rw [e]at this;simp at this)
  have HSLN:Hid (sl.length=t2.toNat∧0 < sl.length∧rs.length≤sl.length∧sl.length≤1024):=zH (by
   have h1:=HC0.out
   have h2:=L.out.slots
   simp only at h2
   rw [HSL.out,List.length_replicate]
   omega)
  obtain ⟨gs,rfl, -, -⟩:=own_some HV0.out.st.s (by intro e;have:=HSLN.out.2.1;simp only at e;rw [e]at this;simp at this)
  have HLK:Hid (∀k,k < ns.length→0≤ss.pl.getD k 0∧ss.pl.getD k 0+1+(ns.getD k default).fields.length+(ns.getD k default).raws.length≤ws.length∧okN (ns.getD k default)=true∧∀v∈(ns.getD k default).fields,okV ns.length v=true):=zH (fun k hk=>by
   have h1:=L.out.at_ (i:=k) hk
   have h2:=L.out.ok (i:=k) hk
   unfold plc at h1
   rw [HSS.out,szs_get hk,(size_right L.out.right (getD_mem (d:=default) hk)).2.2]at h1
   simp only at h1 h2
   exact ⟨h1.1,by rw [hwl];omega,h2.1,h2.2⟩)
  clear hgb hgl hwl k2 HTW
  go_loopw [59] (fun i wr=>∃k:Nat,k≤ns.length∧i= .int .i64 k∧Hid (LwV W Tb Lb A cap ss.pl (⟨t0,t1,t2,t3,sn,some ⟨g,0,none⟩,(lwW ss.pl ((ns.zip ss.pl).take k) ws),wc,ss.top,tA,ss.tb,tc,fA,fr,fc,some ⟨gs,0,none⟩,sl,sc⟩:StD) wr)) (fun i _=>ns.length - (intOf i).toNat)
  case atStart=>exact ⟨0,by omega,rfl,HV0⟩
  case round=>
   obtain ⟨k,hk,rfl,hV⟩:=hrel
   obtain ⟨wq,rfl⟩:∃wq:World,wq=wr:=⟨_,rfl⟩
   have HXW:=zH hV.out.ext
   by_cases hlt:k < ns.length
   rotate_left
   ·obtain rfl:k=ns.length:=by omega
    have k2:=(cells_of (hB.at HXW.out)).1
    have hwf:(ns.zip ss.pl).take ns.length=ns.zip ss.pl:=List.take_of_length_le (by simp;omega)
    obtain ⟨wf,hw⟩:∃x,lwW ss.pl ((ns.zip ss.pl).take ns.length) ws=x:=⟨_,rfl⟩
    have HWF:Hid (wf=lwW ss.pl (ns.zip ss.pl) ws):=zH (by rw [←hw,hwf])
    rw [hw]at hV
    have HV1:Hid (LwV W Tb Lb A cap ss.pl (⟨t0,t1,t2,t3,sn,some ⟨g,0,none⟩,wf,wc,ss.top,tA,ss.tb,tc,fA,fr,fc,some ⟨gs,0,none⟩,(lwSl ss.pl rs sl.length 0),sc⟩:StD) wq):=zH (by
     have e:lwSl ss.pl rs sl.length 0=sl:=by
      simp only [lwSl,List.take_zero,List.map_nil,List.nil_append,Nat.sub_zero]
      rw [HSLN.out.1]
      exact HSL.out.symm
     rw [e]
     exact hV.out)
    clear hlt hk hwf hw hV
    go_wp2_with fail
    clear k2
    go_loopw [120] (fun i wr=>∃m:Nat,m≤rs.length∧i= .int .i64 m∧Hid (LwV W Tb Lb A cap ss.pl (⟨t0,t1,t2,t3,sn,some ⟨g,0,none⟩,wf,wc,ss.top,tA,ss.tb,tc,fA,fr,fc,some ⟨gs,0,none⟩,(lwSl ss.pl rs sl.length m),sc⟩:StD) wr)) (fun i _=>rs.length - (intOf i).toNat)
    case atStart=>exact ⟨0,by omega,rfl,HV1⟩
    case round=>
     obtain ⟨m,hm,rfl,hV⟩:=hrel
     obtain ⟨wo,rfl⟩:∃wo:World,wo=wr:=⟨_,rfl⟩
     clear HV1 HXW
     have hsl:=lwSl_len (pl:=ss.pl) (rs:=rs) (n:=sl.length) (k:=m) hm (by have:=HSLN.out;omega)
     have hTB:=hV.out.tb
     simp only [hsl]at hTB
     by_cases hml:m < rs.length
     rotate_left
     ·obtain rfl:m=rs.length:=by omega
      have k1:=(cells_of hTB).1
      have k3:=(cells_of (hR.at hV.out.ext)).1
      have f3:=(cells_of (hR.at hV.out.ext)).2
      have hRb:=hR.at hV.out.ext
      have hHR:Hid (wo.heap[R]?=some (.cells #[.int .i64 0,.int .i64 0,.int .i64 0,.int .i64 0,.bool false,.slice none 0 0,.int .i64 0,.slice none 0 0,.slice none 0 0,.slice none 0 0] 34 (0,0))):=zH hRb
      clear hml hm hTB hRb
      go_wp2_with fail
      ((try simp only [Exit.inBlock,Exit.then]);refine bodyPost_ret (v:= .tuple #[.agg #[.int .i64 t0,.int .i64 t1,.int .i64 t2,.int .i64 t3,.bool sn,.slice (some ⟨g,0,none⟩) wf.length wc,.int .i64 ss.top,.slice tA ss.tb.length tc,.slice fA fr.length fc,.slice (some ⟨gs,0,none⟩) sl.length sc],.int .i64 0]) (by simp only [results,Tryz.results11];go_simp) rfl ?_)
      have hz:=HX.out.size
      have hst:lwSt t0 t1 t2 t3 sn ⟨nA,ncap,ns,rA,rcap,rs⟩=⟨t0,t1,t2,t3,sn,none,wf,0,ss.top,none,ss.tb,0,none,fr,0,none,lwSl ss.pl rs sl.length rs.length,0⟩:=by
       unfold lwSt
       rw [if_pos HE.out,HSS.out,HFR.out,HWF.out,HWS.out,HSLN.out.1]
      have hfin:∀w',StOwn V.heap.size w' (⟨t0,t1,t2,t3,sn,some ⟨g,0,none⟩,wf,wc,ss.top,tA,ss.tb,tc,fA,fr,fc,some ⟨gs,0,none⟩,lwSl ss.pl rs sl.length rs.length,sc⟩:StD)→Ext V w'→RetNew V (lwSt t0 t1 t2 t3 sn ⟨nA,ncap,ns,rA,rcap,rs⟩) (layE t0 t1 t2 t3 sn ⟨nA,ncap,ns,rA,rcap,rs⟩) (.returned (.tuple #[.agg #[.int .i64 t0,.int .i64 t1,.int .i64 t2,.int .i64 t3,.bool sn,.slice (some ⟨g,0,none⟩) wf.length wc,.int .i64 ss.top,.slice tA ss.tb.length tc,.slice fA fr.length fc,.slice (some ⟨gs,0,none⟩) sl.length sc],.int .i64 0])) w':=fun w' ho hx=>by
       rw [HE.out,hst]
       exact ⟨_,by simp only [hsl],ho,by simp [eqvS],hx⟩
      refine hfin _ ⟨?_,?_,?_,?_⟩ (ext10x (HX.out.trans hV.out.ext) (by have:=HS.out;have:=HVR.out;omega) _ _ _ _ _ _ _ _ _ _)
      ·exact own10 (hV.out.st.w.mono hz) hHR.out (by decide) _ _ _ _ _ _ _ _ _ _
      ·exact own10 (hV.out.st.t.mono hz) hHR.out (by decide) _ _ _ _ _ _ _ _ _ _
      ·exact own10 (hV.out.st.f.mono hz) hHR.out (by decide) _ _ _ _ _ _ _ _ _ _
      ·exact own10 (hV.out.st.s.mono hz) hHR.out (by decide) _ _ _ _ _ _ _ _ _ _
     have HML:=zH hml
     have hok:=(right_parts L.out.right).2 _ (getD_mem (d:=((0:Int),(0:Int))) hml)
     obtain ⟨rb,ro,rfl,hcr⟩:=(HG.at hV.out.ext).roots.get (by simp only;omega)
     obtain ⟨e0,e1⟩:=spans_cell hcr hml
     have HSU:=zH (lwSl_succ (pl:=ss.pl) (n:=sl.length) hml (by have:=HSLN.out;omega))
     have mb0:(0:Int)≤(m:Int):=by omega
     have mb1:(m:Int) < (rs.length:Int):=by omega
     have mb2:(m:Int) < (sl.length:Int):=by have:=HSLN.out;omega
     simp only at hok
     obtain ⟨v,hv⟩:∃v,rs.getD m (0,0)=v:=⟨_,rfl⟩
     rw [hv]at e0 e1 hok HSU
     clear hcr hv hml hm
     obtain ⟨vk,vx⟩:=v
     simp only at e0 e1
     have hxv:vk=2→0≤vx∧vx < ss.pl.length:=fun h2=>by
      have:=okV_ref2 hok h2
      rw [HLN.out]
      exact this
     have k2:=(cells_of (hB.at hV.out.ext)).1
     have hy:=(Ext.refl wo).alloc (.cells #[.int .i64 vk,.int .i64 vx] 71)
     have hZ:=pers_new wo #[.int .i64 vk,.int .i64 vx] 71 _ rfl
     have HV4:=zH (hV.out.grow hy)
     have hT4:=(hy.block (lt_of_heap hTB)).trans hTB
     clear hV hy hok hTB
     go_wp2_with fail
     generalize wo.alloc (.cells #[.int .i64 vk,.int .i64 vx] 71)=W9 at*
     generalize wo.heap.size=Zb at*
     have HW:=zH (fun u:ExtOf W9=>lword_any Lb A ss.pl.length cap ss.pl vk vx u.1 rfl ((HV4.out.grow u.2).lb) (own_ints (HV4.out.grow u.2).pl) hxv)
     have l0:=(pers_blk hT4).cells
     have l1:=hZ.cells
     have hs0:Ext W9 W9:=Ext.refl _
     clear e0 e1 k2 hxv
     generalize wordV ss.pl (vk,vx)=wv at*
     (refine wp_region_ord (W:=W9) [(0,true),(1,true),(2,true),(3,true),(4,true),(5,false),(6,true),(7,true)] [] [8] (by kernel_rfl) (by kernel_rfl) (by intro c a d v w h;cases d <;>first | exact h | (cases h;done) | cases h.1.1 | cases h.1) (by with_reducible assumption) ?_;simp only [opsOf,List.map_cons,List.map_nil,List.getD_cons_zero,List.getD_cons_succ];(repeat (go_big_quiet_step (first | (go_at_call 40;with_reducible exact Calls.ext_of (HW.out _)))));refine wpQuiet_nil ?_;intro w1 hx;refine mid_nil ?_)
     have HV5:=zH (HV4.out.grow hx)
     have hk:m < (lwSl ss.pl rs sl.length m).length:=by rw [hsl];have:=HSLN.out;have:=HML.out;omega
     have hz:(lwSl ss.pl rs sl.length m)[m]=(false,0,0):=by
      have:=HML.out
      simp only [lwSl]
      rw [List.getElem_append_right (by simp;omega)]
      simp
     have z0:=own_cellAt slotCells (by decide) HV5.out.st.s rfl m 0 hk (.bool false) (by simp only;rw [hz];rfl)
     have z1:=own_cellAt slotCells (by decide) HV5.out.st.s rfl m 1 hk (.int .i64 0) (by simp only;rw [hz];rfl)
     have z2:=own_cellAt slotCells (by decide) HV5.out.st.s rfl m 2 hk (.int .u64 0) (by simp only;rw [hz];rfl)
     simp only [Nat.add_zero]at z0
     have zf:=own_frozen HV5.out.st.s
     have HV6:=zH (HV5.out.setSl rfl m hk hz wv)
     simp only at HV6
     rw [←HSU.out]at HV6
     have hm4:m≤100000:=by have:=HML.out;omega
     clear l0 l1 hs0 mb0 mb1 mb2 hx HW hk hz hsl HV5 HV4 hT4
     go_wp2_with fail
     go_roundw
     case rel=>exact ⟨m+1,by have:=HML.out;omega,by go_num,HV6⟩
     case measure=>have:=HML.out;simp [intOf];omega
   have HLT:=zH hlt
   obtain ⟨nb,no,rfl,hcn⟩:=(HG.at HXW.out).nodes.row.get (by simp only;omega)
   obtain ⟨d0,d1,d2⟩:=nodes_cell hcn hlt
   have hat:=HLK.out k hlt
   have hN:=(HG.at HXW.out).nodes.each _ (getD_mem (d:=default) hlt)
   have HN:Pers W (fun w=>NodeAt w (ns.getD k default)):=fun w hw=>(HG.at hw).nodes.each _ (getD_mem (d:=default) HLT.out)
   have hzk:(ns.zip ss.pl).take (k+1)=(ns.zip ss.pl).take k++ [(ns.getD k default,ss.pl.getD k 0)]:=by
    have hl:k < (ns.zip ss.pl).length:=by have:=HLN.out;simp;omega
    rw [List.take_add_one,List.getElem?_eq_getElem hl,Option.toList_some,lzip_getElem hl]
   have HNX:Hid (lwW ss.pl ((ns.zip ss.pl).take (k+1)) ws=putW (lwW ss.pl ((ns.zip ss.pl).take k) ws) (ss.pl.getD k 0).toNat (nodeWs ss.pl (ns.getD k default))):=zH (by rw [hzk,lwW_snoc])
   have HWKL:Hid ((lwW ss.pl ((ns.zip ss.pl).take k) ws).length=ws.length):=zH (lwW_len _ _ _)
   obtain ⟨pb,poff,hAe,hcp⟩:=(own_ints hV.out.pl).get (by have:=HLN.out;omega)
   have cp:=ints_cell hcp (k:=k) (by have:=HLN.out;omega)
   have ib0:(0:Int)≤(k:Int):=by omega
   have ib1:(k:Int) < (ns.length:Int):=by omega
   have hLb:=hV.out.lb
   rw [HLN.out,hAe]at hLb
   clear hcn hlt hk hzk hcp hN hAe
   generalize lwW ss.pl ((ns.zip ss.pl).take k) ws=wk at*
   obtain ⟨x,hx⟩:∃x,ns.getD k default=x:=⟨_,rfl⟩
   rw [hx]at HNX hat HN d0 d1 d2
   obtain ⟨p,hp⟩:=Int.eq_ofNat_of_zero_le hat.1
   rw [hp]at HNX hat cp
   rw [Int.toNat_natCast]at HNX
   have HAT:=zH hat
   clear hx hp hat
   obtain ⟨xk,xA,xc,fs,yA,yc,ys⟩:=x
   simp only at d0 d1 d2 HAT
   have k2:=(cells_of (hB.at HXW.out)).1
   have k3:=(cells_of hLb).1
   have hy:=(Ext.refl wq).alloc (.cells #[.int .i64 xk,.slice xA fs.length xc,.slice yA ys.length yc] 66)
   have hH:=blk_new wq #[.int .i64 xk,.slice xA fs.length xc,.slice yA ys.length yc] 66 _ rfl
   have HV1:=zH (hV.out.grow hy)
   have k4:=(cells_of (hy.block (lt_of_heap hLb) |>.trans hLb)).1
   have cp1:=hy.cell cp
   clear hV HXW hLb
   go_wp2_with fail
   generalize wq.alloc (.cells #[.int .i64 xk,.slice xA fs.length xc,.slice yA ys.length yc] 66)=W7 at*
   generalize wq.heap.size=H at*
   clear hy k2 k3 k4 cp cp1 d0 d1 d2
   obtain ⟨u,hu⟩:∃u,hwordZ ⟨xk,fs.length,ys.length,false,0⟩=u:=⟨_,rfl⟩
   obtain ⟨er,her⟩:∃e,herrZ ⟨xk,fs.length,ys.length,false,0⟩=e:=⟨_,rfl⟩
   have HNW:Hid (nodeWs ss.pl ⟨xk,xA,xc,fs,yA,yc,ys⟩=u::(fs.map (wordV ss.pl)++ys)):=zH (by rw [←hu];rfl)
   rw [HNW.out]at HNX
   have HEN:=zH (fun w=>henc_is ⟨xk,fs.length,ys.length,false,0⟩ u er hu her w)
   have hHp:=pers_blk hH
   have hwk:=HWKL.out
   have hal:=HAT.out.2.1
   have hwl:=HWL.out.2
   have ic0:(0:Int)≤(p:Int):=by omega
   have ic1:(p:Int) < (wk.length:Int):=by omega
   have hyd:=(Ext.refl W7).drew
   have hGP:Box2K Tb #[.int .i64 t0,.int .i64 t1,.int .i64 t2,.int .i64 t3,.bool sn,.slice (some ⟨g,0,none⟩) wk.length wc,.int .i64 ss.top,.slice tA ss.tb.length tc,.slice fA fr.length fc,.slice (some ⟨gs,0,none⟩) sl.length sc] 34 H #[.int .i64 xk,.slice xA fs.length xc,.slice yA ys.length yc] 66 W7.drew:=⟨(pers_blk HV1.out.tb).at hyd,hHp.at hyd⟩
   have gB:=hGP.one
   have gC:=hGP.two
   clear hu her ib0 ib1
   (refine wp_region_gp (w:=W7) (fun w'=>∃u:KeptOf (W7).drew (Box2K Tb #[.int .i64 t0,.int .i64 t1,.int .i64 t2,.int .i64 t3,.bool sn,.slice (some ⟨g,0,none⟩) wk.length wc,.int .i64 ss.top,.slice tA ss.tb.length tc,.slice fA fr.length fc,.slice (some ⟨gs,0,none⟩) sl.length sc] 34 H #[.int .i64 xk,.slice xA fs.length xc,.slice yA ys.length yc] 66),w'=u.1) (.rd [0,1,2,3,4,5,6,7,8,9,10,11] (.one 12 (.rd [13,14,15,16] (.one 17 .tl)))) [] (by kernel_rfl) (by kernel_rfl) (by intro c a d v w h;first | exact h | (cases d <;>first | exact h | (cases h;done) | cases h.1.1 | cases h.1)) (kept_mk hGP) ?_)
   (refine gp_rd ?_;(try simp only [opsOf,List.map_cons,List.map_nil,List.getD_cons_zero,List.getD_cons_succ]);(repeat (go_big_quiet_step (fail)));refine wpQuiet_nil ?_)
   generalize W7.drew=WD at*
   (refine gp_one (by (try simp only [List.getD_cons_succ,List.getD_cons_zero]);rfl) (by rfl) ?_;intro K hK;go_simp)
   refine (HEN.out _).mono ?_
   rintro e w1 ⟨rfl,hx1⟩
   refine hK _ _ _ (fun _ h=>h) (kept_mk (hGP.ext hx1)) ?_
   clear hK K
   (refine gp_rd ?_;(try simp only [opsOf,List.map_cons,List.map_nil,List.getD_cons_zero,List.getD_cons_succ]);(repeat (go_big_quiet_step (fail)));refine wpQuiet_nil ?_)
   have hx:=hyd.trans hx1
   have HV2:=zH (HV1.out.grow hx)
   have hH2:=hHp.at hx
   have z0:=own_cellAt u64Cells (by decide) HV2.out.st.w rfl p 0 (by simp only;omega) _ rfl
   simp only [Nat.mul_one,Nat.add_zero]at z0
   obtain ⟨zo,hzo⟩:∃zo,w1.cell? ⟨g,p,none⟩=some zo:=⟨_,z0⟩
   clear z0
   have zf:=own_frozen HV2.out.st.w
   have HV3:=zH (HV2.out.setW rfl p u)
   have hH3:=blk_set_other hH2 (i:=p) (c:=g) (.int .u64 u) (HV2.out.other rfl hH2 (by decide))
   have k4:=(cells_of hH3).1
   have hG3:Box2K Tb _ 34 H #[.int .i64 xk,.slice xA fs.length xc,.slice yA ys.length yc] 66 (w1.setCell ⟨g,p,none⟩ (.int .u64 u)):=⟨blk_set_other (hGP.ext hx1).1 _ (HV2.out.other rfl HV2.out.tb (by decide)),hH3⟩
   clear hwk hal hwl hx hx1 hyd hGP gB gC hHp hH hH2 HV1
   (refine gp_one (by (try simp only [List.getD_cons_succ,List.getD_cons_zero]);rfl) (by rfl) ?_;intro K hK;go_simp)
   refine hK _ _ _ (fun _ h=>h) (kept_mk hG3) ?_
   clear hK K hG3
   (refine gp_tl ?_;(try simp only [opsOf,List.map_cons,List.map_nil,List.getD_cons_zero,List.getD_cons_succ]))
   go_wp2_with fail
   clear hzo zf k4
   generalize w1.setCell ⟨g,p,none⟩ (.int .u64 u)=W8 at*
   go_loopw [88] (fun i wr=>∃j:Nat,j≤fs.length∧i= .int .i64 j∧Hid (LwV W Tb Lb A cap ss.pl (⟨t0,t1,t2,t3,sn,some ⟨g,0,none⟩,(putW wk p (u::(fs.take j).map (wordV ss.pl))),wc,ss.top,tA,ss.tb,tc,fA,fr,fc,some ⟨gs,0,none⟩,sl,sc⟩:StD) wr)∧Hid (wr.heap[H]?=some (.cells #[.int .i64 xk,.slice xA fs.length xc,.slice yA ys.length yc] 66 (0,0)))) (fun i _=>fs.length - (intOf i).toNat)
   case atStart=>exact ⟨0,by omega,rfl,HV3,zH hH3⟩
   case round=>
    obtain ⟨j,hj,rfl,hV,hHr⟩:=hrel
    obtain ⟨wo,rfl⟩:∃wo:World,wo=wr:=⟨_,rfl⟩
    clear HV3 hH3 HV2
    by_cases hjl:j < fs.length
    rotate_left
    ·obtain rfl:j=fs.length:=by omega
     clear hjl hj
     rw [List.take_length]at hV
     go_wp2_with fail
     have hwk:=HWKL.out
     have hal:=HAT.out.2.1
     have hwl:=HWL.out.2
     have hpl:=putW_len (u::fs.map (wordV ss.pl)) wk p
     have hyd:=(Ext.refl wo).drew
     have hTB:=hV.out.tb
     simp only [hpl]at hTB
     have hGP:Box2K Tb #[.int .i64 t0,.int .i64 t1,.int .i64 t2,.int .i64 t3,.bool sn,.slice (some ⟨g,0,none⟩) wk.length wc,.int .i64 ss.top,.slice tA ss.tb.length tc,.slice fA fr.length fc,.slice (some ⟨gs,0,none⟩) sl.length sc] 34 H #[.int .i64 xk,.slice xA fs.length xc,.slice yA ys.length yc] 66 wo.drew:=⟨(pers_blk hTB).at hyd,(pers_blk hHr.out).at hyd⟩
     have gB:=hGP.one
     have gC:=hGP.two
     have ic0:(0:Int)≤(p:Int)+1+(fs.length:Int):=by omega
     have ic1:(p:Int)+1+(fs.length:Int)≤(wk.length:Int):=by omega
     have hcw:wk.length≤wc:=by have:=(own_row hV.out.st.w u64Cells (by decide)).2.2;simp only at this;rw [hpl]at this;exact this
     have ic2:(wk.length:Int)≤(wc:Int):=by omega
     have HV4:=zH (hV.out.grow hyd)
     clear hV hTB
     go_wp2_with fail
     (refine wp_region_gp (w:=wo) (fun w'=>∃u:KeptOf (wo).drew (Box2K Tb #[.int .i64 t0,.int .i64 t1,.int .i64 t2,.int .i64 t3,.bool sn,.slice (some ⟨g,0,none⟩) wk.length wc,.int .i64 ss.top,.slice tA ss.tb.length tc,.slice fA fr.length fc,.slice (some ⟨gs,0,none⟩) sl.length sc] 34 H #[.int .i64 xk,.slice xA fs.length xc,.slice yA ys.length yc] 66),w'=u.1) (.rd [0,1,2,3,4,5,6,7,8,9,10] .tl) [11] (by kernel_rfl) (by kernel_rfl) (by intro c a d v w h;first | exact h | (cases d <;>first | exact h | (cases h;done) | cases h.1.1 | cases h.1)) (kept_mk hGP) ?_)
     (refine gp_rd ?_;(try simp only [opsOf,List.map_cons,List.map_nil,List.getD_cons_zero,List.getD_cons_succ]);(repeat (go_big_quiet_step (fail)));refine wpQuiet_nil ?_)
     generalize wo.drew=WD at*
     (refine gp_tl ?_;(try simp only [opsOf,List.map_cons,List.map_nil,List.getD_cons_zero,List.getD_cons_succ]))
     have ht:((p:Int)+1+(fs.length:Int)).toNat=p+1+fs.length:=by omega
     have HNY:Hid (lwW ss.pl ((ns.zip ss.pl).take (k+1)) ws=putW (putW wk p (u::fs.map (wordV ss.pl))) (p+1+fs.length) ys):=zH (by
      rw [HNX.out,←List.cons_append,putW_app]
      congr 1
      simp
      omega)
     have hk4:k≤100000:=by have:=HLT.out;omega
     clear gB gC hyd
     by_cases hys:ys= []
     ·subst hys
      have HV6:Hid (LwV W Tb Lb A cap ss.pl (⟨t0,t1,t2,t3,sn,some ⟨g,0,none⟩,lwW ss.pl ((ns.zip ss.pl).take (k+1)) ws,wc,ss.top,tA,ss.tb,tc,fA,fr,fc,some ⟨gs,0,none⟩,sl,sc⟩:StD) WD):=zH (by rw [HNY.out];exact HV4.out)
      have hdec:(wc=p+1+fs.length)=True∨(wc=p+1+fs.length)=False:=by
       by_cases h:wc=p+1+fs.length
       ·exact .inl (eq_true h)
       ·exact .inr (eq_false h)
      clear hwk hal hwl hpl hGP ic0 ic1 hcw ic2 ht HV4
      rcases hdec with hw0 | hw0
      all_goals
       refine wpList_copy_run WD rfl (.tmp 112) (.tmp 114) 30 30 rfl _ _ rfl rfl (lrun_copy_none WD _ _ _ _ _ _) ?_
       go_wp2_with fail
       go_roundw
       case rel=>exact ⟨k+1,by have:=HLT.out;omega,by go_num,HV6⟩
       case measure=>have:=HLT.out;simp [intOf];omega
     ·have hyl:0 < ys.length:=List.length_pos_iff.2 hys
      obtain ⟨yb,yo,hyA,hcy⟩:=(HN.at HV4.out.ext).raws.get (by simp only;exact hyl)
      simp only at hyA
      have hfl:∀l:List Int,l.flatMap u64C=l.map (Value.int .u64):=fun l=>by
       induction l with
       | nil=>rfl
       | cons a l ih=>rw [List.flatMap_cons,ih];rfl
      have hrow:=row_cells u64Cells (by decide) (w:=WD) (ad:=⟨yb,yo,none⟩) (ys:=ys) ⟨yb,yo,fun _=>rfl,hcy⟩
      rw [hfl]at hrow
      have HCP:(Builtin.copy_ #[30,30] 3 #[.slice (some ⟨g,p+1+fs.length,none⟩) (ws.length - (p+1+fs.length)) (wc - (p+1+fs.length)),.slice yA ys.length yc]).run Tryz.prog WD= .ok (goInt (Nat.min ys.length (ws.length - (p+1+fs.length)))) (WD.setCells g (p+1+fs.length) (ys.map (Value.int .u64))):=by
       rw [hyA]
       refine lrun_copy WD 3 g (p+1+fs.length) _ _ ⟨yb,yo,none⟩ ys.length yc _ (by rw [List.length_map];exact (Nat.min_eq_left (by omega)).symm) hrow (fun j hj=> ?_) (fun j _=>own_frozen HV4.out.st.w _) (fun v hv=>by obtain ⟨y, -,rfl⟩:=List.mem_map.1 hv;rfl)
       have z0:=own_cellAt u64Cells (by decide) HV4.out.st.w rfl (p+1+fs.length+j) 0 (by simp only;rw [hpl];simp at hj;omega) _ rfl
       simp only [Nat.mul_one,Nat.add_zero]at z0
       rw [z0]
       rfl
      have HV6:Hid (LwV W Tb Lb A cap ss.pl (⟨t0,t1,t2,t3,sn,some ⟨g,0,none⟩,lwW ss.pl ((ns.zip ss.pl).take (k+1)) ws,wc,ss.top,tA,ss.tb,tc,fA,fr,fc,some ⟨gs,0,none⟩,sl,sc⟩:StD) (WD.setCells g (p+1+fs.length) (ys.map (Value.int .u64)))):=zH (by rw [HNY.out];exact HV4.out.setWs rfl ys _)
      have hw0:(wc=p+1+fs.length)=False:=eq_false (by omega)
      refine wpList_copy_run WD rfl (.tmp 112) (.tmp 114) 30 30 rfl _ _ (by first | (show Value.slice _ _ _=_;simp only [hw0,if_false];rfl) | (show Value.slice _ _ _=_;simp [hw0,Addr.add];done) | (show Value.slice _ _ _=_;simp [hw0,Addr.add];rfl)) rfl HCP ?_
      clear hwk hal hwl hpl hGP ic0 ic1 hcw ic2 ht HV4 HCP hrow hfl hcy hyA hyl
      go_wp2_with fail
      go_roundw
      case rel=>exact ⟨k+1,by have:=HLT.out;omega,by go_num,HV6⟩
      case measure=>have:=HLT.out;simp [intOf];omega
    have HJL:=zH hjl
    obtain ⟨fb,fo,rfl,hcf⟩:=(HN.at hV.out.ext).fields.get (by simp only;omega)
    obtain ⟨e0,e1⟩:=spans_cell hcf hjl
    have hok:=HAT.out.2.2.2 _ (getD_mem (d:=((0:Int),(0:Int))) hjl)
    have HSN:Hid (putW wk p (u::(fs.take (j+1)).map (wordV ss.pl))=(putW wk p (u::(fs.take j).map (wordV ss.pl))).set (p+1+j) (wordV ss.pl (fs.getD j (0,0)))):=zH (by
     rw [List.take_add_one,List.getElem?_eq_getElem hjl,Option.toList_some,List.map_append,List.map_singleton,←List.cons_append,putW_snoc,getD_get hjl]
     congr 1
     simp
     omega)
    have jb0:(0:Int)≤(j:Int):=by omega
    have jb1:(j:Int) < (fs.length:Int):=by omega
    clear hcf hjl hj
    obtain ⟨v,hv⟩:∃v,fs.getD j (0,0)=v:=⟨_,rfl⟩
    rw [hv]at e0 e1 hok HSN
    clear hv
    obtain ⟨vk,vx⟩:=v
    simp only at e0 e1
    have hxv:vk=2→0≤vx∧vx < ss.pl.length:=fun h2=>by
     have:=okV_ref2 hok h2
     rw [HLN.out]
     exact this
    have k3:=(cells_of hHr.out).1
    have hy:=(Ext.refl wo).alloc (.cells #[.int .i64 vk,.int .i64 vx] 71)
    have hZ:=pers_new wo #[.int .i64 vk,.int .i64 vx] 71 _ rfl
    have HV4:=zH (hV.out.grow hy)
    have hH4:=(hy.block (lt_of_heap hHr.out)).trans hHr.out
    clear hV hHr hy hok
    go_wp2_with fail
    generalize wo.alloc (.cells #[.int .i64 vk,.int .i64 vx] 71)=W9 at*
    generalize wo.heap.size=Zb at*
    have hpl:=putW_len (u::(fs.take j).map (wordV ss.pl)) wk p
    have HW:=zH (fun u:ExtOf W9=>lword_any Lb A ss.pl.length cap ss.pl vk vx u.1 rfl ((HV4.out.grow u.2).lb) (own_ints (HV4.out.grow u.2).pl) hxv)
    have l0:=(pers_blk HV4.out.tb).cells
    simp only [hpl]at l0
    have l1:=hZ.cells
    have hs0:Ext W9 W9:=Ext.refl _
    have hwk:=HWKL.out
    have hal:=HAT.out.2.1
    have hwl:=HWL.out.2
    have hjl2:=HJL.out
    have ic0:(0:Int)≤(p:Int)+1+(j:Int):=by omega
    have ic1:(p:Int)+1+(j:Int) < (wk.length:Int):=by omega
    clear e0 e1 k3 hxv
    generalize wordV ss.pl (vk,vx)=wv at*
    (refine wp_region_ord (W:=W9) [(0,true),(1,true),(2,true),(3,true),(4,true),(5,true),(6,true),(7,true),(8,false),(9,true)] [] [10] (by kernel_rfl) (by kernel_rfl) (by intro c a d v w h;cases d <;>first | exact h | (cases h;done) | cases h.1.1 | cases h.1) (by with_reducible assumption) ?_;simp only [opsOf,List.map_cons,List.map_nil,List.getD_cons_zero,List.getD_cons_succ];(repeat (go_big_quiet_step (first | (go_at_call 40;with_reducible exact Calls.ext_of (HW.out _)))));refine wpQuiet_nil ?_;intro w1 hx;refine mid_nil ?_)
    have ht:((p:Int)+1+(j:Int)).toNat=p+1+j:=by omega
    have HV5:=zH (HV4.out.grow hx)
    have hH5:=(hx.block (lt_of_heap hH4)).trans hH4
    have z0:=own_cellAt u64Cells (by decide) HV5.out.st.w rfl (p+1+j) 0 (by simp only;rw [hpl];omega) _ rfl
    simp only [Nat.mul_one,Nat.add_zero]at z0
    obtain ⟨zo,hzo⟩:∃zo,w1.cell? ⟨g,p+1+j,none⟩=some zo:=⟨_,z0⟩
    clear z0
    have zf:=own_frozen HV5.out.st.w
    have HV6:=zH (HV5.out.setW rfl (p+1+j) wv)
    have hH6:=blk_set_other hH5 (i:=p+1+j) (c:=g) (.int .u64 wv) (HV5.out.other rfl hH5 (by decide))
    simp only at HV6
    rw [←HSN.out]at HV6
    have HH6:=zH hH6
    have hj4:j≤100000:=by omega
    clear l0 l1 hs0 hwk hal hwl hjl2 ic0 ic1 hx HW hH4 hH5 hH6 hpl HV5 HV4
    go_wp2_with fail
    go_roundw
    case rel=>exact ⟨j+1,by have:=HJL.out;omega,by go_num,HV6,HH6⟩
    case measure=>have:=HJL.out;simp [intOf];omega
end Go.Proofs.YtphpppjfogpohaaGreat
