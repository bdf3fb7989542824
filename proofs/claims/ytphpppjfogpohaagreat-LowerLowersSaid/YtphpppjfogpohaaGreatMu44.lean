/- Merged by program (merge.py) out of: LowR. -/
import Derived.Test.YtphpppjfogpohaaGreatMu42
import Derived.Test.YtphpppjfogpohaaGreatMu43
import Derived.Test.YtphpppjfogpohaaGreatMu30
import Derived.Test.YtphpppjfogpohaaGreatMu4
set_option linter.unusedSimpArgs false
set_option linter.unusedVariables false
set_option maxRecDepth 100000
set_option maxHeartbeats 16000000
namespace Go.Proofs.YtphpppjfogpohaaGreat
open Go.RowKit Go.Shelf
structure GrAt (B X:Nat) (c0 c1 c2 c3:Int) (sn:Bool) (s:LwS) (tA:Option Addr) (tc:Nat) (fA:Option Addr) (fc:Nat) (w:World):Prop where
 blk:w.heap[X]?=some (.cells #[.int .i64 c0,.int .i64 c1,.int .i64 c2,.int .i64 c3,.int .i64 (halfA c0 c1 c2 c3 sn),.int .i64 (halfS c0 c1 c2 c3),.int .i64 s.top,.slice tA s.tb.length tc,.slice fA (frL (largeA c0 c1 c2 c3) (largeS c0 c1 c2 c3) s.u).length fc] 79 (0,0))
 tb:OwnS w B (.slice tA s.tb.length tc) s.tb
 fr:OwnS w B (.slice fA (frL (largeA c0 c1 c2 c3) (largeS c0 c1 c2 c3) s.u).length fc) (frL (largeA c0 c1 c2 c3) (largeS c0 c1 c2 c3) s.u)
 lo:B≤X
theorem GrAt.ext {B X:Nat} {c0 c1 c2 c3:Int} {sn:Bool} {s:LwS} {tA:Option Addr} {tc:Nat} {fA:Option Addr} {fc:Nat} {w w':World} (h:GrAt B X c0 c1 c2 c3 sn s tA tc fA fc w) (hx:Ext w w'):GrAt B X c0 c1 c2 c3 sn s tA tc fA fc w':=
 ⟨(hx.block (lt_of_heap h.blk)).trans h.blk,h.tb.ext hx,h.fr.ext hx,h.lo⟩
theorem GrAt.mono {B B' X:Nat} {c0 c1 c2 c3:Int} {sn:Bool} {s:LwS} {tA:Option Addr} {tc:Nat} {fA:Option Addr} {fc:Nat} {w:World} (h:GrAt B X c0 c1 c2 c3 sn s tA tc fA fc w) (hb:B'≤B):GrAt B' X c0 c1 c2 c3 sn s tA tc fA fc w:=
 ⟨h.blk,h.tb.mono hb,h.fr.mono hb,Nat.le_trans hb h.lo⟩
theorem GrAt.of {B X:Nat} {c0 c1 c2 c3:Int} {sn:Bool} {s:LwS} {tA:Option Addr} {tc:Nat} {fA:Option Addr} {fc:Nat} {w:World} {ha hs top:Int} {tb fr:List (Int×Int)} {n m:Nat} (h1:halfA c0 c1 c2 c3 sn=ha) (h2:halfS c0 c1 c2 c3=hs) (h3:s.top=top) (h4:s.tb=tb) (h5:frL (largeA c0 c1 c2 c3) (largeS c0 c1 c2 c3) s.u=fr) (h6:tb.length=n) (h7:fr.length=m)
  (hb:w.heap[X]?=some (.cells #[.int .i64 c0,.int .i64 c1,.int .i64 c2,.int .i64 c3,.int .i64 ha,.int .i64 hs,.int .i64 top,.slice tA n tc,.slice fA m fc] 79 (0,0)))
  (ht:OwnS w B (.slice tA n tc) tb) (hf:OwnS w B (.slice fA m fc) fr) (hl:B≤X):GrAt B X c0 c1 c2 c3 sn s tA tc fA fc w:=by
 subst h1 h2 h3 h4 h5 h6 h7
 exact ⟨hb,ht,hf,hl⟩
def RetGr (V:World) (c0 c1 c2 c3:Int) (sn:Bool) (e:Ending) (w':World):Prop:=
 ∃X tA tc fA fc,e= .returned (.pointer (some ⟨X,0,none⟩))∧GrAt V.heap.size X c0 c1 c2 c3 sn (lwS0 c0 c1 c2 c3 sn) tA tc fA fc w'∧Ext V w'
theorem newground_any (c0 c1 c2 c3:Int) (sn:Bool) (hc:cfgB c0 c1 c2 c3=true) (V:World):Calls Tryz.prog 86 #[.agg #[.int .i64 (c0),.int .i64 (c1),.int .i64 (c2),.int .i64 (c3)],.bool sn] V (RetGr V c0 c1 c2 c3 sn):=by
 have hx0:=(Ext.refl V).alloc (.cells #[.int .i64 c0,.int .i64 c1,.int .i64 c2,.int .i64 c3] 23)
 have hC:=pers_new V #[.int .i64 c0,.int .i64 c1,.int .i64 c2,.int .i64 c3] 23 _ rfl
 have HX:=zH hx0
 obtain ⟨ha,hha⟩:∃x,halfA c0 c1 c2 c3 sn=x:=⟨_,rfl⟩
 obtain ⟨hs,hhs⟩:∃x,halfS c0 c1 c2 c3=x:=⟨_,rfl⟩
 obtain ⟨la,hla⟩:∃x,largeA c0 c1 c2 c3=x:=⟨_,rfl⟩
 obtain ⟨ls,hls⟩:∃x,largeS c0 c1 c2 c3=x:=⟨_,rfl⟩
 obtain ⟨b,hb⟩:∃b,mayB la ls=b:=⟨_,rfl⟩
 have HHA:=zH hha
 have HHS:=zH hhs
 have HLA:=zH hla
 have HLS:=zH hls
 have HMB:=zH hb
 have HFR:Hid (frL la ls 0=if b then [(la,ls)]else []):=zH (by
  have h2:=hc
  simp only [cfgB,decide_eq_true_eq]at h2
  rw [←hb,←hla,←hls]
  simp only [frL,largeA,largeS,hc,if_true,mayB,decide_eq_true_eq]
  by_cases h0:c1=0
  ·subst h0;simp
  ·rw [if_neg h0,if_pos (by omega),if_pos (by omega)]
   simp)
 clear hha hhs hla hls hb hx0
 go_enter Tryz.func86,Tryz.ntmps86
 go_wp2_with fail
 generalize V.alloc (.cells #[.int .i64 c0,.int .i64 c1,.int .i64 c2,.int .i64 c3] 23)=W at*
 generalize hS:V.heap.size=S at*
 have HS:=zH hS
 clear hS
 have g1:=hC.cells
 have hs0:Ext W W:=Ext.refl _
 (refine wp_region_ord (W:=W) [(0,true),(1,true),(2,true),(3,false),(4,true)] [5] [6] (by kernel_rfl) (by kernel_rfl) (by intro c a d v w h;cases d <;>first | exact h | (cases h;done) | cases h.1.1 | cases h.1) (by with_reducible assumption) ?_;simp only [opsOf,List.map_cons,List.map_nil,List.getD_cons_zero,List.getD_cons_succ];(repeat (go_big_quiet_step (first | (go_at_call 81;with_reducible exact Calls.ext_of (lfrom_is HHA.out HHS.out _)))));refine wpQuiet_nil ?_;intro w1 hx;(repeat (refine mid_step (by rfl) ?_;intro K hK;go_simp;refine hK _ _ zG ?_;clear hK K));refine mid_nil ?_)
 have hy:=hx.alloc (.cells #[.int .i64 c0,.int .i64 c1,.int .i64 c2,.int .i64 c3,.int .i64 ha,.int .i64 hs,.int .i64 0,.slice none 0 0,.slice none 0 0] 79)
 have hB:=pers_new w1 #[.int .i64 c0,.int .i64 c1,.int .i64 c2,.int .i64 c3,.int .i64 ha,.int .i64 hs,.int .i64 0,.slice none 0 0,.slice none 0 0] 79 _ rfl
 have HXX:Hid (S < w1.heap.size):=zH (lt_of_heap (hC.at hx))
 (replace hC:=hC.re hy;replace HX:=zH (HX.out.trans hy))
 clear hx hy g1 hs0
 generalize w1.alloc (.cells #[.int .i64 c0,.int .i64 c1,.int .i64 c2,.int .i64 c3,.int .i64 ha,.int .i64 hs,.int .i64 0,.slice none 0 0,.slice none 0 0] 79)=W2 at*
 generalize w1.heap.size=X at*
 have k1:=(cells_of hB.here).1
 have f1:=(cells_of hB.here).2
 have k2:=(cells_of hC.here).1
 go_wp2_with fail
 have b2:=blk_set (i:=6) hB.here (.int .i64 ha)
 have b3:=blk_set_other (i:=6) hC.here (.int .i64 ha) (c:=X) (by have:=HXX.out;omega)
 have hx3:=HX.out.setCell (p:=⟨X,6,none⟩) (by have:=HXX.out;have:=HS.out;simp only;omega) (.int .i64 ha)
 clear k1 f1 k2 hB hC HX
 generalize W2.setCell ⟨X,6,none⟩ (.int .i64 ha)=W3 at*
 have hB:Pers W3 (fun w=>w.heap[X]?=some (.cells #[.int .i64 c0,.int .i64 c1,.int .i64 c2,.int .i64 c3,.int .i64 ha,.int .i64 hs,.int .i64 ha,.slice none 0 0,.slice none 0 0] 79 (0,0))):=pers_blk b2
 have HX:=zH hx3
 clear b2 b3 hx3
 refine (llarge_is HLA.out HLS.out _).mono ?_
 rintro e w4 ⟨rfl,hx⟩
 (replace hB:=hB.re hx;replace HX:=zH (HX.out.trans hx))
 clear hx
 go_wp2_with fail
 have HBL:=hB
 have hy:=(Ext.refl w4).alloc (.cells #[.int .i64 la,.int .i64 ls] 63)
 have hL:=pers_new w4 #[.int .i64 la,.int .i64 ls] 63 _ rfl
 (replace hB:=hB.re hy;replace HX:=zH (HX.out.trans hy))
 have HXL:Hid (X < w4.heap.size):=zH (lt_of_heap (HBL.here))
 clear hy
 generalize w4.alloc (.cells #[.int .i64 la,.int .i64 ls] 63)=W5 at*
 generalize w4.heap.size=L at*
 refine (may_is la ls b HMB.out _).mono ?_
 rintro e w6 ⟨rfl,hx⟩
 (replace hB:=hB.re hx;replace HX:=zH (HX.out.trans hx);replace hL:=hL.re hx)
 clear hx
 have k1:=(cells_of hL.here).1
 cases b with
 | false=>
  have HF0:Hid (frL la ls 0= []):=zH (by simpa using HFR.out)
  clear k1 HFR
  go_wp2_with fail
  go_returns
  exact ⟨X,none,0,none,0,rfl,GrAt.of (tb:= []) (fr:= []) (n:=0) (m:=0) HHA.out HHS.out HHA.out rfl (by rw [HLA.out,HLS.out];exact HF0.out) rfl rfl hB.here (Own.nil _ _ _ _ _) (Own.nil _ _ _ _ _) (by have:=HXX.out;have:=HS.out;omega),HX.out⟩
 | true=>
  have HF0:Hid (frL la ls 0= [(la,ls)]):=zH (by simpa using HFR.out)
  clear HFR
  have hy:=(Ext.refl w6).alloc (.cells #[.int .i64 la,.int .i64 ls] 63)
  have k2:=(cells_of (hB.at hy)).1
  have f2:=(cells_of (hB.at hy)).2
  have HO0:=Own.lit (B:=V.heap.size) (w:=w6) (e:=63) spanCells [(la,ls)] #[.int .i64 la,.int .i64 ls] rfl 1 rfl (by have:=HX.out.size;exact this) (by simp [maxLen]) w6.heap.size rfl
  have b2:=blk_set (i:=8) (hB.at hy) (.slice (some ⟨w6.heap.size,0,none⟩) 1 1)
  have HO:=zH (Own.setOther (Bo:=X) (i:=8) (u:= .slice (some ⟨w6.heap.size,0,none⟩) 1 1) HO0 (hB.at hy) (by decide))
  have HB:=zH b2
  have HX6:=zH ((HX.out.trans hy).setCell (p:=⟨X,8,none⟩) (by have:=HXX.out;have:=HS.out;simp only;omega) (.slice (some ⟨w6.heap.size,0,none⟩) 1 1))
  clear b2 HO0 hy
  go_wp2_with fail
  go_returns
  exact ⟨X,none,0,_,1,rfl,GrAt.of (tb:= []) (fr:= [(la,ls)]) (n:=0) (m:=1) HHA.out HHS.out HHA.out rfl (by rw [HLA.out,HLS.out];exact HF0.out) rfl rfl HB.out (Own.nil _ _ _ _ _) HO.out (by have:=HXX.out;have:=HS.out;omega),HX6.out⟩
def PutGr (B X:Nat) (c0 c1 c2 c3:Int) (sn:Bool) (s:LwS) (n:Int) (V:World) (e:Ending) (w':World):Prop:=
 (lwStep c0 c1 c2 c3 sn s n=none∧e= .returned (.tuple #[.int .i64 0,.int .i64 9])∧Ext V w')∨
 ∃t p tA tc fA fc,lwStep c0 c1 c2 c3 sn s n=some t∧t.pl=s.pl++ [p]∧e= .returned (.tuple #[.int .i64 p,.int .i64 0])∧GrAt B X c0 c1 c2 c3 sn t tA tc fA fc w'∧Only X V w'
theorem lwput_any {B X:Nat} {c0 c1 c2 c3:Int} {sn:Bool} {s:LwS} {tA:Option Addr} {tc:Nat} {fA:Option Addr} {fc:Nat} (n:Int) (V:World) (hc:cfgB c0 c1 c2 c3=true) (hI:LwI c0 c1 c2 c3 sn s) (hn:1≤n∧n≤10000) (hl:s.tb.length≤1000) (hB:B≤V.heap.size)
  (hg:GrAt B X c0 c1 c2 c3 sn s tA tc fA fc V):Calls Tryz.prog 87 #[.pointer (some ⟨X,0,none⟩),.int .i64 n] V (PutGr B X c0 c1 c2 c3 sn s n V):=by
 have hcb:=hc
 simp only [cfgB,decide_eq_true_eq]at hcb
 have hA1:halfA c0 c1 c2 c3 sn=if sn then c0 else 0:=by simp only [halfA,hc,if_true]
 have hS1:halfS c0 c1 c2 c3=c0:=by simp only [halfS,hc,if_true]
 have hL1:largeA c0 c1 c2 c3=if c1=0 then 0 else 2*c0:=by simp only [largeA,hc,if_true]
 have hL2:largeS c0 c1 c2 c3=c1:=by simp only [largeS,hc,if_true]
 have hab:0≤halfA c0 c1 c2 c3 sn∧halfA c0 c1 c2 c3 sn≤32768∧2≤halfS c0 c1 c2 c3∧halfS c0 c1 c2 c3≤32768:=by rw [hA1,hS1];split <;>omega
 have hlb:0≤largeA c0 c1 c2 c3∧largeA c0 c1 c2 c3≤65536∧0≤largeS c0 c1 c2 c3∧largeS c0 c1 c2 c3≤32768:=by rw [hL1,hL2];split <;>omega
 obtain ⟨i1,i2,i3,i4,i5⟩:=hI
 obtain ⟨g1,g2,g3,g4⟩:=hg
 have HST:Hid (lwStep c0 c1 c2 c3 sn s n=if smallB c0 c1 c2 c3 n then (if halfA c0 c1 c2 c3 sn+halfS c0 c1 c2 c3 < s.top+n then none else some ⟨s.top+n,s.u,s.pl++ [s.top],s.tb⟩)
  else if largeS c0 c1 c2 c3 < s.u+n then none else some ⟨s.top,s.u+n,s.pl++ [largeA c0 c1 c2 c3+s.u],s.tb++ [(largeA c0 c1 c2 c3+s.u,n)]⟩):=zH rfl
 clear hA1 hS1 hL1 hL2 hc hcb
 obtain ⟨b,hb⟩:∃b,smallB c0 c1 c2 c3 n=b:=⟨_,rfl⟩
 have HSM:=zH hb
 have HT5:=zH i5
 have HU:=zH (show 0≤s.u∧s.u≤largeS c0 c1 c2 c3 from ⟨i3,i4⟩)
 have HLB:=zH hlb
 have HN:=zH hn
 have HTL:=zH hl
 have HBV:=zH hB
 have HLO:=zH g4
 have hP:=pers_blk g1
 have HT:=zH g2
 have HF:=zH g3
 have HGR:Hid (∀t tA tc fA fc w,GrAt B X c0 c1 c2 c3 sn t tA tc fA fc w→GrAt B X c0 c1 c2 c3 sn t tA tc fA fc w):=zH (fun _ _ _ _ _ _ h=>h)
 clear hb i3 i4 i5 hlb g2 g3 g4 hl hB g1
 generalize hha:halfA c0 c1 c2 c3 sn=ha at*
 generalize hhs:halfS c0 c1 c2 c3=hs at*
 generalize hla:largeA c0 c1 c2 c3=la at*
 generalize hls:largeS c0 c1 c2 c3=ls at*
 have HHA:=zH hha
 have HHS:=zH hhs
 have HLA:=zH hla
 have HLS:=zH hls
 clear hha hhs hla hls
 obtain ⟨fr,hfr⟩:∃fr,frL la ls s.u=fr:=⟨_,rfl⟩
 have HFR:=zH hfr
 rw [hfr]at hP HF
 clear hfr
 obtain ⟨top,u,pl,tb⟩:=s
 simp only at i1 i2 hP HT HF HST HT5 HU HTL HFR
 have k1:=(cells_of hP.here).1
 go_enter Tryz.func87,Tryz.ntmps87
 go_wp2_with fail
 refine (lsmall_is HSM.out _).mono ?_
 rintro e w1 ⟨rfl,hx⟩
 replace HT:=zH (HT.out.ext hx)
 replace HF:=zH (HF.out.ext hx)
 have HX:=zH hx
 (replace hP:=hP.re hx)
 clear hx k1
 have g1:=hP.cells
 have k1:=(cells_of hP.here).1
 have f1:=(cells_of hP.here).2
 have hs0:Ext w1 w1:=Ext.refl _
 cases b with
 | true=>
  have d1:wrap64 (ha+hs)=ha+hs:=IntWalk.wrap64_in _ (by omega)
  have d2:wrap64 (ha+hs - top)=ha+hs - top:=IntWalk.wrap64_in _ (by omega)
  have d3:wrap64 (top+n)=top+n:=IntWalk.wrap64_in _ (by omega)
  have d4:wrap64 (top+n - n)=top:=by rw [IntWalk.wrap64_in _ (by omega)];omega
  by_cases hlt:ha+hs < top+n
  ·have d5:decide (n >ha+hs - top)=true:=by simp;omega
   have HST2:Hid (lwStep c0 c1 c2 c3 sn ⟨top,u,pl,tb⟩ n=none):=zH (by rw [HST.out,if_pos HSM.out,if_pos hlt])
   clear hlt
   go_wp2_with fail
   (refine wp_region_ext (W:=w1) (by kernel_rfl) (by kernel_rfl) (by with_reducible assumption) ?_;(repeat (go_big_quiet_step (fail)));refine wpQuiet_nil ?_;intro w1 hx)
   go_wp2_with fail
   go_ret2
   exact .inl ⟨HST2.out,rfl,HX.out.trans hx⟩
  ·have d5:decide (n >ha+hs - top)=false:=by simp;omega
   have HST2:Hid (lwStep c0 c1 c2 c3 sn ⟨top,u,pl,tb⟩ n=some ⟨top+n,u,pl++ [top],tb⟩):=zH (by rw [HST.out,if_pos HSM.out,if_neg hlt])
   clear hlt
   go_wp2_with fail
   (refine wp_region_ext (W:=w1) (by kernel_rfl) (by kernel_rfl) (by with_reducible assumption) ?_;(repeat (go_big_quiet_step (fail)));refine wpQuiet_nil ?_;intro w1 hx)
   have k2:=(cells_of (hP.at hx)).1
   have f2:=(cells_of (hP.at hx)).2
   have hb2:=blk_set (i:=6) (hP.at hx) (.int .i64 (top+n))
   have HB2:=zH hb2
   have HT2:=zH (Own.setOther (i:=6) (u:= .int .i64 (top+n)) (HT.out.ext hx) (hP.at hx) (by decide))
   have HF2:=zH (Own.setOther (i:=6) (u:= .int .i64 (top+n)) (HF.out.ext hx) (hP.at hx) (by decide))
   have HO2:=zH ((Only.of_ext (b:=X) (HX.out.trans hx)).setCell 6 (.int .i64 (top+n)))
   clear hb2 k1 f1 g1 hs0
   go_wp2_with fail
   go_ret2
   exact .inr ⟨_,top,tA,tc,fA,fc,HST2.out,rfl,rfl,GrAt.of (tb:=tb) (fr:=fr) HHA.out HHS.out rfl rfl (by rw [HLA.out,HLS.out];exact HFR.out) rfl rfl HB2.out HT2.out HF2.out HLO.out,HO2.out⟩
 | false=>
  have hfl:fr.length≤1:=by rw [←HFR.out];unfold frL;split <;>simp
  clear f1 g1 hs0
  go_wp2_with fail
  refine (take_own fA fc fr n w1 (by omega) HF.out.spans).mono ?_
  rintro e w2 ⟨ys,p,er,m,fA2,fc2,hres,rfl,rfl,ho,hx⟩
  have HO2:=zH (ho.mono (B':=B) (Nat.le_trans HBV.out HX.out.size))
  replace HT:=zH (HT.out.ext hx)
  replace HX:=zH (HX.out.trans hx)
  (replace hP:=hP.re hx)
  rw [←HFR.out]at hres
  have hcases:=take_fr HN.out.1 HU.out.1 HU.out.2 (by have:=HLB.out;omega) (by have:=HLB.out;omega) hres
  clear hx k1 ho hres HF
  have k1:=(cells_of hP.here).1
  have f1:=(cells_of hP.here).2
  rcases hcases with ⟨h1,rfl,rfl,rfl⟩ | ⟨h1,hys,rfl,rfl⟩
  ·have HST2:Hid (lwStep c0 c1 c2 c3 sn ⟨top,u,pl,tb⟩ n=none):=zH (by rw [HST.out,if_neg (by rw [HSM.out];decide),if_pos h1])
   clear h1
   go_wp2_with fail
   go_ret2
   exact .inl ⟨HST2.out,rfl,HX.out⟩
  ·have HST2:Hid (lwStep c0 c1 c2 c3 sn ⟨top,u,pl,tb⟩ n=some ⟨top,u+n,pl++ [la+u],tb++ [(la+u,n)]⟩):=zH (by rw [HST.out,if_neg (by rw [HSM.out];decide),if_neg (by omega)])
   have HAD:=zH (show 0≤u∧u+n≤1000000 from by have:=HU.out;have:=HLB.out;omega)
   have HYS:=zH hys
   have hb2:=blk_set (i:=8) hP.here (.slice fA2 ys.length fc2)
   have HT2:=zH (Own.setOther (i:=8) (u:= .slice fA2 ys.length fc2) HT.out hP.here (by decide))
   have HF2:=zH (Own.setOther (i:=8) (u:= .slice fA2 ys.length fc2) HO2.out hP.here (by decide))
   have HON:=zH ((Only.of_ext (b:=X) HX.out).setCell 8 (.slice fA2 ys.length fc2))
   clear h1 hys HT HO2
   go_wp2_with fail
   generalize w2.setCell ⟨X,8,none⟩ (.slice fA2 ys.length fc2)=W3 at*
   have hQ:Pers W3 (fun w=>w.heap[X]?=some (.cells #[.int .i64 c0,.int .i64 c1,.int .i64 c2,.int .i64 c3,.int .i64 ha,.int .i64 hs,.int .i64 top,.slice tA tb.length tc,.slice fA2 ys.length fc2] 79 (0,0))):=pers_blk hb2
   clear hb2 k1 f1 hP
   have k1:=(cells_of hQ.here).1
   have f1:=(cells_of hQ.here).2
   go_wp2_with fail
   refine (add_own tA tc tb (la+u) n W3 (by have:=HTL.out;omega) HT2.out.spans).mono ?_
   rintro e w4 ⟨zs,er,m2,tA2,tc2,hres,rfl,rfl,ho,hx⟩
   obtain ⟨rfl,rfl⟩:=add_tb HN.out.1 (by have:=HLB.out;omega) HAD.out HT5.out hres
   have HO4:=zH (show OwnS w4 B (.slice tA2 (tb.length+1) tc2) (tb++ [(la+u,n)])from by have h:=ho.mono (B':=B) (Nat.le_trans HBV.out HON.out.size);rw [List.length_append]at h;exact h)
   replace HF2:=zH (HF2.out.ext hx)
   replace HON:=zH (HON.out.trans (Only.of_ext hx))
   (replace hQ:=hQ.re hx)
   clear hx k1 f1 hres ho HT2
   have k1:=(cells_of hQ.here).1
   have f1:=(cells_of hQ.here).2
   have hb4:=blk_set (i:=7) hQ.here (.slice tA2 (tb.length+1) tc2)
   have HB4:=zH hb4
   have HT4:=zH (Own.setOther (i:=7) (u:= .slice tA2 (tb.length+1) tc2) HO4.out hQ.here (by decide))
   have HF4:=zH (Own.setOther (i:=7) (u:= .slice tA2 (tb.length+1) tc2) HF2.out hQ.here (by decide))
   replace HON:=zH (HON.out.setCell 7 (.slice tA2 (tb.length+1) tc2))
   clear hb4
   go_wp2_with fail
   go_ret2
   exact .inr ⟨_,la+u,tA2,tc2,fA2,fc2,HST2.out,rfl,rfl,GrAt.of (tb:=tb++ [(la+u,n)]) (fr:=ys) HHA.out HHS.out rfl rfl (by rw [HLA.out,HLS.out];exact HYS.out.symm) (by simp) rfl HB4.out HT4.out HF4.out HLO.out,HON.out⟩
end Go.Proofs.YtphpppjfogpohaaGreat
