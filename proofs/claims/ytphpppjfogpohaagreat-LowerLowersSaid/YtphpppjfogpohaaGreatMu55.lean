/- Merged by program (merge.py) out of: LowT, LowU, LowB, LowC, LowV, LowX. -/
import Derived.Test.YtphpppjfogpohaaGreatMu54
import Derived.Test.YtphpppjfogpohaaGreatMu45
import Derived.Test.YtphpppjfogpohaaGreatMu2
import Derived.Test.YtphpppjfogpohaaGreatMu17
import Derived.Test.YtphpppjfogpohaaGreatMu21
import Derived.Test.YtphpppjfogpohaaGreatMu42
set_option linter.unusedSimpArgs false
set_option linter.unusedVariables false
set_option maxRecDepth 100000
set_option maxHeartbeats 16000000
namespace Go.Proofs.YtphpppjfogpohaaGreat
open Go.RowKit Go.Shelf
theorem frL_one (la ls u:Int) (h0:0≤u) (hla:0≤la∧la≤1000000) (hls:ls≤1000000):frL la ls u= []∨∃a s,frL la ls u= [(a,s)]∧mayB a s=true:=by
 unfold frL
 split
 ·exact .inr ⟨_,_,rfl,by simp only [mayB,decide_eq_true_eq];omega⟩
 ·exact .inl rfl
structure RlI (W:World) (R X:Nat) (pA:Option Addr) (pc:Nat) (tA:Option Addr) (tc:Nat) (fA:Option Addr) (fc:Nat) (s:LwS) (fr:List (Int×Int)) (wr:World):Prop where
 blk:wr.heap[X]?=some (.cells #[.slice pA s.pl.length pc,.int .i64 s.top,.slice tA s.tb.length tc,.slice fA fr.length fc] 42 (0,0))
 pl:Own 3 1 intC wr W.heap.size (.slice pA s.pl.length pc) s.pl
 tb:OwnS wr W.heap.size (.slice tA s.tb.length tc) s.tb
 fr:OwnS wr W.heap.size (.slice fA fr.length fc) fr
 ext:Ext W wr
 lo:W.heap.size≤X
theorem RlI.grow {W:World} {R X:Nat} {pA:Option Addr} {pc:Nat} {tA:Option Addr} {tc:Nat} {fA:Option Addr} {fc:Nat} {s:LwS} {fr:List (Int×Int)} {wr w':World} (h:RlI W R X pA pc tA tc fA fc s fr wr) (hx:Ext wr w'):RlI W R X pA pc tA tc fA fc s fr w':=
 ⟨(hx.block (lt_of_heap h.blk)).trans h.blk,h.pl.ext hx,h.tb.ext hx,h.fr.ext hx,h.ext.trans hx,h.lo⟩
section
variable {W : World} {R X : Nat} {pA : Option Addr} {pc : Nat} {tA : Option Addr} {tc : Nat} {fA : Option Addr} {fc : Nat} {s : LwS} {fr : List (Int × Int)} {wr w' : World}
theorem RlI.setTop (h:RlI W R X pA pc tA tc fA fc s fr wr) (z:Int):RlI W R X pA pc tA tc fA fc ⟨z,s.u,s.pl,s.tb⟩ fr (wr.setCell ⟨X,1,none⟩ (.int .i64 z)):=
 ⟨blk_set h.blk _,h.pl.setOther h.blk (by decide),h.tb.setOther h.blk (by decide),h.fr.setOther h.blk (by decide),h.ext.setCell h.lo _,h.lo⟩
theorem RlI.setFr (h:RlI W R X pA pc tA tc fA fc s fr wr) {A:Option Addr} {n c:Nat} {ys:List (Int×Int)} (hn:n=ys.length) (ho:OwnS wr W.heap.size (.slice A n c) ys) (u:Int):RlI W R X pA pc tA tc A c ⟨s.top,u,s.pl,s.tb⟩ ys (wr.setCell ⟨X,3,none⟩ (.slice A n c)):=by
 subst hn
 exact ⟨blk_set h.blk _,h.pl.setOther h.blk (by decide),h.tb.setOther h.blk (by decide),ho.setOther h.blk (by decide),h.ext.setCell h.lo _,h.lo⟩
theorem RlI.setTb (h:RlI W R X pA pc tA tc fA fc s fr wr) {A:Option Addr} {n c:Nat} {ys:List (Int×Int)} (hn:n=ys.length) (ho:OwnS wr W.heap.size (.slice A n c) ys):RlI W R X pA pc A c fA fc ⟨s.top,s.u,s.pl,ys⟩ fr (wr.setCell ⟨X,2,none⟩ (.slice A n c)):=by
 subst hn
 exact ⟨blk_set h.blk _,h.pl.setOther h.blk (by decide),ho.setOther h.blk (by decide),h.fr.setOther h.blk (by decide),h.ext.setCell h.lo _,h.lo⟩
theorem RlI.app (h:RlI W R X pA pc tA tc fA fc s fr wr) {A:Option Addr} {n c:Nat} {ps:List Int} (hn:n=ps.length) (ho:Own 3 1 intC w' W.heap.size (.slice A n c) ps) (hg:wr.grownBy w' (Value.slice pA s.pl.length pc).ownBlock):RlI W R X A c tA tc fA fc ⟨s.top,s.u,ps,s.tb⟩ fr (w'.setCell ⟨X,0,none⟩ (.slice A n c)):=by
 subst hn
 have hb:=(hg.block X (lt_of_heap h.blk) (h.pl.ne_block h.blk (by decide))).trans h.blk
 exact ⟨blk_set hb _,ho.setOther hb (by decide),(h.tb.keep2 h.pl (by decide) hg).setOther hb (by decide),(h.fr.keep2 h.pl (by decide) hg).setOther hb (by decide),(h.pl.grown hg (Nat.le_refl _) h.ext).setCell h.lo _,h.lo⟩
theorem RlI.blkG (h:RlI W R X pA pc tA tc fA fc s fr wr) (hg:wr.grownBy w' (Value.slice pA s.pl.length pc).ownBlock):w'.heap[X]?=some (.cells #[.slice pA s.pl.length pc,.int .i64 s.top,.slice tA s.tb.length tc,.slice fA fr.length fc] 42 (0,0)):=
 (hg.block X (lt_of_heap h.blk) (h.pl.ne_block h.blk (by decide))).trans h.blk
end
theorem ext4x {V w:World} (h:Ext V w) {X:Nat} (hX:V.heap.size≤X) (u0 u1 u2 u3:Value):Ext V ((((w.setCell ⟨X,0,none⟩ u0).setCell ⟨X,1,none⟩ u1).setCell ⟨X,2,none⟩ u2).setCell ⟨X,3,none⟩ u3):=
 (((h.setCell hX _).setCell hX _).setCell hX _).setCell hX _
def RetRl (V:World) (c0 c1 c2 c3:Int) (sn:Bool) (G:GraphD) (e:Ending) (w':World):Prop:=
 ∃pA pc tA tc fA fc,e= .returned (.tuple #[.agg #[.slice pA (layS c0 c1 c2 c3 sn G).pl.length pc,.int .i64 (layS c0 c1 c2 c3 sn G).top,.slice tA (layS c0 c1 c2 c3 sn G).tb.length tc,.slice fA (if layE c0 c1 c2 c3 sn G=0 then frL (largeA c0 c1 c2 c3) (largeS c0 c1 c2 c3) (layS c0 c1 c2 c3 sn G).u else []).length fc],.int .i64 (layE c0 c1 c2 c3 sn G)])∧
  Own 3 1 intC w' V.heap.size (.slice pA (layS c0 c1 c2 c3 sn G).pl.length pc) (layS c0 c1 c2 c3 sn G).pl∧OwnS w' V.heap.size (.slice tA (layS c0 c1 c2 c3 sn G).tb.length tc) (layS c0 c1 c2 c3 sn G).tb∧
  OwnS w' V.heap.size (.slice fA (if layE c0 c1 c2 c3 sn G=0 then frL (largeA c0 c1 c2 c3) (largeS c0 c1 c2 c3) (layS c0 c1 c2 c3 sn G).u else []).length fc) (if layE c0 c1 c2 c3 sn G=0 then frL (largeA c0 c1 c2 c3) (largeS c0 c1 c2 c3) (layS c0 c1 c2 c3 sn G).u else [])∧Ext V w'
theorem retRl_no {V w':World} {c0 c1 c2 c3 k:Int} {sn:Bool} {G:GraphD} (h:layE c0 c1 c2 c3 sn G=k) (hk:k≠0) (hx:Ext V w'):RetRl V c0 c1 c2 c3 sn G (.returned (.tuple #[.agg #[.slice none 0 0,.int .i64 0,.slice none 0 0,.slice none 0 0],.int .i64 k])) w':=by
 subst h
 have e:layS c0 c1 c2 c3 sn G=⟨0,0,[],[]⟩:=by rw [layS,if_neg hk]
 unfold RetRl
 rw [e,if_neg hk]
 exact ⟨none,0,none,0,none,0,rfl,Own.nil _ _ _ _ _,Own.nil _ _ _ _ _,Own.nil _ _ _ _ _,hx⟩
theorem retRl_yes {V w':World} {c0 c1 c2 c3 la ls:Int} {sn:Bool} {G:GraphD} {s:LwS} {pA:Option Addr} {pc:Nat} {tA:Option Addr} {tc:Nat} {fA:Option Addr} {fc:Nat} (h:layE c0 c1 c2 c3 sn G=0) (hs:layS c0 c1 c2 c3 sn G=s) (hla:largeA c0 c1 c2 c3=la) (hls:largeS c0 c1 c2 c3=ls)
  (h1:Own 3 1 intC w' V.heap.size (.slice pA s.pl.length pc) s.pl) (h2:OwnS w' V.heap.size (.slice tA s.tb.length tc) s.tb) (h3:OwnS w' V.heap.size (.slice fA (frL la ls s.u).length fc) (frL la ls s.u)) (hx:Ext V w'):
  RetRl V c0 c1 c2 c3 sn G (.returned (.tuple #[.agg #[.slice pA s.pl.length pc,.int .i64 s.top,.slice tA s.tb.length tc,.slice fA (frL la ls s.u).length fc],.int .i64 0])) w':=by
 subst hs hla hls
 unfold RetRl
 rw [if_pos h,h]
 exact ⟨pA,pc,tA,tc,fA,fc,rfl,h1,h2,h3,hx⟩
theorem own4 {α:Type} {e:TypeId} {n:Nat} {f:α→List Value} {B:Nat} {v:Value} {xs:List α} {w:World} (h:Own e n f w B v xs) {X:Nat} {cs:Array Value} {t:TypeId} {r:Nat×Nat} (hb:w.heap[X]?=some (.cells cs t r)) (hne:t≠e) (u0 u1 u2 u3:Value):
  Own e n f ((((w.setCell ⟨X,0,none⟩ u0).setCell ⟨X,1,none⟩ u1).setCell ⟨X,2,none⟩ u2).setCell ⟨X,3,none⟩ u3) B v xs:=by
 have n1:=(h.ne_block hb hne).symm
 repeat (first | with_reducible exact h | with_reducible refine Own.setNe ?_ n1)
theorem reflay_any (c0 c1 c2 c3:Int) (sn:Bool) (G:GraphD) (V:World) (hG:GraphAt V G) (oG:GOk G):Calls Tryz.prog 14 #[.agg #[.int .i64 (c0),.int .i64 (c1),.int .i64 (c2),.int .i64 (c3)],.bool sn,.agg #[.slice G.nA G.ns.length G.ncap,.slice G.rA G.rs.length G.rcap]] V (RetRl V c0 c1 c2 c3 sn G):=by
 obtain ⟨nA,ncap,ns,rA,rcap,rs⟩:=G
 have hx0:=(((Ext.refl V).alloc (.cells #[.int .i64 c0,.int .i64 c1,.int .i64 c2,.int .i64 c3] 23)).alloc (.cells #[.slice nA ns.length ncap,.slice rA rs.length rcap] 27)).alloc (.cells #[.slice none 0 0,.int .i64 0,.slice none 0 0,.slice none 0 0] 42)
 have hC:=(pers_new V #[.int .i64 c0,.int .i64 c1,.int .i64 c2,.int .i64 c3] 23 _ rfl).re (((Ext.refl _).alloc (.cells #[.slice nA ns.length ncap,.slice rA rs.length rcap] 27)).alloc (.cells #[.slice none 0 0,.int .i64 0,.slice none 0 0,.slice none 0 0] 42))
 have hB:=(pers_new (V.alloc (.cells #[.int .i64 c0,.int .i64 c1,.int .i64 c2,.int .i64 c3] 23)) #[.slice nA ns.length ncap,.slice rA rs.length rcap] 27 (V.heap.size+1) (by simp)).re ((Ext.refl _).alloc (.cells #[.slice none 0 0,.int .i64 0,.slice none 0 0,.slice none 0 0] 42))
 have hR:=pers_new ((V.alloc (.cells #[.int .i64 c0,.int .i64 c1,.int .i64 c2,.int .i64 c3] 23)).alloc (.cells #[.slice nA ns.length ncap,.slice rA rs.length rcap] 27)) #[.slice none 0 0,.int .i64 0,.slice none 0 0,.slice none 0 0] 42 (V.heap.size+1+1) (by simp)
 have HG:Pers _ (fun w=>GraphAt w ⟨nA,ncap,ns,rA,rcap,rs⟩):=fun w k=>hG.ext (hx0.trans k)
 have HX:=zH hx0
 have HOG:=zH oG
 have hnl:ns.length≤1000:=oG.2.1
 have hrl:rs.length≤1000:=oG.2.2
 have HVR:Hid (V.heap.size≤V.heap.size+1+1):=zH (by omega)
 obtain ⟨b,hb⟩:∃b,cfgB c0 c1 c2 c3=b:=⟨_,rfl⟩
 have HB:=zH hb
 clear hx0 hG oG hb
 go_enter Tryz.func14,Tryz.ntmps14
 go_wp2_with fail
 generalize ((V.alloc (.cells #[.int .i64 c0,.int .i64 c1,.int .i64 c2,.int .i64 c3] 23)).alloc (.cells #[.slice nA ns.length ncap,.slice rA rs.length rcap] 27)).alloc (.cells #[.slice none 0 0,.int .i64 0,.slice none 0 0,.slice none 0 0] 42)=W at*
 generalize V.heap.size+1+1=R at*
 generalize V.heap.size+1=S2 at*
 generalize hS:V.heap.size=S at*
 have HS:=zH hS
 clear hS
 refine (refcheckZ_is HB.out _).mono ?_
 rintro e w1 ⟨rfl,hx⟩
 (replace hC:=hC.re hx;replace hB:=hB.re hx;replace hR:=hR.re hx;replace HG:=HG.re hx;replace HX:=zH (HX.out.trans hx))
 clear hx
 cases b with
 | false=>
  have HE:Hid (layE c0 c1 c2 c3 sn ⟨nA,ncap,ns,rA,rcap,rs⟩=1):=zH (by rw [layE,if_pos HB.out])
  have k1:=(cells_of hR.here).1
  have f1:=(cells_of hR.here).2
  go_wp2_with fail
  ((try simp only [Exit.inBlock,Exit.then]);refine bodyPost_ret (v:= .tuple #[.agg #[.slice none 0 0,.int .i64 0,.slice none 0 0,.slice none 0 0],.int .i64 1]) (by simp only [results,Tryz.results14];go_simp) rfl ?_)
  exact retRl_no HE.out (by decide) (ext4x HX.out (by have:=HS.out;have:=HVR.out;omega) _ _ _ _)
 | true=>
  obtain ⟨r,hr⟩:∃r,rightG ⟨nA,ncap,ns,rA,rcap,rs⟩=r:=⟨_,rfl⟩
  have HRT:=zH hr
  clear hr
  have k1:=(cells_of hB.here).1
  go_wp2_with fail
  refine (grefright_is ⟨nA,ncap,ns,rA,rcap,rs⟩ r HRT.out _ HG.here HOG.out).mono ?_
  rintro e w2 ⟨rfl,hx⟩
  (replace hC:=hC.re hx;replace hB:=hB.re hx;replace hR:=hR.re hx;replace HG:=HG.re hx;replace HX:=zH (HX.out.trans hx))
  clear hx k1
  cases r with
  | false=>
   have HE:Hid (layE c0 c1 c2 c3 sn ⟨nA,ncap,ns,rA,rcap,rs⟩=4):=zH (by rw [layE,if_neg (by rw [HB.out];decide),if_pos HRT.out])
   have k1:=(cells_of hR.here).1
   have f1:=(cells_of hR.here).2
   go_wp2_with fail
   ((try simp only [Exit.inBlock,Exit.then]);refine bodyPost_ret (v:= .tuple #[.agg #[.slice none 0 0,.int .i64 0,.slice none 0 0,.slice none 0 0],.int .i64 4]) (by simp only [results,Tryz.results14];go_simp) rfl ?_)
   exact retRl_no HE.out (by decide) (ext4x HX.out (by have:=HS.out;have:=HVR.out;omega) _ _ _ _)
  | true=>
   have k1:=(cells_of hB.here).1
   have k2:=(cells_of hC.here).1
   have k3:=(cells_of hR.here).1
   have f3:=(cells_of hR.here).2
   by_cases hsl:c2 < (rs.length:Int)
   ·have HE:Hid (layE c0 c1 c2 c3 sn ⟨nA,ncap,ns,rA,rcap,rs⟩=8):=zH (by rw [layE,if_neg (by rw [HB.out];decide),if_neg (by rw [HRT.out];decide),if_pos hsl])
    have d1:decide ((rs.length:Int) >c2)=true:=by simpa using hsl
    clear hsl
    go_wp2_with fail
    ((try simp only [Exit.inBlock,Exit.then]);refine bodyPost_ret (v:= .tuple #[.agg #[.slice none 0 0,.int .i64 0,.slice none 0 0,.slice none 0 0],.int .i64 8]) (by simp only [results,Tryz.results14];go_simp) rfl ?_)
    exact retRl_no HE.out (by decide) (ext4x HX.out (by have:=HS.out;have:=HVR.out;omega) _ _ _ _)
   ·have d1:decide ((rs.length:Int) >c2)=false:=by simpa using hsl
    have HSL:=zH hsl
    have hcb:=HB.out
    simp only [cfgB,decide_eq_true_eq]at hcb
    have hA1:halfA c0 c1 c2 c3 sn=if sn then c0 else 0:=by simp only [halfA,HB.out,if_true]
    have hS1:halfS c0 c1 c2 c3=c0:=by simp only [halfS,HB.out,if_true]
    have hL1:largeA c0 c1 c2 c3=if c1=0 then 0 else 2*c0:=by simp only [largeA,HB.out,if_true]
    have hL2:largeS c0 c1 c2 c3=c1:=by simp only [largeS,HB.out,if_true]
    have HAB:=zH (show 0≤halfA c0 c1 c2 c3 sn∧halfA c0 c1 c2 c3 sn≤32768∧2≤halfS c0 c1 c2 c3∧halfS c0 c1 c2 c3≤32768 from by rw [hA1,hS1];split <;>omega)
    have HLB:=zH (show 0≤largeA c0 c1 c2 c3∧largeA c0 c1 c2 c3≤65536∧0≤largeS c0 c1 c2 c3∧largeS c0 c1 c2 c3≤32768 from by rw [hL1,hL2];split <;>omega)
    have HFR0:Hid (frL (largeA c0 c1 c2 c3) (largeS c0 c1 c2 c3) 0=if 0 < c1 then [(largeA c0 c1 c2 c3,largeS c0 c1 c2 c3)]else []):=zH (by
     rw [frL,hL2];simp)
    have HST:Hid (∀s n,lwStep c0 c1 c2 c3 sn s n=if smallB c0 c1 c2 c3 n then (if halfA c0 c1 c2 c3 sn+halfS c0 c1 c2 c3 < s.top+n then none else some ⟨s.top+n,s.u,s.pl++ [s.top],s.tb⟩)
     else if largeS c0 c1 c2 c3 < s.u+n then none else some ⟨s.top,s.u+n,s.pl++ [largeA c0 c1 c2 c3+s.u],s.tb++ [(largeA c0 c1 c2 c3+s.u,n)]⟩):=zH (fun _ _=>rfl)
    have HIV:Hid (∀s,LwI c0 c1 c2 c3 sn s→halfA c0 c1 c2 c3 sn≤s.top∧s.top≤halfA c0 c1 c2 c3 sn+halfS c0 c1 c2 c3∧0≤s.u∧s.u≤largeS c0 c1 c2 c3∧∀x∈s.tb,largeA c0 c1 c2 c3≤x.1∧1≤x.2∧x.1+x.2≤largeA c0 c1 c2 c3+s.u):=zH (fun s h=>⟨h.lo,h.hi,h.u0,h.u1,h.tb⟩)
    have HBC:=zH HB.out
    clear hsl hA1 hS1 hL1 hL2 hcb
    generalize hha:halfA c0 c1 c2 c3 sn=ha at*
    generalize hhs:halfS c0 c1 c2 c3=hs at*
    generalize hla:largeA c0 c1 c2 c3=la at*
    generalize hls:largeS c0 c1 c2 c3=ls at*
    have HHA:=zH hha
    have HHS:=zH hhs
    have HLA:=zH hla
    have HLS:=zH hls
    clear hha hhs hla hls
    go_wp2_with fail
    refine (reffrom_is HHA.out HHS.out _).mono ?_
    rintro e w3 ⟨rfl,hx⟩
    (replace hC:=hC.re hx;replace hB:=hB.re hx;replace hR:=hR.re hx;replace HG:=HG.re hx;replace HX:=zH (HX.out.trans hx))
    clear hx k1 k2 k3 f3
    have hY:=pers_new w3 #[.int .i64 ha,.int .i64 hs] 63 _ rfl
    have hy:=(Ext.refl w3).alloc (.cells #[.int .i64 ha,.int .i64 hs] 63)
    have HXL:Hid (w3.heap.size < w3.heap.size+1):=zH (by omega)
    (replace hC:=hC.re hy;replace hB:=hB.re hy;replace hR:=hR.re hy;replace HG:=HG.re hy;replace HX:=zH (HX.out.trans hy))
    have hX:=pers_new (w3.alloc (.cells #[.int .i64 ha,.int .i64 hs] 63)) #[.slice none 0 0,.int .i64 ha,.slice none 0 0,.slice none 0 0] 42 (w3.heap.size+1) (by simp)
    have HSZ:Hid ((w3.alloc (.cells #[.int .i64 ha,.int .i64 hs] 63)).heap.size=w3.heap.size+1):=zH (by simp)
    have hz:=(Ext.refl (w3.alloc (.cells #[.int .i64 ha,.int .i64 hs] 63))).alloc (.cells #[.slice none 0 0,.int .i64 ha,.slice none 0 0,.slice none 0 0] 42)
    have k2:=(cells_of (hC.at hz)).1
    have HZ:=zH hz
    clear hy hz
    by_cases hc1:0 < c1
    have d2:decide (c1 >0)=true:=by simpa using hc1
    replace HFR0:Hid (frL la ls 0= [(la,ls)]):=zH (by rw [HFR0.out,if_pos hc1])
    clear hc1
    go_wp2_with fail
    generalize hW3:w3.alloc (.cells #[.int .i64 ha,.int .i64 hs] 63)=W3 at*
    generalize w3.heap.size+1=X at*
    generalize w3.heap.size=Y at*
    clear hW3 k2
    refine (reflargeZ_is HLA.out HLS.out _).mono ?_
    rintro e w5 ⟨rfl,hx⟩
    (replace hX:=hX.re hx)
    have HW5:=zH (HZ.out.trans hx)
    have hy:=(Ext.refl w5).alloc (.cells #[.int .i64 la,.int .i64 ls] 63)
    have k1:=(cells_of (hX.at hy)).1
    have f1:=(cells_of (hX.at hy)).2
    have HO0:=Own.lit (B:=W3.heap.size) (w:=w5) (e:=63) spanCells [(la,ls)] #[.int .i64 la,.int .i64 ls] rfl 1 rfl (by exact HW5.out.size) (by simp [maxLen]) w5.heap.size rfl
    have HI0:=zH (show RlI W3 R X none 0 none 0 (some ⟨w5.heap.size,0,none⟩) 1 (lwS0 c0 c1 c2 c3 sn) [(la,ls)] ((w5.alloc (.cells #[.int .i64 la,.int .i64 ls] 63)).setCell ⟨X,3,none⟩ (.slice (some ⟨w5.heap.size,0,none⟩) 1 1))from
     ⟨by have:=blk_set (i:=3) (hX.at hy) (.slice (some ⟨w5.heap.size,0,none⟩) 1 1);simp only [lwS0,HHA.out];exact this,Own.nil _ _ _ _ _,Own.nil _ _ _ _ _,Own.setOther HO0 (hX.at hy) (by decide),(HW5.out.trans hy).setCell (by rw [HSZ.out];exact Nat.le_refl _) _,by rw [HSZ.out];exact Nat.le_refl _⟩)
    clear hx hy HO0 hX HW5 HZ
    go_wp2_with fail
    generalize (w5.alloc (.cells #[.int .i64 la,.int .i64 ls] 63)).setCell ⟨X,3,none⟩ (.slice (some ⟨w5.heap.size,0,none⟩) 1 1)=W4 at*
    generalize (some ⟨w5.heap.size,0,none⟩:Option Addr)=fA at*
    rw [←HFR0.out]at HI0
    clear k1 f1
    rotate_left
    have d2:decide (c1 >0)=false:=by simpa using hc1
    replace HFR0:Hid (frL la ls 0= []):=zH (by rw [HFR0.out,if_neg (by omega)])
    clear hc1
    go_wp2_with fail
    generalize hW3:w3.alloc (.cells #[.int .i64 ha,.int .i64 hs] 63)=W3 at*
    generalize w3.heap.size+1=X at*
    generalize w3.heap.size=Y at*
    clear hW3 k2
    have HI0:=zH (show RlI W3 R X none 0 none 0 none 0 (lwS0 c0 c1 c2 c3 sn) [] (W3.alloc (.cells #[.slice none 0 0,.int .i64 ha,.slice none 0 0,.slice none 0 0] 42))from
     ⟨by simp only [lwS0,HHA.out];exact hX.here,Own.nil _ _ _ _ _,Own.nil _ _ _ _ _,Own.nil _ _ _ _ _,HZ.out,by rw [HSZ.out];exact Nat.le_refl _⟩)
    clear hX HZ
    generalize W3.alloc (.cells #[.slice none 0 0,.int .i64 ha,.slice none 0 0,.slice none 0 0] 42)=W4 at*
    have e0:decide (0 < c1)=false:=by simp;omega
    rw [e0]
    clear e0
    generalize (none:Option Addr)=fA at HI0
    rw [←HFR0.out]at HI0
    all_goals
     go_loopw [10] (fun i wr=>∃(k:Nat) (s:LwS) (pA:Option Addr) (pc:Nat) (tA:Option Addr) (tc:Nat) (fA:Option Addr) (fc:Nat),k≤ns.length∧i= .int .i64 k∧Hid (LwK c0 c1 c2 c3 sn ⟨nA,ncap,ns,rA,rcap,rs⟩ k s)∧Hid (RlI W3 R X pA pc tA tc fA fc s (frL la ls s.u) wr)) (fun i _=>ns.length - (intOf i).toNat)
     case atStart=>exact ⟨0,_,_,_,_,_,_,_,by omega,rfl,zH (LwK.start HBC.out),HI0⟩
     case round=>
      obtain ⟨k,s,pA,pc,tA,tc,fA,fc,hk,rfl,hK,hI⟩:=hrel
      obtain ⟨wq,rfl⟩:∃wq:World,wq=wr:=⟨_,rfl⟩
      clear HI0
      have HX3:=zH hI.out.ext
      have k1:=(cells_of (hB.at HX3.out)).1
      have k2:=(cells_of hI.out.blk).1
      by_cases hlt:k < ns.length
      rotate_left
      ·obtain rfl:k=ns.length:=by omega
       obtain ⟨he,hs⟩:=layE_some (G:=⟨nA,ncap,ns,rA,rcap,rs⟩) hK.out HBC.out HRT.out (by have:=HSL.out;simp only;omega)
       have HE:=zH he
       have HSS:=zH hs
       have k3:=(cells_of (hR.at HX3.out)).1
       have f3:=(cells_of (hR.at HX3.out)).2
       clear he hs hlt hk
       go_wp2_with fail
       ((try simp only [Exit.inBlock,Exit.then]);refine bodyPost_ret (v:= .tuple #[.agg #[.slice pA s.pl.length pc,.int .i64 s.top,.slice tA s.tb.length tc,.slice fA (frL la ls s.u).length fc],.int .i64 0]) (by simp only [results,Tryz.results14];go_simp) rfl ?_)
       have hr:=(hR.at HX3.out)
       have hz:=HX.out.size
       exact retRl_yes HE.out HSS.out HLA.out HLS.out (own4 (hI.out.pl.mono hz) hr (by decide) _ _ _ _) (own4 (hI.out.tb.mono hz) hr (by decide) _ _ _ _) (own4 (hI.out.fr.mono hz) hr (by decide) _ _ _ _) (ext4x (HX.out.trans HX3.out) (by have:=HS.out;have:=HVR.out;omega) _ _ _ _)
      have HLT:=zH hlt
      have HN:=zH (size_right (G:=⟨nA,ncap,ns,rA,rcap,rs⟩) HRT.out (getD_mem (d:=default) hlt))
      have hbk:=LwK.tb hK.out
      obtain ⟨nb,no,rfl,hcn⟩:=(HG.at HX3.out).nodes.row.get (by simp only;omega)
      obtain ⟨d0,d1',d2'⟩:=nodes_cell hcn hlt
      have ib0:(0:Int)≤(k:Int):=by omega
      have ib1:(k:Int) < (ns.length:Int):=by omega
      have HTB:Hid (s.tb.length≤1000):=zH (by omega)
      have HKK:Hid (k≤1000):=zH (by omega)
      clear hcn hlt hk hbk
      obtain ⟨x,hx⟩:∃x,ns.getD k default=x:=⟨_,rfl⟩
      have HXN:=zH hx
      simp only [hx]at d0 d1' d2'
      obtain ⟨n,hn⟩:∃n,sizeN x=n:=⟨_,rfl⟩
      have HNX:=zH (show 1≤n∧n≤8193 from by rw [←hn,←hx];exact ⟨HN.out.1,HN.out.2.1⟩)
      have HSN:=zH (fun W=>refsize_is x n W hn)
      have HNN:Hid (sizeN (ns.getD k default)=n):=zH (by rw [hx];exact hn)
      clear hx HN hn
      obtain ⟨xk,xA,xc,fs,yA,yc,ys⟩:=x
      simp only at d0 d1' d2'
      go_wp2_with fail
      refine (HSN.out wq).mono ?_
      rintro e w5 ⟨rfl,hx⟩
      have HI5:=zH (hI.out.grow hx)
      have HX5:=zH (HX3.out.trans hx)
      clear d0 d1' d2' k1 k2 hx hI HX3
      have k1:=(cells_of (hC.at HX5.out)).1
      go_wp2_with fail
      obtain ⟨b,hb⟩:∃b,smallB c0 c1 c2 c3 n=b:=⟨_,rfl⟩
      have HSB:=zH hb
      refine (refsmallZ_is hb _).mono ?_
      rintro e w6 ⟨rfl,hx⟩
      have HI6:=zH (HI5.out.grow hx)
      have HX6:=zH (HX5.out.trans hx)
      clear hb k1 hx HI5 HX5
      have hinv:=HIV.out s hK.out.inv
      have HIN:=zH hinv
      have k2:=(cells_of HI6.out.blk).1
      have f2:=(cells_of HI6.out.blk).2
      cases b with
      | true=>
       have k3:=(cells_of (hY.at HX6.out)).1
       have hnb:=HNX.out
       have hab:=HAB.out
       have e1:wrap64 (s.top+n)=s.top+n:=IntWalk.wrap64_in _ (by omega)
       have e2:wrap64 (ha+hs)=ha+hs:=IntWalk.wrap64_in _ (by omega)
       by_cases hgt:ha+hs < s.top+n
       ·have e3:decide (s.top+n >ha+hs)=true:=by simpa using hgt
        have HE:Hid (layE c0 c1 c2 c3 sn ⟨some ⟨nb,no,none⟩,ncap,ns,rA,rcap,rs⟩=9):=zH (layE_none hK.out HBC.out HRT.out (by have:=HSL.out;simp only;omega) HLT.out (by simp only;rw [HNN.out,HST.out,if_pos HSB.out,if_pos hgt]))
        have k4:=(cells_of (hR.at HX6.out)).1
        have f4:=(cells_of (hR.at HX6.out)).2
        clear hgt hinv hnb hab
        go_wp2_with fail
        ((try simp only [Exit.inBlock,Exit.then]);refine bodyPost_ret (v:= .tuple #[.agg #[.slice none 0 0,.int .i64 0,.slice none 0 0,.slice none 0 0],.int .i64 9]) (by simp only [results,Tryz.results14];go_simp) rfl ?_)
        exact retRl_no HE.out (by decide) (ext4x (HX.out.trans HX6.out) (by have:=HS.out;have:=HVR.out;omega) _ _ _ _)
       ·have e3:decide (s.top+n >ha+hs)=false:=by simpa using hgt
        have HK2:=zH (hK.out.next HRT.out HLT.out (t:=⟨s.top+n,s.u,s.pl++ [s.top],s.tb⟩) (p:=s.top) (by simp only;rw [HNN.out,HST.out,if_pos HSB.out,if_neg hgt]) rfl)
        have hpl:s.pl.length≤1000:=by have:=HKK.out;have:=hK.out.pl;omega
        clear hgt hinv hnb hab
        go_wp2_with (at_builtin;refine wpList_app_lit rfl (.tmp 71) (.tmp 74) 38 rfl intInfo intCells rfl HI6.out.pl [s.top] 1 _ rfl (s.pl.length+1) 1 (by simp) rfl _ rfl (by first | rfl | simp) (by omega) (by simp [maxLen];omega) (by exact HI6.out.ext.size) ?_;intro A7 c7 w7 ho7 hg7 ht7;have HI7:=zH ((HI6.out.grow ((Ext.refl _).alloc _)).app (n:=s.pl.length+1) (by simp) ho7 hg7);have HB7:=zH ((HI6.out.grow ((Ext.refl _).alloc _)).blkG hg7);clear ho7 hg7 ht7;have k7:=(cells_of HB7.out).1;have f7:=(cells_of HB7.out).2)
        have HI8:=zH (HI7.out.setTop (s.top+n))
        go_roundw
        case rel=>exact ⟨k+1,_,A7,c7,tA,tc,fA,fc,by have:=HLT.out;omega,by go_num,HK2,HI8⟩
        case measure=>have:=HLT.out;simp [intOf];omega
      | false=>
       have hfl:(frL la ls s.u).length≤1:=by unfold frL;split <;>simp
       have hcp:=own_capA HI6.out.fr
       have hbd:=HLB.out
       have Z:=reftake_fr fA fc (frL la ls s.u) n w6 hcp.2 (by have:=HNX.out;omega) (frL_one la ls s.u (by omega) (by omega) (by omega)) HI6.out.fr.spans
       have HZ:=zH Z
       clear Z hcp hbd hinv f2
       go_wp2_with fail
       refine HZ.out.mono ?_
       rintro e w7 ⟨zs,p,er,m,fA2,fc2,hres,rfl,rfl, -,hx,ho⟩
       have HF7:=zH (ho W3.heap.size HI6.out.ext.size HI6.out.fr)
       have HI7:=zH (HI6.out.grow hx)
       have HX7:=zH (HX6.out.trans hx)
       have hcases:=take_fr HNX.out.1 HIN.out.2.2.1 HIN.out.2.2.2.1 (by have:=HLB.out;omega) (by have:=HLB.out;omega) hres
       clear HZ k2 ho hx hres
       have k2:=(cells_of HI7.out.blk).1
       have f2:=(cells_of HI7.out.blk).2
       rcases hcases with ⟨h1,hzs,rfl,rfl⟩ | ⟨h1,hzs,rfl,rfl⟩
       ·have HE:Hid (layE c0 c1 c2 c3 sn ⟨some ⟨nb,no,none⟩,ncap,ns,rA,rcap,rs⟩=9):=zH (layE_none hK.out HBC.out HRT.out (by have:=HSL.out;simp only;omega) HLT.out (by simp only;rw [HNN.out,HST.out,if_neg (by rw [HSB.out];decide),if_pos h1]))
        have k4:=(cells_of (hR.at HX7.out)).1
        have f4:=(cells_of (hR.at HX7.out)).2
        clear h1 hzs
        go_wp2_with fail
        ((try simp only [Exit.inBlock,Exit.then]);refine bodyPost_ret (v:= .tuple #[.agg #[.slice none 0 0,.int .i64 0,.slice none 0 0,.slice none 0 0],.int .i64 9]) (by simp only [results,Tryz.results14];go_simp) rfl ?_)
        exact retRl_no HE.out (by decide) (ext4x (HX.out.trans HX7.out) (by have:=HS.out;have:=HVR.out;omega) _ _ _ _)
       ·have HK2:=zH (hK.out.next HRT.out HLT.out (t:=⟨s.top,s.u+n,s.pl++ [la+s.u],s.tb++ [(la+s.u,n)]⟩) (p:=la+s.u) (by simp only;rw [HNN.out,HST.out,if_neg (by rw [HSB.out];decide),if_neg (by omega)]) rfl)
        have HAD:=zH (show 0≤s.u∧s.u+n≤1000000 from by have:=HLB.out;have:=HIN.out;omega)
        have HZS:=zH hzs
        have HI8:=zH (HI7.out.setFr (n:=zs.length) rfl HF7.out (s.u+n))
        clear h1 hzs HI7 HF7
        go_wp2_with fail
        generalize w7.setCell ⟨X,3,none⟩ (.slice fA2 zs.length fc2)=W8 at*
        clear k2 f2
        have k2:=(cells_of HI8.out.blk).1
        have f2:=(cells_of HI8.out.blk).2
        have hcp:=own_capA HI8.out.tb
        have Z:=refadd_full tA tc s.tb (la+s.u) n W8 hcp.1 hcp.2 (by have:=HTB.out;omega) HI8.out.tb.spans
        have HZ:=zH Z
        clear Z hcp
        go_wp2_with fail
        refine HZ.out.mono ?_
        rintro e w9 ⟨zt,er,m,tA2,tc2,hres,rfl,rfl, -,hx,ho⟩
        have HT9:=zH (ho W3.heap.size HI8.out.ext.size HI8.out.tb)
        have HI9:=zH (HI8.out.grow hx)
        obtain ⟨rfl,rfl⟩:=add_tb HNX.out.1 (by have:=HLB.out;omega) HAD.out HIN.out.2.2.2.2 hres
        clear HZ k2 f2 ho hx hres HI8
        have k2:=(cells_of HI9.out.blk).1
        have f2:=(cells_of HI9.out.blk).2
        have HI10:=zH (HI9.out.setTb (n:=s.tb.length+1) (ys:=s.tb++ [(la+s.u,n)]) (by simp) (by have h:=HT9.out;rw [List.length_append]at h;exact h))
        clear HI9 HT9
        have hpl:s.pl.length≤1000:=by have:=HKK.out;have:=hK.out.pl;omega
        go_wp2_with (at_builtin;refine wpList_app_lit rfl (.tmp 107) (.tmp 109) 38 rfl intInfo intCells rfl HI10.out.pl [la+s.u] 1 _ rfl (s.pl.length+1) 1 (by simp) rfl _ rfl (by first | rfl | simp) (by omega) (by simp [maxLen];omega) (by exact HI10.out.ext.size) ?_;intro A7 c7 w7 ho7 hg7 ht7;have HI11:=zH ((HI10.out.grow ((Ext.refl _).alloc _)).app (n:=s.pl.length+1) (by simp) ho7 hg7);have HB7:=zH ((HI10.out.grow ((Ext.refl _).alloc _)).blkG hg7);clear ho7 hg7 ht7;have k7:=(cells_of HB7.out).1;have f7:=(cells_of HB7.out).2)
        rw [HZS.out]at HI11
        go_roundw
        case rel=>exact ⟨k+1,_,A7,c7,tA2,tc2,fA2,fc2,by have:=HLT.out;omega,by go_num,HK2,HI11⟩
        case measure=>have:=HLT.out;simp [intOf];omega
theorem lword_any (L:Nat) (A:Option Addr) (n cap:Nat) (pl:List Int) (k x:Int) (W:World) (hn:pl.length=n) (hL:W.heap[L]?=some (.cells #[.slice A n cap] 38 (0,0))) (hpl:IntsAt W A pl) (hx:k=2→0≤x∧x < n):
  Calls Tryz.prog 40 #[.agg #[.int .i64 k,.int .i64 x],.pointer (some ⟨L,0,none⟩)] W fun e w'=>e= .returned (.int .u64 (wordV pl (k,x)))∧Ext W w':=by
 subst hn
 have hx0:=(Ext.refl W).alloc (.cells #[.int .i64 k,.int .i64 x] 71)
 have hH:=pers_new W #[.int .i64 k,.int .i64 x] 71 _ rfl
 have hLt:=lt_of_heap hL
 have hL2:=(hx0.block hLt).trans hL
 have k1:=(cells_of hL2).1
 have k2:=(cells_of hH.here).1
 have f2:=(cells_of hH.here).2
 have HX:=zH hx0
 by_cases h2:k=2
 ·subst h2
  have hxb:=hx rfl
  obtain ⟨i,rfl⟩:=Int.eq_ofNat_of_zero_le hxb.1
  obtain ⟨b,off,rfl,hc⟩:=hpl.get (by omega)
  have c1:=hx0.cell (ints_cell hc (k:=i) (by omega))
  have e1:wordV pl (2,(i:Int))=encW 2 (pl.getD i 0):=by simp [wordV]
  rw [e1]
  have HX1:=zH ((Ext.refl W).alloc (.cells #[.int .i64 2,.int .i64 (pl.getD i 0)] 71))
  have ib0:(0:Int)≤(i:Int):=by omega
  have ib1:(i:Int) < (pl.length:Int):=by omega
  clear hc e1 hx hpl hL hx0
  generalize pl.getD i 0=p at*
  go_enter Tryz.func40,Tryz.ntmps40
  go_wp2_with fail
  refine (enc_any 2 p _).mono ?_
  rintro e w1 ⟨rfl,hx⟩
  replace HX1:=zH (HX1.out.trans hx)
  clear hx
  go_wp2_with fail
  go_ret
  exact ⟨rfl,HX1.out⟩
 ·have d1:(k==2)=false:=by simpa using h2
  have e1:wordV pl (k,x)=encW k x:=by simp [wordV,h2]
  rw [e1]
  clear hx hpl hL hx0 h2 e1 hL2 k1
  go_enter Tryz.func40,Tryz.ntmps40
  go_wp2_with fail
  refine (enc_any k x _).mono ?_
  rintro e w1 ⟨rfl,hx⟩
  replace HX:=zH (HX.out.trans hx)
  clear hx
  go_wp2_with fail
  go_ret
  exact ⟨rfl,HX.out⟩
theorem refword_any (A:Option Addr) (n cap:Nat) (pl:List Int) (k x:Int) (W:World) (hn:pl.length=n) (hpl:IntsAt W A pl) (hx:k=2→0≤x∧x < n):
  Calls Tryz.prog 45 #[.agg #[.int .i64 k,.int .i64 x],.slice A n cap] W fun e w'=>e= .returned (.int .u64 (wordV pl (k,x)))∧Ext W w':=by
 subst hn
 have hx0:=(Ext.refl W).alloc (.cells #[.int .i64 k,.int .i64 x] 71)
 have hH:=pers_new W #[.int .i64 k,.int .i64 x] 71 _ rfl
 have k2:=(cells_of hH.here).1
 have f2:=(cells_of hH.here).2
 have HX:=zH hx0
 by_cases h2:k=2
 ·subst h2
  have hxb:=hx rfl
  obtain ⟨i,rfl⟩:=Int.eq_ofNat_of_zero_le hxb.1
  obtain ⟨b,off,rfl,hc⟩:=hpl.get (by omega)
  have c1:=hx0.cell (ints_cell hc (k:=i) (by omega))
  have e1:wordV pl (2,(i:Int))=encW 2 (pl.getD i 0):=by simp [wordV]
  rw [e1]
  have HX1:=zH ((Ext.refl W).alloc (.cells #[.int .i64 2,.int .i64 (pl.getD i 0)] 71))
  have ib0:(0:Int)≤(i:Int):=by omega
  have ib1:(i:Int) < (pl.length:Int):=by omega
  clear hc e1 hx hpl hx0
  generalize pl.getD i 0=p at*
  go_enter Tryz.func45,Tryz.ntmps45
  go_wp2_with fail
  refine (refenc_any 2 p _).mono ?_
  rintro e w1 ⟨rfl,hx⟩
  replace HX1:=zH (HX1.out.trans hx)
  clear hx
  go_wp2_with fail
  go_ret
  exact ⟨rfl,HX1.out⟩
 ·have d1:(k==2)=false:=by simpa using h2
  have e1:wordV pl (k,x)=encW k x:=by simp [wordV,h2]
  rw [e1]
  clear hx hpl hx0 h2 e1
  go_enter Tryz.func45,Tryz.ntmps45
  go_wp2_with fail
  refine (refenc_any k x _).mono ?_
  rintro e w1 ⟨rfl,hx⟩
  replace HX:=zH (HX.out.trans hx)
  clear hx
  go_wp2_with fail
  go_ret
  exact ⟨rfl,HX.out⟩
def SCh:Int→List (Int×Int)→Int→Prop
 | a,[],b=>a=b
 | a,x::l,b=>x.1=a∧1≤x.2∧SCh (a+x.2) l b
theorem SCh.snoc:∀ {l:List (Int×Int)} {a b n:Int},SCh a l b→1≤n→SCh a (l++ [(b,n)]) (b+n)
 | [],a,b,n,h,hn=>by
  have h:a=b:=h
  subst h
  exact ⟨rfl,hn,rfl⟩
 | x::l,a,b,n,h,hn=>⟨h.1,h.2.1,SCh.snoc h.2.2 hn⟩
theorem SCh.le:∀ {l:List (Int×Int)} {a b:Int},SCh a l b→a≤b∧∀x∈l,a≤x.1∧1≤x.2∧x.1+x.2≤b
 | [],a,b,h=>⟨Int.le_of_eq h,by simp⟩
 | x::l,a,b,h=>by
  obtain ⟨h1,h2,h3⟩:=h
  obtain ⟨i1,i2⟩:=SCh.le h3
  refine ⟨by omega,fun y hy=> ?_⟩
  rcases List.mem_cons.1 hy with rfl | hy
  ·omega
  ·have:=i2 y hy;omega
def ixS (f:Int→Bool) (ns:List Int):List Nat:=(List.range ns.length).filter fun i=>f (ns.getD i 0)
theorem ixS_mem {f:Int→Bool} {ns:List Int} {i:Nat}:i∈ixS f ns↔i < ns.length∧f (ns.getD i 0)=true:=by simp [ixS,List.mem_filter]
theorem ixS_snoc (f:Int→Bool) (ns:List Int) (n:Int):ixS f (ns++ [n])=ixS f ns++if f n then [ns.length]else []:=by
 unfold ixS
 rw [List.length_append,List.length_singleton,List.range_succ,List.filter_append]
 congr 1
 ·refine List.filter_congr fun i hi=> ?_
  rw [getD_appL (List.mem_range.1 hi)]
 ·rw [List.filter_cons,List.filter_nil,getD_appR (Nat.le_refl _),Nat.sub_self]
  rfl
def spI (ps ns:List Int) (i:Nat):Int×Int:=(ps.getD i 0,ns.getD i 0)
structure LwJ (ha la:Int) (f:Int→Bool) (ns:List Int) (s:LwS):Prop where
 len:s.pl.length=ns.length
 sm:SCh ha ((ixS f ns).map (spI s.pl ns)) s.top
 lg:SCh la s.tb (la+s.u)
 tb:s.tb=(ixS (fun n=> !f n) ns).map (spI s.pl ns)
theorem sp_snoc {f:Int→Bool} {ps ns:List Int} {p n:Int} (h:ps.length=ns.length):(ixS f ns).map (spI (ps++ [p]) (ns++ [n]))=(ixS f ns).map (spI ps ns):=by
 refine List.map_congr_left fun i hi=> ?_
 have:=(ixS_mem.1 hi).1
 unfold spI
 rw [getD_appL (by omega),getD_appL (by omega)]
section
variable {c0 c1 c2 c3 : Int} {sn : Bool}
theorem LwJ.start:LwJ (halfA c0 c1 c2 c3 sn) (largeA c0 c1 c2 c3) (smallB c0 c1 c2 c3) [] (lwS0 c0 c1 c2 c3 sn):=⟨rfl,rfl,by simp [lwS0,SCh],rfl⟩
theorem LwJ.step {ns:List Int} {s t:LwS} {n:Int} (h:LwJ (halfA c0 c1 c2 c3 sn) (largeA c0 c1 c2 c3) (smallB c0 c1 c2 c3) ns s) (hn:1≤n) (hs:lwStep c0 c1 c2 c3 sn s n=some t):LwJ (halfA c0 c1 c2 c3 sn) (largeA c0 c1 c2 c3) (smallB c0 c1 c2 c3) (ns++ [n]) t:=by
 obtain ⟨a,b,c,d⟩:=h
 have e:spI (s.pl++ [s.top]) (ns++ [n]) ns.length=(s.top,n):=by
  unfold spI
  rw [←a,getD_appR (Nat.le_refl _),a,getD_appR (Nat.le_refl _),Nat.sub_self]
  simp
 have e2:spI (s.pl++ [largeA c0 c1 c2 c3+s.u]) (ns++ [n]) ns.length=(largeA c0 c1 c2 c3+s.u,n):=by
  unfold spI
  rw [←a,getD_appR (Nat.le_refl _),a,getD_appR (Nat.le_refl _),Nat.sub_self]
  simp
 unfold lwStep at hs
 split at hs
 ·rename_i hsm
  split at hs
  ·cases hs
  ·injection hs with hs
   subst hs
   refine ⟨by simp [a],?_,c,?_⟩
   ·rw [ixS_snoc,if_pos hsm,List.map_append,sp_snoc a,List.map_singleton,e]
    exact b.snoc hn
   ·rw [ixS_snoc,if_neg (by simp [hsm]),List.append_nil,sp_snoc a]
    exact d
 ·rename_i hsm
  split at hs
  ·cases hs
  ·injection hs with hs
   subst hs
   refine ⟨by simp [a],?_,?_,?_⟩
   ·rw [ixS_snoc,if_neg hsm,List.append_nil,sp_snoc a]
    exact b
   ·have:=c.snoc hn
    simp only
    rw [←Int.add_assoc]
    exact this
   ·simp only
    rw [ixS_snoc,if_pos (by simpa using hsm),List.map_append,sp_snoc a,List.map_singleton,e2,←d]
theorem LwJ.run:∀(l ns:List Int) {s t:LwS},LwJ (halfA c0 c1 c2 c3 sn) (largeA c0 c1 c2 c3) (smallB c0 c1 c2 c3) ns s→(∀n∈l,1≤n)→lwRun c0 c1 c2 c3 sn s l=some t→LwJ (halfA c0 c1 c2 c3 sn) (largeA c0 c1 c2 c3) (smallB c0 c1 c2 c3) (ns++l) t
 | [],ns,s,t,h,_,e=>by
  injection e with e
  subst e
  rw [List.append_nil]
  exact h
 | n::l,ns,s,t,h,hn,e=>by
  simp only [lwRun]at e
  cases hs:lwStep c0 c1 c2 c3 sn s n with
  | none=>rw [hs]at e;cases e
  | some v=>
   rw [hs]at e
   have:=LwJ.run l (ns++ [n]) (h.step (hn n List.mem_cons_self) hs) (fun m hm=>hn m (List.mem_cons_of_mem _ hm)) e
   rwa [List.append_assoc,List.singleton_append]at this
end
section
variable {c0 c1 c2 c3 : Int} {sn : Bool} {G : GraphD}
def szs (G:GraphD):List Int:=G.ns.map sizeN
theorem szs_len:(szs G).length=G.ns.length:=by simp [szs]
theorem szs_get {i:Nat} (h:i < G.ns.length):(szs G).getD i 0=sizeN (G.ns.getD i default):=map_getD h
structure LayOk (c0 c1 c2 c3:Int) (sn:Bool) (G:GraphD):Prop where
 cfg:cfgB c0 c1 c2 c3=true
 right:rightG G=true
 slots:(G.rs.length:Int)≤c2
 inv:LwI c0 c1 c2 c3 sn (layS c0 c1 c2 c3 sn G)
 j:LwJ (halfA c0 c1 c2 c3 sn) (largeA c0 c1 c2 c3) (smallB c0 c1 c2 c3) (szs G) (layS c0 c1 c2 c3 sn G)
theorem LayOk.of (h:layE c0 c1 c2 c3 sn G=0):LayOk c0 c1 c2 c3 sn G:=by
 obtain ⟨h1,h2,h3,h4⟩:=lay_ok h
 refine ⟨h1,h2,h3,(lay_inv h).1,?_⟩
 have:=LwJ.run (szs G) [] (LwJ.start (c0:=c0) (c1:=c1) (c2:=c2) (c3:=c3) (sn:=sn)) (fun n hn=>by obtain ⟨x,hx,rfl⟩:=List.mem_map.1 hn;exact (size_right h2 hx).1) h4
 simpa using this
theorem cfg_parts (h:cfgB c0 c1 c2 c3=true):(2≤c0∧c0≤32768∧1≤c3∧c3≤c0∧0≤c1∧c1≤32768∧1≤c2∧c2≤1024)∧halfA c0 c1 c2 c3 sn=(if sn then c0 else 0)∧halfS c0 c1 c2 c3=c0∧largeA c0 c1 c2 c3=(if c1=0 then 0 else 2*c0)∧largeS c0 c1 c2 c3=c1∧wordsZ c0 c1 c2 c3=2*c0+c1:=by
 have h2:=h
 simp only [cfgB,decide_eq_true_eq]at h2
 refine ⟨h2,?_,?_,?_,?_,?_⟩ <;>simp only [halfA,halfS,largeA,largeS,wordsZ,h,if_true]
def plc (c0 c1 c2 c3:Int) (sn:Bool) (G:GraphD) (i:Nat):Int:=(layS c0 c1 c2 c3 sn G).pl.getD i 0
theorem LayOk.smallAt (L:LayOk c0 c1 c2 c3 sn G) {i:Nat} (hi:i < G.ns.length) (h:smallB c0 c1 c2 c3 ((szs G).getD i 0)=true):halfA c0 c1 c2 c3 sn≤plc c0 c1 c2 c3 sn G i∧1≤(szs G).getD i 0∧plc c0 c1 c2 c3 sn G i+(szs G).getD i 0≤(layS c0 c1 c2 c3 sn G).top:=
 L.j.sm.le.2 _ (List.mem_map.2 ⟨i,ixS_mem.2 ⟨by rw [szs_len];exact hi,h⟩,rfl⟩)
theorem LayOk.largeAt (L:LayOk c0 c1 c2 c3 sn G) {i:Nat} (hi:i < G.ns.length) (h:smallB c0 c1 c2 c3 ((szs G).getD i 0)=false):largeA c0 c1 c2 c3≤plc c0 c1 c2 c3 sn G i∧1≤(szs G).getD i 0∧plc c0 c1 c2 c3 sn G i+(szs G).getD i 0≤largeA c0 c1 c2 c3+(layS c0 c1 c2 c3 sn G).u:=by
 refine L.j.lg.le.2 (plc c0 c1 c2 c3 sn G i,(szs G).getD i 0) ?_
 rw [L.j.tb]
 exact List.mem_map.2 ⟨i,ixS_mem.2 ⟨by rw [szs_len];exact hi,by rw [h];rfl⟩,rfl⟩
theorem LayOk.at_ (L:LayOk c0 c1 c2 c3 sn G) {i:Nat} (hi:i < G.ns.length):0≤plc c0 c1 c2 c3 sn G i∧1≤(szs G).getD i 0∧plc c0 c1 c2 c3 sn G i+(szs G).getD i 0≤wordsZ c0 c1 c2 c3:=by
 obtain ⟨h1,h2,h3,h4,h5,h6⟩:=cfg_parts (sn:=sn) L.cfg
 have i1:=L.inv.hi
 have i2:=L.inv.u1
 have i3:=L.inv.u0
 cases hb:smallB c0 c1 c2 c3 ((szs G).getD i 0)with
 | true=>
  have:=L.smallAt hi hb
  rw [h2]at this i1
  rw [h3]at i1
  rw [h6]
  split at this <;>split at i1 <;>first | omega | contradiction
 | false=>
  have:=L.largeAt hi hb
  rw [h4]at this
  rw [h5]at i2
  rw [h6]
  split at this <;>omega
end
section
variable {c0 c1 c2 c3 : Int} {sn : Bool} {G : GraphD}
theorem lzip_get {i:Nat} {ns:List NodeD} {pl:List Int} (h1:i < ns.length) (h2:i < pl.length):(ns.zip pl).getD i default=(ns.getD i default,pl.getD i 0):=by
 rw [getD_get (by simp;omega),getD_get h1,getD_get h2,List.getElem_zip]
theorem lzip_getElem {i:Nat} {ns:List NodeD} {pl:List Int} (h:i < (ns.zip pl).length):(ns.zip pl)[i]=(ns.getD i default,pl.getD i 0):=by
 rw [←lzip_get (by simp at h;omega) (by simp at h;omega),getD_get h]
theorem LayOk.ok (L:LayOk c0 c1 c2 c3 sn G) {i:Nat} (hi:i < G.ns.length):okN (G.ns.getD i default)=true∧∀v∈(G.ns.getD i default).fields,okV G.ns.length v=true:=(right_parts L.right).1 _ (getD_mem hi)
end
structure LwV (W0:World) (T L:Nat) (A:Option Addr) (cap:Nat) (pl:List Int) (s:StD) (wr:World):Prop where
 st:StOwn W0.heap.size wr s
 tb:wr.heap[T]?=some (.cells #[.int .i64 s.c0,.int .i64 s.c1,.int .i64 s.c2,.int .i64 s.c3,.bool s.snd,.slice s.wA s.ws.length s.wc,.int .i64 s.top,.slice s.tA s.tb.length s.tc,.slice s.fA s.fr.length s.fc,.slice s.sA s.sl.length s.sc] 34 (0,0))
 lb:wr.heap[L]?=some (.cells #[.slice A pl.length cap] 38 (0,0))
 pl:Own 3 1 intC wr W0.heap.size (.slice A pl.length cap) pl
 ext:Ext W0 wr
section
variable {W0 wr w' : World} {T L g : Nat} {A : Option Addr} {cap : Nat} {pl : List Int} {s : StD}
theorem LwV.grow (h:LwV W0 T L A cap pl s wr) (hx:Ext wr w'):LwV W0 T L A cap pl s w':=
 ⟨h.st.ext hx,(hx.block (lt_of_heap h.tb)).trans h.tb,(hx.block (lt_of_heap h.lb)).trans h.lb,h.pl.ext hx,h.ext.trans hx⟩
theorem LwV.setW (h:LwV W0 T L A cap pl s wr) (hA:s.wA=some ⟨g,0,none⟩) (k:Nat) (z:Int):LwV W0 T L A cap pl {s with ws:=s.ws.set k z} (wr.setCell ⟨g,k,none⟩ (.int .u64 z)):=by
 have hw:=h.st.w
 rw [hA]at hw
 obtain ⟨cur,hc⟩:=own_heap hw
 have hg:=(own_lt hw (g:=g) rfl).1
 have nT:T≠g:=fun e=>by have:=h.tb;rw [e,hc]at this;simp at this
 have nL:L≠g:=fun e=>by have:=h.lb;rw [e,hc]at this;simp at this
 refine ⟨h.st.setW hA k z,?_,blk_set_other h.lb _ nL,h.pl.setOther hc (by decide),h.ext.setCell hg _⟩
 rw [blk_set_other h.tb _ nT]
 simp only [List.length_set]
theorem LwV.setWs (h:LwV W0 T L A cap pl s wr) (hA:s.wA=some ⟨g,0,none⟩):∀(ys:List Int) (k:Nat),LwV W0 T L A cap pl {s with ws:=putW s.ws k ys} (wr.setCells g k (ys.map (Value.int .u64))):=by
 intro ys
 induction ys generalizing s wr with
 | nil=>intro k;exact h
 | cons y ys ih=>intro k;exact ih (h.setW hA k y) hA (k+1)
theorem LwV.setSl (h:LwV W0 T L A cap pl s wr) (hA:s.sA=some ⟨g,0,none⟩) (k:Nat) (hk:k < s.sl.length) (hz:s.sl[k]=(false,0,0)) (z:Int):
  LwV W0 T L A cap pl {s with sl:=s.sl.set k (true,0,z)} (((wr.setCell ⟨g,k*3,none⟩ (.bool true)).setCell ⟨g,k*3+1,none⟩ (.int .i64 0)).setCell ⟨g,k*3+2,none⟩ (.int .u64 z)):=by
 have hs:=h.st.s
 rw [hA]at hs
 obtain ⟨cur,hc⟩:=own_heap hs
 have hg:=(own_lt hs (g:=g) rfl).1
 have nT:T≠g:=fun e=>by have:=h.tb;rw [e,hc]at this;simp at this
 have nL:L≠g:=fun e=>by have:=h.lb;rw [e,hc]at this;simp at this
 have a1:=h.st.setS hA k 0 hk (by decide) (true,0,0) (.bool true) (by rw [hz];rfl)
 have a2:=a1.setS (g:=g) hA k 1 (by simpa using hk) (by decide) (true,0,0) (.int .i64 0) (by simp [slotC])
 have a3:=a2.setS (g:=g) hA k 2 (by simpa using hk) (by decide) (true,0,z) (.int .u64 z) (by simp [slotC])
 simp only [Nat.add_zero,List.set_set]at a3
 have b1:=h.pl.setOther (i:=k*3) (u:= .bool true) hc (by decide)
 have hc1:=blk_set (i:=k*3) hc (.bool true)
 have b2:=b1.setOther (i:=k*3+1) (u:= .int .i64 0) hc1 (by decide)
 have hc2:=blk_set (i:=k*3+1) hc1 (.int .i64 0)
 have b3:=b2.setOther (i:=k*3+2) (u:= .int .u64 z) hc2 (by decide)
 refine ⟨a3,?_,blk_set_other (blk_set_other (blk_set_other h.lb _ nL) _ nL) _ nL,b3,((h.ext.setCell hg _).setCell hg _).setCell hg _⟩
 rw [blk_set_other (blk_set_other (blk_set_other h.tb _ nT) _ nT) _ nT]
 simp only [List.length_set]
theorem LwV.other (h:LwV W0 T L A cap pl s wr) (hA:s.wA=some ⟨g,0,none⟩) {H:Nat} {cs:Array Value} {t:TypeId} {r:Nat×Nat} (hb:wr.heap[H]?=some (.cells cs t r)) (ht:t≠61):H≠g:=fun e=>by
 have hw:=h.st.w
 rw [hA]at hw
 obtain ⟨cur,hc⟩:=own_heap hw
 rw [e,hc]at hb
 simp only [Option.some.injEq,Obj.cells.injEq]at hb
 exact ht hb.2.1.symm
end
theorem own_tb {α:Type} {e:TypeId} {n:Nat} {f:α→List Value} {B T:Nat} {v:Value} {xs:List α} {w:World} (h:Own e n f w B v xs) {cs:Array Value} {t:TypeId} {r:Nat×Nat} (hb:w.heap[T]?=some (.cells cs t r)) (hne:t≠e) (u0 u1 u2 u3:Value):
  Own e n f ((((w.setCell ⟨T,4,none⟩ u0).setCell ⟨T,6,none⟩ u1).setCell ⟨T,7,none⟩ u2).setCell ⟨T,8,none⟩ u3) B v xs:=by
 have n1:=(h.ne_block hb hne).symm
 repeat (first | with_reducible exact h | with_reducible refine Own.setNe ?_ n1)
theorem LwV.start {W w:World} {T L:Nat} {A:Option Addr} {cap n:Nat} {pl:List Int} {t0 t1 t2 t3 top:Int} {sn b0:Bool} {wA:Option Addr} {ws:List Int} {wc:Nat} {tA:Option Addr} {tb:List (Int×Int)} {tc:Nat} {fA:Option Addr} {fr:List (Int×Int)} {fc:Nat} {sA:Option Addr} {sl:List (Bool×Int×Int)} {sc:Nat} {z6 z7 z8:Value}
  (hT:w.heap[T]?=some (.cells #[.int .i64 t0,.int .i64 t1,.int .i64 t2,.int .i64 t3,.bool b0,.slice wA ws.length wc,z6,z7,z8,.slice sA sl.length sc] 34 (0,0)))
  (hL:w.heap[L]?=some (.cells #[.slice A n cap] 38 (0,0))) (hn:pl.length=n) (hw:Own 61 1 u64C w W.heap.size (.slice wA ws.length wc) ws) (ht:OwnS w W.heap.size (.slice tA tb.length tc) tb) (hf:OwnS w W.heap.size (.slice fA fr.length fc) fr)
  (hs:Own 73 3 slotC w W.heap.size (.slice sA sl.length sc) sl) (hp:Own 3 1 intC w W.heap.size (.slice A n cap) pl) (hx:Ext W w) (hlo:W.heap.size≤T):
  LwV W T L A cap pl ⟨t0,t1,t2,t3,sn,wA,ws,wc,top,tA,tb,tc,fA,fr,fc,sA,sl,sc⟩ ((((w.setCell ⟨T,4,none⟩ (.bool sn)).setCell ⟨T,6,none⟩ (.int .i64 top)).setCell ⟨T,7,none⟩ (.slice tA tb.length tc)).setCell ⟨T,8,none⟩ (.slice fA fr.length fc)):=by
 subst hn
 have nL:L≠T:=fun e=>by rw [e,hT]at hL;simp at hL
 have h1:=blk_set (i:=4) hT (.bool sn)
 have h2:=blk_set (i:=6) h1 (.int .i64 top)
 have h3:=blk_set (i:=7) h2 (.slice tA tb.length tc)
 have h4:=blk_set (i:=8) h3 (.slice fA fr.length fc)
 exact ⟨⟨own_tb hw hT (by decide) _ _ _ _,own_tb ht hT (by decide) _ _ _ _,own_tb hf hT (by decide) _ _ _ _,own_tb hs hT (by decide) _ _ _ _⟩,h4,blk_set_other (blk_set_other (blk_set_other (blk_set_other hL _ nL) _ nL) _ nL) _ nL,own_tb hp hT (by decide) _ _ _ _,(((hx.setCell hlo _).setCell hlo _).setCell hlo _).setCell hlo _⟩
theorem lrun_copy (w:World) (ty:TypeId) (b o dl dc:Nat) (a:Addr) (sl sc:Nat) (cs:List Value) (hn:cs.length=Nat.min sl dl)
  (hsrc:∀j v,cs[j]?=some v→w.cell? (a.add j)=some v) (hc:∀j,j < cs.length→(w.cell? ⟨b,o+j,none⟩).isSome=true) (hf:∀j,j < cs.length→w.frozen? ⟨b,o+j,none⟩=false) (h1:∀v∈cs,v.oneCell'=true):
  (Builtin.copy_ #[30,30] ty #[.slice (some ⟨b,o,none⟩) dl dc,.slice (some a) sl sc]).run Tryz.prog w= .ok (goInt (Nat.min sl dl)) (w.setCells b o cs):=by
 have hl:=run_loadCells_list (P:=Tryz.prog) w a cs hsrc
 have hst:=run_storeCells_cells (P:=Tryz.prog) b o cs 0 w (by simpa using hc) (by simpa using hf) h1
 obtain ⟨i,z,hi,_,hz,_,_⟩:=(u64Info).inf
 simp only [Nat.add_zero]at hst
 simp [Builtin.copy_,run_underlying Tryz.underlying30,Builtin.lenOf,Builtin.firstCells,sizeOf,typeInfo,hi,hz,←hn,hl,hst]
theorem lrun_copy_none (w:World) (ty:TypeId) (D:Option Addr) (dl dc:Nat) (sA:Option Addr) (sc:Nat):
  (Builtin.copy_ #[30,30] ty #[.slice D dl dc,.slice sA 0 sc]).run Tryz.prog w= .ok (goInt 0) w:=by
 obtain ⟨i,z,hi,_,hz,_,_⟩:=(u64Info).inf
 have hl:=fun a=>run_loadCells_list (P:=Tryz.prog) w a [] (by simp)
 simp only [List.length_nil]at hl
 cases D <;>cases sA <;>simp [Builtin.copy_,run_underlying Tryz.underlying30,Builtin.lenOf,Builtin.firstCells,sizeOf,typeInfo,hi,hz,hl,storeCells]
def RetWr (V:World) (ws:List Int) (e:Ending) (w':World):Prop:=∃g,e= .returned (.slice (some ⟨g,0,none⟩) ws.length ws.length)∧Own 61 1 u64C w' V.heap.size (.slice (some ⟨g,0,none⟩) ws.length ws.length) ws∧Ext V w'
structure WrI (W:World) (g n:Nat) (ws:List Int) (wr:World):Prop where
 own:Own 61 1 u64C wr W.heap.size (.slice (some ⟨g,0,none⟩) n n) ws
 len:ws.length=n
 ext:Ext W wr
section
variable {W wr w' : World} {g n : Nat} {ws : List Int}
theorem WrI.grow (h:WrI W g n ws wr) (hx:Ext wr w'):WrI W g n ws w':=⟨h.own.ext hx,h.len,h.ext.trans hx⟩
theorem WrI.set (h:WrI W g n ws wr) (k:Nat) (z:Int):WrI W g n (ws.set k z) (wr.setCell ⟨g,k,none⟩ (.int .u64 z)):=
 ⟨own_setU h.own h.len k z,by rw [List.length_set];exact h.len,h.ext.setCell (own_lt h.own (g:=g) rfl).1 _⟩
theorem WrI.at (h:WrI W g n ws wr) (k:Nat) (hk:k < n):∃z,wr.cell? ⟨g,k,none⟩=some z:=by
 have z0:=own_cellAt u64Cells (by decide) h.own h.len k 0 (by rw [h.len];exact hk) _ rfl
 simp only [Nat.mul_one,Nat.add_zero]at z0
 exact ⟨_,z0⟩
theorem WrI.other (h:WrI W g n ws wr) {H:Nat} {cs:Array Value} {t:TypeId} {r:Nat×Nat} (hb:wr.heap[H]?=some (.cells cs t r)) (ht:t≠61):H≠g:=fun e=>by
 obtain ⟨cur,hc⟩:=own_heap h.own
 rw [e,hc]at hb
 simp only [Option.some.injEq,Obj.cells.injEq]at hb
 exact ht hb.2.1.symm
end
theorem refwrite_any (n:Nat) (G:GraphD) (pA:Option Addr) (pc:Nat) (pl:List Int) (V:World) (hG:GraphAt V G) (oG:GOk G) (hp:IntsAt V pA pl) (hpn:pl.length=G.ns.length) (hn:n≤100000)
  (hat:∀k,k < G.ns.length→0≤pl.getD k 0∧pl.getD k 0+1+(G.ns.getD k default).fields.length+(G.ns.getD k default).raws.length≤n∧okN (G.ns.getD k default)=true∧∀v∈(G.ns.getD k default).fields,okV G.ns.length v=true):
  Calls Tryz.prog 44 #[.int .i64 n,.agg #[.slice G.nA G.ns.length G.ncap,.slice G.rA G.rs.length G.rcap],.slice pA pl.length pc] V (RetWr V (lwW pl (G.ns.zip pl) (List.replicate n 0))):=by
 obtain ⟨nA,ncap,ns,rA,rcap,rs⟩:=G
 simp only at hpn hat
 have hx0:=(Ext.refl V).alloc (.cells #[.slice nA ns.length ncap,.slice rA rs.length rcap] 27)
 have hB:=pers_new V #[.slice nA ns.length ncap,.slice rA rs.length rcap] 27 _ rfl
 have HG:Pers _ (fun w=>GraphAt w ⟨nA,ncap,ns,rA,rcap,rs⟩):=fun w k=>hG.ext (hx0.trans k)
 have HP:Pers _ (fun w=>IntsAt w pA pl):=fun w k=>hp.ext (hx0.trans k)
 have HX:=zH hx0
 have HPN:=zH hpn
 have HAT:=zH hat
 have HNN:=zH hn
 have hnl:ns.length≤1000:=oG.2.1
 clear hx0 hG oG hp hpn hat
 go_enter Tryz.func44,Tryz.ntmps44
 go_wp2_with (at_make;refine wpList_makeU rfl (.tmp 13) rfl n rfl (by omega) ?_;intro w2 hown hxm;refine Hid.out ?_)
 have HI0:=zH (show WrI (V.alloc (.cells #[.slice nA ns.length ncap,.slice rA rs.length rcap] 27)) (V.heap.size+1) n (List.replicate n 0) w2 from ⟨by simpa using hown,by simp,by exact hxm⟩)
 clear hown hxm
 generalize V.alloc (.cells #[.slice nA ns.length ncap,.slice rA rs.length rcap] 27)=W at*
 generalize V.heap.size+1=g at*
 generalize hS:V.heap.size=S at*
 have HS:=zH hS
 clear hS
 refine zH ?_
 go_wp2_with fail
 go_loopw [8] (fun i wr=>∃k:Nat,k≤ns.length∧i= .int .i64 k∧Hid (WrI W g n (lwW pl ((ns.zip pl).take k) (List.replicate n 0)) wr)) (fun i _=>ns.length - (intOf i).toNat)
 case atStart=>exact ⟨0,by omega,rfl,HI0⟩
 case round=>
  obtain ⟨k,hk,rfl,hI⟩:=hrel
  obtain ⟨wq,rfl⟩:∃wq:World,wq=wr:=⟨_,rfl⟩
  clear HI0
  have k1:=(cells_of (hB.at hI.out.ext)).1
  by_cases hlt:k < ns.length
  rotate_left
  ·obtain rfl:k=ns.length:=by omega
   have hwf:(ns.zip pl).take ns.length=ns.zip pl:=List.take_of_length_le (by simp;omega)
   rw [hwf]at hI
   have HWL:Hid ((lwW pl (ns.zip pl) (List.replicate n 0)).length=n):=zH (by rw [lwW_len];simp)
   clear hlt hk hwf
   go_wp2_with fail
   go_ret
   exact ⟨g,by rw [HWL.out];rfl,by rw [HWL.out];exact hI.out.own.mono HX.out.size,HX.out.trans hI.out.ext⟩
  have HLT:=zH hlt
  have hk4:k≤100000:=by omega
  obtain ⟨nb,no,rfl,hcn⟩:=(HG.at hI.out.ext).nodes.row.get (by simp only;omega)
  obtain ⟨d0,d1,d2⟩:=nodes_cell hcn hlt
  have hat:=HAT.out k hlt
  have HN:Pers W (fun w=>NodeAt w (ns.getD k default)):=fun w hw=>(HG.at hw).nodes.each _ (getD_mem (d:=default) HLT.out)
  have hzk:(ns.zip pl).take (k+1)=(ns.zip pl).take k++ [(ns.getD k default,pl.getD k 0)]:=by
   have hl:k < (ns.zip pl).length:=by have:=HPN.out;simp;omega
   rw [List.take_add_one,List.getElem?_eq_getElem hl,Option.toList_some,lzip_getElem hl]
  have HNX:Hid (lwW pl ((ns.zip pl).take (k+1)) (List.replicate n 0)=putW (lwW pl ((ns.zip pl).take k) (List.replicate n 0)) (pl.getD k 0).toNat (nodeWs pl (ns.getD k default))):=zH (by rw [hzk,lwW_snoc])
  obtain ⟨pb,poff,rfl,hcp⟩:=(HP.at hI.out.ext).get (by have:=HPN.out;omega)
  have cp:=ints_cell hcp (k:=k) (by have:=HPN.out;omega)
  have ib0:(0:Int)≤(k:Int):=by omega
  have ib1:(k:Int) < (ns.length:Int):=by omega
  have ib2:(k:Int) < (pl.length:Int):=by have:=HPN.out;omega
  clear hcn hlt hk hzk hcp
  generalize lwW pl ((ns.zip pl).take k) (List.replicate n 0)=wk at*
  obtain ⟨x,hx⟩:∃x,ns.getD k default=x:=⟨_,rfl⟩
  rw [hx]at HNX hat HN d0 d1 d2
  obtain ⟨p,hp⟩:=Int.eq_ofNat_of_zero_le hat.1
  rw [hp]at HNX hat cp
  rw [Int.toNat_natCast]at HNX
  have HA:=zH hat
  clear hx hp hat
  obtain ⟨xk,xA,xc,fs,yA,yc,ys⟩:=x
  simp only at d0 d1 d2 HA
  have hy:=(Ext.refl wq).alloc (.cells #[.int .i64 xk,.slice xA fs.length xc,.slice yA ys.length yc] 66)
  have hH:=blk_new wq #[.int .i64 xk,.slice xA fs.length xc,.slice yA ys.length yc] 66 _ rfl
  have HI1:=zH (hI.out.grow hy)
  have cp1:=hy.cell cp
  have HHp:=pers_blk hH
  obtain ⟨u,hu⟩:∃u,hwordZ ⟨xk,fs.length,ys.length,false,0⟩=u:=⟨_,rfl⟩
  obtain ⟨er,her⟩:∃e,herrZ ⟨xk,fs.length,ys.length,false,0⟩=e:=⟨_,rfl⟩
  have HNW:Hid (nodeWs pl ⟨xk,xA,xc,fs,yA,yc,ys⟩=u::(fs.map (wordV pl)++ys)):=zH (by rw [←hu];rfl)
  rw [HNW.out]at HNX
  have HEN:=zH (fun w=>refhenc_any ⟨xk,fs.length,ys.length,false,0⟩ w)
  rw [hu,her]at HEN
  clear hI hu her
  go_wp2_with fail
  generalize wq.alloc (.cells #[.int .i64 xk,.slice xA fs.length xc,.slice yA ys.length yc] 66)=W7 at*
  generalize wq.heap.size=H at*
  clear hy cp cp1 d0 d1 d2 k1 ib0 ib1 ib2
  refine (HEN.out _).mono ?_
  rintro e w1 ⟨rfl,hx⟩
  have HI2:=zH (HI1.out.grow hx)
  have hH2:=HHp.at hx
  have hal:=HA.out.2.1
  obtain ⟨zo,hzo⟩:=HI2.out.at p (by omega)
  have zf:=own_frozen HI2.out.own
  have ic0:(0:Int)≤(p:Int):=by omega
  have ic1:(p:Int) < (n:Int):=by omega
  have HI3:=zH (HI2.out.set p u)
  have hH3:=blk_set_other hH2 (i:=p) (c:=g) (.int .u64 u) (HI2.out.other hH2 (by decide))
  have HH3:=zH hH3
  clear hx hal hH hH2 HHp hH3 HI1 HI2
  go_wp2_with fail
  clear hzo zf ic0 ic1
  generalize w1.setCell ⟨g,p,none⟩ (.int .u64 u)=W8 at*
  go_loopw [11] (fun i wr=>∃j:Nat,j≤fs.length∧i= .int .i64 j∧Hid (WrI W g n (putW wk p (u::(fs.take j).map (wordV pl))) wr)∧Hid (wr.heap[H]?=some (.cells #[.int .i64 xk,.slice xA fs.length xc,.slice yA ys.length yc] 66 (0,0)))) (fun i _=>fs.length - (intOf i).toNat)
  case atStart=>exact ⟨0,by omega,rfl,HI3,HH3⟩
  case round=>
   obtain ⟨j,hj,rfl,hI,hHr⟩:=hrel
   obtain ⟨wo,rfl⟩:∃wo:World,wo=wr:=⟨_,rfl⟩
   clear HI3 HH3
   have k1:=(cells_of hHr.out).1
   have hal:=HA.out.2.1
   have hnn:=HNN.out
   by_cases hjl:j < fs.length
   rotate_left
   ·obtain rfl:j=fs.length:=by omega
    rw [List.take_length]at hI
    have HI4:Hid (WrI W g n (putW (putW wk p (u::fs.map (wordV pl))) (p+1+fs.length) (ys.take 0)) wo):=zH (by exact hI.out)
    clear hjl hj hI
    go_wp2_with fail
    clear k1
    go_loopw [12] (fun i wr=>∃m:Nat,m≤ys.length∧i= .int .i64 m∧Hid (WrI W g n (putW (putW wk p (u::fs.map (wordV pl))) (p+1+fs.length) (ys.take m)) wr)∧Hid (wr.heap[H]?=some (.cells #[.int .i64 xk,.slice xA fs.length xc,.slice yA ys.length yc] 66 (0,0)))) (fun i _=>ys.length - (intOf i).toNat)
    case atStart=>exact ⟨0,by omega,rfl,HI4,hHr⟩
    case round=>
     obtain ⟨m,hm,rfl,hI,hHs⟩:=hrel
     obtain ⟨wz,rfl⟩:∃wz:World,wz=wr:=⟨_,rfl⟩
     clear HI4 hHr
     have k1:=(cells_of hHs.out).1
     by_cases hml:m < ys.length
     rotate_left
     ·obtain rfl:m=ys.length:=by omega
      rw [List.take_length]at hI
      have HNY:Hid (lwW pl ((ns.zip pl).take (k+1)) (List.replicate n 0)=putW (putW wk p (u::fs.map (wordV pl))) (p+1+fs.length) ys):=zH (by
       rw [HNX.out,←List.cons_append,putW_app]
       congr 1
       simp
       omega)
      rw [←HNY.out]at hI
      clear hml hm hal
      go_wp2_with fail
      go_roundw
      case rel=>exact ⟨k+1,by have:=HLT.out;omega,by go_num,hI⟩
      case measure=>have:=HLT.out;simp [intOf];omega
     have HML:=zH hml
     obtain ⟨yb,yo,rfl,hcy⟩:=(HN.at hI.out.ext).raws.get (by simp only;omega)
     have c1:=words_cell hcy hml
     have HSN:Hid (putW (putW wk p (u::fs.map (wordV pl))) (p+1+fs.length) (ys.take (m+1))=(putW (putW wk p (u::fs.map (wordV pl))) (p+1+fs.length) (ys.take m)).set (p+1+fs.length+m) (ys.getD m 0)):=zH (by
      rw [List.take_add_one,List.getElem?_eq_getElem hml,Option.toList_some,putW_snoc,getD_get hml]
      congr 1
      simp
      omega)
     have hyd:=(Ext.refl wz).drew
     have hGP:ExtS wz wz.drew:=hyd
     have b1:=fun u:KeptOf wz.drew (ExtS wz)=>hGP.cell (k1 1) u
     have b2:=fun u:KeptOf wz.drew (ExtS wz)=>hGP.cell (k1 2) u
     have b3:=fun u:KeptOf wz.drew (ExtS wz)=>hGP.cell c1 u
     have mb0:(0:Int)≤(m:Int):=by omega
     have mb1:(m:Int) < (ys.length:Int):=by omega
     have ic0:(0:Int)≤(p:Int)+1+(fs.length:Int)+(m:Int):=by omega
     have ic1:(p:Int)+1+(fs.length:Int)+(m:Int) < (n:Int):=by omega
     have ht:((p:Int)+1+(fs.length:Int)+(m:Int)).toNat=p+1+fs.length+m:=by omega
     generalize ys.getD m 0=yv at*
     clear hcy c1 hml hm
     go_wp2_with fail
     (refine wp_region_gp (w:=wz) (fun w'=>∃u:KeptOf (wz).drew (ExtS wz),w'=u.1) (.rd [0,1,2,3,4,5,6,7,8,9,10,11,12,13,14] .tl) [15] (by kernel_rfl) (by kernel_rfl) (by intro c a d v w h;first | exact h | (cases d <;>first | exact h | (cases h;done) | cases h.1.1 | cases h.1)) (kept_mk hGP) ?_)
     (refine gp_rd ?_;(try simp only [opsOf,List.map_cons,List.map_nil,List.getD_cons_zero,List.getD_cons_succ]);(repeat (go_big_quiet_step (fail)));refine wpQuiet_nil ?_)
     have hx:=hyd
     clear b1 b2 b3 hGP hyd
     generalize wz.drew=WD at*
     (refine gp_tl ?_;(try simp only [opsOf,List.map_cons,List.map_nil,List.getD_cons_zero,List.getD_cons_succ]))
     have HI5:=zH (hI.out.grow hx)
     have hH5:=(hx.block (lt_of_heap hHs.out)).trans hHs.out
     obtain ⟨zo,hzo⟩:=HI5.out.at (p+1+fs.length+m) (by omega)
     have zf:=own_frozen HI5.out.own
     have HI6:=zH (HI5.out.set (p+1+fs.length+m) yv)
     have hH6:=blk_set_other hH5 (i:=p+1+fs.length+m) (c:=g) (.int .u64 yv) (HI5.out.other hH5 (by decide))
     rw [←HSN.out]at HI6
     have HH6:=zH hH6
     have hm4:m≤100000:=by omega
     clear ic0 ic1 mb0 mb1 hx hI hHs hH5 hH6 HI5 k1 hal
     go_wp2_with fail
     go_roundw
     case rel=>exact ⟨m+1,by have:=HML.out;omega,by go_num,HI6,HH6⟩
     case measure=>have:=HML.out;simp [intOf];omega
   have HJL:=zH hjl
   obtain ⟨fb,fo,rfl,hcf⟩:=(HN.at hI.out.ext).fields.get (by simp only;omega)
   obtain ⟨e0,e1⟩:=spans_cell hcf hjl
   have hok:=HA.out.2.2.2 _ (getD_mem (d:=((0:Int),(0:Int))) hjl)
   have HSN:Hid (putW wk p (u::(fs.take (j+1)).map (wordV pl))=(putW wk p (u::(fs.take j).map (wordV pl))).set (p+1+j) (wordV pl (fs.getD j (0,0)))):=zH (by
    rw [List.take_add_one,List.getElem?_eq_getElem hjl,Option.toList_some,List.map_append,List.map_singleton,←List.cons_append,putW_snoc,getD_get hjl]
    congr 1
    simp
    omega)
   have jb0:(0:Int)≤(j:Int):=by omega
   have jb1:(j:Int) < (fs.length:Int):=by omega
   have hj4:j≤100000:=by omega
   have ic0:(0:Int)≤(p:Int)+1+(j:Int):=by omega
   have ic1:(p:Int)+1+(j:Int) < (n:Int):=by omega
   have ht:((p:Int)+1+(j:Int)).toNat=p+1+j:=by omega
   obtain ⟨v,hv⟩:∃v,fs.getD j (0,0)=v:=⟨_,rfl⟩
   rw [hv]at e0 e1 hok HSN
   clear hcf hjl hj hv
   obtain ⟨vk,vx⟩:=v
   simp only at e0 e1
   have hxv:vk=2→0≤vx∧vx < pl.length:=fun h2=>by
    have:=okV_ref2 hok h2
    rw [HPN.out]
    exact this
   have HW:=zH (refword_any (some ⟨pb,poff,none⟩) pl.length pc pl vk vx wo rfl (HP.at hI.out.ext) hxv)
   clear hxv hok
   generalize wordV pl (vk,vx)=wv at*
   go_wp2_with fail
   refine HW.out.mono ?_
   rintro e w5 ⟨rfl,hx⟩
   have HI5:=zH (hI.out.grow hx)
   have hH5:=(hx.block (lt_of_heap hHr.out)).trans hHr.out
   obtain ⟨zo,hzo⟩:=HI5.out.at (p+1+j) (by omega)
   have zf:=own_frozen HI5.out.own
   have HI6:=zH (HI5.out.set (p+1+j) wv)
   have hH6:=blk_set_other hH5 (i:=p+1+j) (c:=g) (.int .u64 wv) (HI5.out.other hH5 (by decide))
   rw [←HSN.out]at HI6
   have HH6:=zH hH6
   clear e0 e1 jb0 jb1 hx hI hHr hH5 hH6 HI5 k1 hal HW
   go_wp2_with fail
   go_roundw
   case rel=>exact ⟨j+1,by have:=HJL.out;omega,by go_num,HI6,HH6⟩
   case measure=>have:=HJL.out;simp [intOf];omega
end Go.Proofs.YtphpppjfogpohaaGreat
