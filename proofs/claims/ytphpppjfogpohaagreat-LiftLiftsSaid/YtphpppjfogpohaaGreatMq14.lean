/- Merged by program (merge.py) out of: ExtD, ExtE, LedA, Law03B, StD, StE, StDa, ExtF. -/
import Derived.Test.YtphpppjfogpohaaGreatMq0
import Derived.Test.YtphpppjfogpohaaGreatMq13
import Derived.Test.YtphpppjfogpohaaGreatMq4
import Derived.Test.YtphpppjfogpohaaGreatMq7
import Derived.Test.YtphpppjfogpohaaGreatMq11
set_option linter.unusedSimpArgs false
set_option linter.unusedVariables false
set_option maxRecDepth 100000
set_option maxHeartbeats 16000000
namespace Go.Proofs.YtphpppjfogpohaaGreat
open Go.RowKit Go.Shelf
end Go.Proofs.YtphpppjfogpohaaGreat
namespace Go.Proofs.YtphpppjfogpohaaGreat
open Go.RowKit
theorem pz {a s:Int} {xs zs:List (Int×Int)} (h:eR a s xs zs):zs.length≤xs.length+1:=by
 by_cases hm:mayB a s=true
 rotate_left
 ·have : zs = [] := by
   cases zs with
   | nil=>rfl
   | cons z zs=>
    have h1:=h.pos z sM
    have:=((h.mem z.1).1 ⟨z,by simp,by omega,by omega⟩).1
    unfold hasB at this
    simp [hm]at this
  subst this;simp
 have hj:=gW xs
 obtain ⟨pre,h1,h2,h3⟩:∃pre,pre <+:dg xs∧(∀x∈pre,x.1 < a+s)∧(pre=dg xs∨∃x,pre++ [x] <+:dg xs∧a+s≤x.1):=by
  suffices ∀l:List (Int×Int),∃pre,pre <+:l∧(∀x∈pre,x.1 < a+s)∧(pre=l∨∃x,pre++ [x] <+:l∧a+s≤x.1)from this _
  intro l
  induction l with
  | nil=>exact ⟨[],List.prefix_refl _,by simp,.inl rfl⟩
  | cons y l ih=>
   by_cases hy:y.1 < a+s
   ·obtain ⟨pre,h1,h2,h3⟩:=ih
    refine ⟨y::pre,by simpa using h1,fun x hx=> ?_,?_⟩
    ·rw [List.mem_cons]at hx
     rcases hx with rfl | hx
     ·exact hy
     ·exact h2 x hx
    ·rcases h3 with rfl | ⟨x,hx,hx2⟩
     ·exact .inl rfl
     ·exact .inr ⟨x,by simpa using hx,hx2⟩
   ·exact ⟨[],List.nil_prefix,by simp,.inr ⟨y,by simp,by omega⟩⟩
 have hg:=kw hm hj h1 h2 h3
 have e:=Canon.unique h hg
 rw [e]
 have h4:=iR a pre
 have h5:=h1.length_le
 have h6:=iy xs
 unfold gw
 split <;>simp <;>omega
end Go.Proofs.YtphpppjfogpohaaGreat
namespace Go.Proofs.YtphpppjfogpohaaGreat
open Go.RowKit Go.Shelf
structure StD where
 c0:Int
 c1:Int
 c2:Int
 c3:Int
 snd:Bool
 wA:Option Addr
 ws:List Int
 wc:Nat
 top:Int
 tA:Option Addr
 tb:List (Int×Int)
 tc:Nat
 fA:Option Addr
 fr:List (Int×Int)
 fc:Nat
 sA:Option Addr
 sl:List (Bool×Int×Int)
 sc:Nat
structure StAt (W:World) (s:StD):Prop where
 w:WordsAt W s.wA s.ws
 t:SpansAt W s.tA s.tb
 f:SpansAt W s.fA s.fr
 s:SlotsAt W s.sA s.sl
theorem StAt.ext {W W':World} {s:StD} (h:StAt W s) (hx:Ext W W'):StAt W' s:=⟨h.w.ext hx,h.t.ext hx,h.f.ext hx,h.s.ext hx⟩
theorem StAt.pers {W:World} {s:StD} (h:StAt W s):Pers W (fun w=>StAt w s):=fun _ k=>h.ext k
structure StLe (s:StD):Prop where
 w:s.ws.length≤98304
 t:s.tb.length≤98304
 f:s.fr.length≤98304
 s:s.sl.length≤98304
def eqvS (a b:StD):Bool:=decide (a.c0=b.c0∧a.c1=b.c1∧a.c2=b.c2∧a.c3=b.c3) && decide (a.snd=b.snd) && decide (a.top=b.top) && decide (a.ws=b.ws) && decide (a.tb=b.tb) && decide (a.fr=b.fr) && decide (a.sl=b.sl)
theorem qB {a b:StD}:eqvS a b=true↔(a.c0=b.c0∧a.c1=b.c1∧a.c2=b.c2∧a.c3=b.c3)∧a.snd=b.snd∧a.top=b.top∧a.ws=b.ws∧a.tb=b.tb∧a.fr=b.fr∧a.sl=b.sl:=by
 simp [eqvS,and_assoc]
structure StOwn (B:Nat) (W:World) (s:StD):Prop where
 w:Own 61 1 u64C W B (.slice s.wA s.ws.length s.wc) s.ws
 t:Own 63 2 ac W B (.slice s.tA s.tb.length s.tc) s.tb
 f:Own 63 2 ac W B (.slice s.fA s.fr.length s.fc) s.fr
 s:Own 73 3 fN W B (.slice s.sA s.sl.length s.sc) s.sl
theorem StOwn.at {B:Nat} {W:World} {s:StD} (h:StOwn B W s):StAt W s:=⟨(ag h.w dB dM).1,(ag h.t aE dM).1,(ag h.f aE dM).1,(ag h.s en dM).1⟩
def zw (V:World) (s:StD) (e:Ending) (w':World):Prop:=∃t:StD,e= .returned (.agg #[.int .i64 t.c0,.int .i64 t.c1,.int .i64 t.c2,.int .i64 t.c3,.bool t.snd,.slice t.wA t.ws.length t.wc,.int .i64 t.top,.slice t.tA t.tb.length t.tc,.slice t.fA t.fr.length t.fc,.slice t.sA t.sl.length t.sc])∧StOwn V.heap.size w' t∧eqvS t s=true∧Ext V w'
theorem uD (s:StD) (V:World) (h:StAt V s) (hle:StLe s):Calls Tryz.prog 37 #[.agg #[.int .i64 s.c0,.int .i64 s.c1,.int .i64 s.c2,.int .i64 s.c3,.bool s.snd,.slice s.wA s.ws.length s.wc,.int .i64 s.top,.slice s.tA s.tb.length s.tc,.slice s.fA s.fr.length s.fc,.slice s.sA s.sl.length s.sc]] V (zw V s):=by
 obtain ⟨c0,c1,c2,c3,sn,wA,ws,wc,top,tA,tb,tc,fA,fr,fc,sA,sl,sc⟩:=s
 obtain ⟨hw,ht,hf,hs⟩:=h
 obtain ⟨l1,l2,l3,l4⟩:=hle
 simp only at hw ht hf hs l1 l2 l3 l4
 have HW:=af hw
 have HT:=af ht
 have HF:=af hf
 have HS:=af hs
 have hl:V.heap.size < V.heap.size+1:=by omega
 clear hw ht hf hs
 have hB:=iP V #[.int .i64 c0,.int .i64 c1,.int .i64 c2,.int .i64 c3,.bool sn,.slice wA ws.length wc,.int .i64 top,.slice tA tb.length tc,.slice fA fr.length fc,.slice sA sl.length sc] 34 _ rfl (.cells #[.int .i64 0,.int .i64 0,.int .i64 0,.int .i64 0,.bool false,.slice none 0 0,.int .i64 0,.slice none 0 0,.slice none 0 0,.slice none 0 0] 34)
 have hZ:=aG (V.alloc (.cells #[.int .i64 c0,.int .i64 c1,.int .i64 c2,.int .i64 c3,.bool sn,.slice wA ws.length wc,.int .i64 top,.slice tA tb.length tc,.slice fA fr.length fc,.slice sA sl.length sc] 34)) #[.int .i64 0,.int .i64 0,.int .i64 0,.int .i64 0,.bool false,.slice none 0 0,.int .i64 0,.slice none 0 0,.slice none 0 0,.slice none 0 0] 34 (V.heap.size+1) sM
 have hX:=((AD V).alloc (.cells #[.int .i64 c0,.int .i64 c1,.int .i64 c2,.int .i64 c3,.bool sn,.slice wA ws.length wc,.int .i64 top,.slice tA tb.length tc,.slice fA fr.length fc,.slice sA sl.length sc] 34)).alloc (.cells #[.int .i64 0,.int .i64 0,.int .i64 0,.int .i64 0,.bool false,.slice none 0 0,.int .i64 0,.slice none 0 0,.slice none 0 0,.slice none 0 0] 34)
 go_enter Tryz.func37,Tryz.ntmps37
 go_wp2_with fail
 generalize (V.alloc (.cells #[.int .i64 c0,.int .i64 c1,.int .i64 c2,.int .i64 c3,.bool sn,.slice wA ws.length wc,.int .i64 top,.slice tA tb.length tc,.slice fA fr.length fc,.slice sA sl.length sc] 34)).alloc (.cells #[.int .i64 0,.int .i64 0,.int .i64 0,.int .i64 0,.bool false,.slice none 0 0,.int .i64 0,.slice none 0 0,.slice none 0 0,.slice none 0 0] 34)=W at*
 generalize hS:V.heap.size=S at*
 have HVS:=zH hS
 clear hS
 have g1:=hB.cells
 have g2:=hB.frees
 have hxw:=AD W
 have HX:=zH hX
 have hWS:S≤W.heap.size:=by have:=hX.size;rw [HVS.out]at this;exact this
 (refine bW (W:=W) [([(0,true),(1,true),(3,true),(4,true)],2),([(6,true)],5)] [] [7,8,9] kR kR (by intro c a d v w h;cases d <;>first | exact h | (cases h;done) | cases h.1.1 | cases h.1) aS ?_;simp only [aI,List.map_cons,List.map_nil,List.getD_cons_zero,List.getD_cons_succ])
 ((first | refine bz ?_ | refine cA ?_);(repeat (go_big_quiet_step (fail)));refine wpQuiet_nil ?_;intro w1 hx)
 ((refine fe ?_ ?_;(focus rfl);intro K hK;go_simp);refine (gP wA wc ws _ oM (HW.at (hX.trans hx))).mono ?_;rintro e W1 ⟨A1,cap1,rfl,ho1,hx2⟩;refine hK W1 _ _ (hx.trans hx2) (AD _) ?_;have hz2:=hx.size;replace hx2:=hx.trans hx2;replace hB:=hB.re hx2;replace hZ:=hZ.re hx2;clear hK K hx)
 have HO1:=cK (ho1.mono (B':=S) oM)
 replace HX:=zH (hX.trans hx2)
 have hW1:=hx2.size
 clear ho1 hx2 g1 g2 hxw hX
 have g1:=hB.cells
 have g2:=hB.frees
 ((first | refine bz ?_ | refine cA ?_);(repeat (go_big_quiet_step (fail)));refine wpQuiet_nil ?_;intro w1 hx)
 ((refine fe ?_ ?_;(focus rfl);intro K hK;go_simp);refine (jh tA tc tb _ oM (HT.at (HX.out.trans hx))).mono ?_;rintro e W2 ⟨A2,cap2,rfl,ho2,hx2⟩;refine hK W2 _ _ (hx.trans hx2) (AD _) ?_;have hz2:=hx.size;replace hx2:=hx.trans hx2;replace hB:=hB.re hx2;replace hZ:=hZ.re hx2;replace HO1:=HO1.re hx2;clear hK K hx)
 have HO2:=cK (ho2.mono (B':=S) oM)
 replace HX:=zH (HX.out.trans hx2)
 have hW2:=hx2.size
 clear ho2 hx2 g1 g2
 have g1:=hB.cells
 have g2:=hB.frees
 ((first | refine bz ?_ | refine cA ?_);(repeat (go_big_quiet_step (fail)));refine wpQuiet_nil ?_;intro w1 hx)
 (obtain ⟨uq,rfl⟩:∃u:ExtOf W2,w1=u.1:=⟨⟨w1,hx⟩,rfl⟩;clear hx;go_wp2_with fail)
 have hb4:((uq.1.setCell ⟨S,5,none⟩ (.slice A1 ws.length cap1)).setCell ⟨S,7,none⟩ (.slice A2 tb.length cap2)).heap[S]?=some (.cells #[.int .i64 c0,.int .i64 c1,.int .i64 c2,.int .i64 c3,.bool sn,.slice A1 ws.length cap1,.int .i64 top,.slice A2 tb.length cap2,.slice fA fr.length fc,.slice sA sl.length sc] 34 (0,0)):=aL (aL (hB.at uq.2) _) _
 have hz4:=bM (c:=S) (i:=7) (bM (c:=S) (i:=5) (hZ.at uq.2) (.slice A1 ws.length cap1) oM) (.slice A2 tb.length cap2) oM
 have hx4:Ext V ((uq.1.setCell ⟨S,5,none⟩ (.slice A1 ws.length cap1)).setCell ⟨S,7,none⟩ (.slice A2 tb.length cap2)):=((HX.out.trans uq.2).setCell (by rw [HVS.out];exact Nat.le_refl S) _).setCell (by rw [HVS.out];exact Nat.le_refl S) _
 have ho1:=((HO1.at uq.2).setOther (i:=5) (u:= .slice A1 ws.length cap1) (hB.at uq.2) dM).setOther (i:=7) (u:= .slice A2 tb.length cap2) (aL (hB.at uq.2) _) dM
 have ho2:=((HO2.at uq.2).setOther (i:=5) (u:= .slice A1 ws.length cap1) (hB.at uq.2) dM).setOther (i:=7) (u:= .slice A2 tb.length cap2) (aL (hB.at uq.2) _) dM
 have hW4:W2.heap.size≤((uq.1.setCell ⟨S,5,none⟩ (.slice A1 ws.length cap1)).setCell ⟨S,7,none⟩ (.slice A2 tb.length cap2)).heap.size:=by have:=uq.2.size;simpa using this
 generalize (uq.1.setCell ⟨S,5,none⟩ (.slice A1 ws.length cap1)).setCell ⟨S,7,none⟩ (.slice A2 tb.length cap2)=W4 at*
 clear g1 g2 hB hZ HO1 HO2 HX
 have hB:=aP hb4
 have hZ:=aP hz4
 have HO1:=cK ho1
 have HO2:=cK ho2
 have HX:=zH hx4
 have hxw:=AD W4
 clear hb4 hz4 ho1 ho2 hx4
 have g1:=hB.cells
 have g2:=hB.frees
 (refine bW (W:=W4) [([(0,true),(1,true),(3,true),(4,true)],2),([(6,true)],5)] [] [7,8,9] kR kR (by intro c a d v w h;cases d <;>first | exact h | (cases h;done) | cases h.1.1 | cases h.1) aS ?_;simp only [aI,List.map_cons,List.map_nil,List.getD_cons_zero,List.getD_cons_succ])
 ((first | refine bz ?_ | refine cA ?_);(repeat (go_big_quiet_step (fail)));refine wpQuiet_nil ?_;intro w1 hx)
 ((refine fe ?_ ?_;(focus rfl);intro K hK;go_simp);refine (jh fA fc fr _ oM (HF.at (HX.out.trans hx))).mono ?_;rintro e W5 ⟨A5,cap5,rfl,ho5,hx2⟩;refine hK W5 _ _ (hx.trans hx2) (AD _) ?_;have hz2:=hx.size;replace hx2:=hx.trans hx2;replace hB:=hB.re hx2;replace hZ:=hZ.re hx2;replace HO1:=HO1.re hx2;replace HO2:=HO2.re hx2;clear hK K hx)
 have HO5:=cK (ho5.mono (B':=S) oM)
 replace HX:=zH (HX.out.trans hx2)
 have hW5:=hx2.size
 clear ho5 hx2 g1 g2 hxw
 have g1:=hB.cells
 have g2:=hB.frees
 ((first | refine bz ?_ | refine cA ?_);(repeat (go_big_quiet_step (fail)));refine wpQuiet_nil ?_;intro w1 hx)
 ((refine fe ?_ ?_;(focus rfl);intro K hK;go_simp);refine (pT sA sc sl _ oM (HS.at (HX.out.trans hx))).mono ?_;rintro e W6 ⟨A6,cap6,rfl,ho6,hx2⟩;refine hK W6 _ _ (hx.trans hx2) (AD _) ?_;have hz2:=hx.size;replace hx2:=hx.trans hx2;replace hB:=hB.re hx2;replace hZ:=hZ.re hx2;replace HO1:=HO1.re hx2;replace HO2:=HO2.re hx2;replace HO5:=HO5.re hx2;clear hK K hx)
 have HO6:=cK (ho6.mono (B':=S) oM)
 replace HX:=zH (HX.out.trans hx2)
 clear ho6 hx2 g1 g2
 have g1:=hB.cells
 have g2:=hB.frees
 have g3:=hZ.cells
 have g4:=hZ.frees
 ((first | refine bz ?_ | refine cA ?_);(repeat (go_big_quiet_step (fail)));refine wpQuiet_nil ?_;intro w1 hx)
 (obtain ⟨uq,rfl⟩:∃u:ExtOf W6,w1=u.1:=⟨⟨w1,hx⟩,rfl⟩;clear hx;go_wp2_with fail)
 have o1:=HO1.at uq.2
 have o2:=HO2.at uq.2
 have o5:=HO5.at uq.2
 have o6:=HO6.at uq.2
 have hb:=hB.at uq.2
 have hz:=hZ.at uq.2
 have hx:=HX.out.trans uq.2
 ((try simp only [Exit.inBlock,Exit.then]);refine bodyPost_ret (v:= .agg #[.int .i64 c0,.int .i64 c1,.int .i64 c2,.int .i64 c3,.bool sn,.slice A1 ws.length cap1,.int .i64 top,.slice A2 tb.length cap2,.slice A5 fr.length cap5,.slice A6 sl.length cap6]) (by simp only [results,Tryz.results37];go_simp) rfl ?_)
 refine ⟨⟨c0,c1,c2,c3,sn,A1,ws,cap1,top,A2,tb,cap2,A5,fr,cap5,A6,sl,cap6⟩,rfl,⟨?_,?_,?_,?_⟩,?_,?_⟩
 ·rw [HVS.out]
  have n1:=(o1.ne_block hb dM).symm
  have n2:=(o1.ne_block hz dM).symm
  repeat (first | with_reducible exact o1 | with_reducible refine AT ?_ n1 | with_reducible refine AT ?_ n2)
 ·rw [HVS.out]
  have n1:=(o2.ne_block hb dM).symm
  have n2:=(o2.ne_block hz dM).symm
  repeat (first | with_reducible exact o2 | with_reducible refine AT ?_ n1 | with_reducible refine AT ?_ n2)
 ·rw [HVS.out]
  have n1:=(o5.ne_block hb dM).symm
  have n2:=(o5.ne_block hz dM).symm
  repeat (first | with_reducible exact o5 | with_reducible refine AT ?_ n1 | with_reducible refine AT ?_ n2)
 ·rw [HVS.out]
  have n1:=(o6.ne_block hb dM).symm
  have n2:=(o6.ne_block hz dM).symm
  repeat (first | with_reducible exact o6 | with_reducible refine AT ?_ n1 | with_reducible refine AT ?_ n2)
 ·simp [eqvS]
 ·have n1:V.heap.size≤S:=by rw [HVS.out];exact Nat.le_refl _
  have n2:V.heap.size≤S+1:=by omega
  repeat (first | with_reducible exact hx | with_reducible refine AX ?_ n1 _ | with_reducible refine AX ?_ n2 _)
end Go.Proofs.YtphpppjfogpohaaGreat
