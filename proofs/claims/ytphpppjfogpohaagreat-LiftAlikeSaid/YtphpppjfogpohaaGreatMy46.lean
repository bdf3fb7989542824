/- Merged by program (merge.py) out of: LfC, LfD, LfE. -/
import Derived.Test.YtphpppjfogpohaaGreatMy0
import Derived.Test.YtphpppjfogpohaaGreatMy42
import Derived.Test.YtphpppjfogpohaaGreatMy45
import Derived.Test.YtphpppjfogpohaaGreatMy7
import Derived.Test.YtphpppjfogpohaaGreatMy30
import Derived.Test.YtphpppjfogpohaaGreatMy35
set_option linter.unusedSimpArgs false
set_option linter.unusedVariables false
set_option maxRecDepth 100000
set_option maxHeartbeats 16000000
namespace Go.Proofs.YtphpppjfogpohaaGreat
open Go.RowKit Go.Shelf
structure LfB (s:StD):Prop where
 ws:s.ws.length≤1000
 tb:s.tb.length≤1000
 fr:s.fr.length≤1000
 sl:s.sl.length≤1000
 b:StB s
 tn:s.tA=none→s.tc=0
 wl:s.ws.length≤s.wc
theorem LfB.le {s:StD} (h:LfB s):StLe s:=⟨by have:=h.ws;omega,by have:=h.tb;omega,by have:=h.fr;omega,by have:=h.sl;omega⟩
theorem mJ {V w:World} {s:StD} (h:chkS s≠0) (hx:Ext V w):qo V (dQ s) (dR s) (gi s) (bT s) (.returned (.tuple #[.agg #[.slice none 0 0,.slice none 0 0],.slice none 0 0,.int .i64 4])) w:=by
 unfold dQ dR gi bT
 rw [if_neg h,if_neg h,if_neg h,if_neg h]
 exact ⟨⟨none,0,[],none,0,[]⟩,none,0,rfl,⟨⟨AI _ _ _,by simp⟩,AI _ _ _⟩,rfl,rfl,⟨by simp,fun _=>rfl,fun _=>rfl,by simp,by simp⟩,AI _ _ _,hx⟩
theorem nU (s:StD) (V:World) (h:StAt V s) (hb:LfB s):Calls Tryz.prog 24 #[.agg #[.int .i64 s.c0,.int .i64 s.c1,.int .i64 s.c2,.int .i64 s.c3,.bool s.snd,.slice s.wA s.ws.length s.wc,.int .i64 s.top,.slice s.tA s.tb.length s.tc,.slice s.fA s.fr.length s.fc,.slice s.sA s.sl.length s.sc]] V (qo V (dQ s) (dR s) (gi s) (bT s)):=by
 have hx0:=((zo V).alloc (.cells #[.int .i64 s.c0,.int .i64 s.c1,.int .i64 s.c2,.int .i64 s.c3,.bool s.snd,.slice s.wA s.ws.length s.wc,.int .i64 s.top,.slice s.tA s.tb.length s.tc,.slice s.fA s.fr.length s.fc,.slice s.sA s.sl.length s.sc] 34)).alloc (.cells #[.slice none 0 0,.slice none 0 0] 27)
 have HBS:=zH ((aF V #[.int .i64 s.c0,.int .i64 s.c1,.int .i64 s.c2,.int .i64 s.c3,.bool s.snd,.slice s.wA s.ws.length s.wc,.int .i64 s.top,.slice s.tA s.tb.length s.tc,.slice s.fA s.fr.length s.fc,.slice s.sA s.sl.length s.sc] 34 _ rfl).re ((zo _).alloc (.cells #[.slice none 0 0,.slice none 0 0] 27)))
 have HBR:=zH (aF (V.alloc (.cells #[.int .i64 s.c0,.int .i64 s.c1,.int .i64 s.c2,.int .i64 s.c3,.bool s.snd,.slice s.wA s.ws.length s.wc,.int .i64 s.top,.slice s.tA s.tb.length s.tc,.slice s.fA s.fr.length s.fc,.slice s.sA s.sl.length s.sc] 34)) #[.slice none 0 0,.slice none 0 0] 27 (V.heap.size+1) sM)
 have HX:=zH hx0
 have HS:=zH (h.ext hx0)
 have HB:=zH hb
 have HVV:Hid (V.heap.size≤V.heap.size+1):=zH oM
 have kS:=(aB HBS.out.here).1
 clear hx0 h hb
 by_cases hc:chkS s=0
 rotate_left
 ·have HC:=zH hc
  have HO:Hid (nT s [] 4):=zH (.inr ⟨hc,rfl,rfl⟩)
  clear hc
  go_enter Tryz.func24,Tryz.ntmps24
  go_wp2_with fail
  refine (qr s [] 0 4 HO.out rfl _ HS.out HB.out.le HB.out.b HB.out.tn).mono ?_
  rintro e w1 ⟨A,cap,rfl, -,hx⟩
  replace HX:=zH (HX.out.trans hx)
  replace HBR:=zH (HBR.out.re hx)
  have kR:=(aB HBR.out.here).1
  have fR:=(aB HBR.out.here).2
  have lR:=aA HBR.out.here
  clear hx kS
  go_wp2_with fail
  ((try simp only [Exit.inBlock,Exit.then]);refine bodyPost_ret (v:= .tuple #[.agg #[.slice none 0 0,.slice none 0 0],.slice none 0 0,.int .i64 4]) (by simp only [results,Tryz.results24];go_simp) rfl ?_)
  exact mJ HC.out ((((HX.out.setCell HVV.out _).setCell HVV.out _).alloc _))
 have F:=zH (LfOk.of hc)
 have HC:=zH hc
 have HO:Hid (nT s (bR s) 0):=zH (.inl ⟨hc,rfl,rfl⟩)
 have HOL:=zH (iz F.out)
 rw [show gi s=bR s by rw [gi,if_pos hc],show bT s=0 by rw [bT,if_pos hc],show dQ s=(bR s).map (eL s.ws (bR s))by rw [dQ,if_pos hc],show dR s=(bS s.sl).map (turnZ (bR s))by rw [dR,if_pos hc]]
 clear hc
 have hol:(bR s).length≤1000:=by have:=HOL.out;have:=HB.out.ws;omega
 generalize hwA:s.wA=wA at*
 generalize hsA:s.sA=sA at*
 have HWA:=zH hwA
 have HSA:=zH hsA
 clear hwA hsA
 obtain ⟨os,hos⟩:∃os,bR s=os:=⟨_,rfl⟩
 have HOS:=zH hos
 rw [hos]at HO hol⊢
 clear hos
 go_enter Tryz.func24,Tryz.ntmps24
 go_wp2_with fail
 have Z:=qr s os os.length 0 HO.out rfl _ HS.out HB.out.le HB.out.b HB.out.tn
 rw [HWA.out,HSA.out]at Z
 refine Z.mono ?_
 clear Z
 rintro e w1 ⟨A,cap,rfl,ho,hx⟩
 replace HX:=zH (HX.out.trans hx)
 replace HS:=zH (HS.out.ext hx)
 replace HBS:=zH (HBS.out.re hx)
 replace HBR:=zH (HBR.out.re hx)
 have HIO:=zH ho
 clear hx kS ho
 go_wp2_with fail
 have HI0:=zH (show LfI w1 w1.heap.size (.slice none 0 0) (.slice none 0 0) [] (w1.alloc (.cells #[.slice none 0 0,.slice none 0 0] 27))from
  ⟨aN _ _ _ _ rfl,AA _ _ _ _ _,by simp,(zo _).alloc _,Nat.le_refl _⟩)
 have HVW:Hid (V.heap.size+1 < w1.heap.size):=zH (aA HBR.out.here)
 generalize hBg:w1.heap.size=Bg at*
 have HBg:=zH hBg
 clear hBg
 generalize w1.alloc (.cells #[.slice none 0 0,.slice none 0 0] 27)=W2 at*
 go_loopw [8] (fun i wr=>∃(k:Nat) (cs:List NodeD) (vA:Option Addr) (vc:Nat),k≤os.length∧i= .int .i64 k∧Hid (LfI w1 Bg (.slice none 0 0) (.slice vA cs.length vc) cs wr)∧Hid (cs.map aX=(os.take k).map (eL s.ws os))) (fun i _=>os.length - (intOf i).toNat)
 case atStart=>exact ⟨0,[],none,0,by omega,rfl,HI0,zH rfl⟩
 case round=>
  obtain ⟨k,cs,vA,vc,hk,rfl,hI,hcs⟩:=hrel
  clear HI0
  by_cases hlt:k < os.length
  rotate_left
  ·obtain rfl:k=os.length:=by omega
   rw [List.take_length]at hcs
   clear hlt hk
   go_wp2_with fail
   have HR0:=zH (LfR.start hI.out)
   obtain ⟨wp,rfl⟩:∃wp:World,wp=wr:=⟨_,rfl⟩
   clear hI
   go_loopw [14] (fun i wr=>∃(m:Nat) (rs:List (Int×Int)) (rA:Option Addr) (rc:Nat),m≤s.sl.length∧i= .int .i64 m∧Hid (LfR w1 wp Bg (.slice vA cs.length vc) cs (.slice rA rs.length rc) rs wr)∧Hid (wp.heap.size≤wr.heap.size)∧Hid (rs=(bS (s.sl.take m)).map (turnZ os))) (fun i _=>s.sl.length - (intOf i).toNat)
   case atStart=>exact ⟨0,[],none,0,by omega,rfl,HR0,zH (Nat.le_refl _),zH rfl⟩
   case round=>
    obtain ⟨m,rs,rA,rc,hm,rfl,hR,hwp,hrs⟩:=hrel
    clear HR0
    obtain ⟨wq,rfl⟩:∃wq:World,wq=wr:=⟨_,rfl⟩
    have hxn:=hR.out.ext
    have kS:=(aB (HBS.out.at hxn)).1
    have hrl:rs.length≤1000:=by
     have h1:=mE (s.sl.take m)
     have h2:=HB.out.sl
     rw [hrs.out,List.length_map]
     rw [List.length_take]at h1
     omega
    by_cases hml:m < s.sl.length
    rotate_left
    ·obtain rfl:m=s.sl.length:=by omega
     clear hml hm
     have g0:=(aB hR.out.g).1
     have hbr:=(HBR.out.at hxn)
     have kR:=(aB hbr).1
     have fR:=(aB hbr).2
     have HFIN:=zH (hR.out.fin rfl rfl)
     have HRS:Hid (rs=(bS s.sl).map (turnZ os)):=zH (by have:=hrs.out;rwa [List.take_length]at this)
     have HXQ:=zH hxn
     have HRB:=zH hbr
     clear hxn hbr hrs
     go_wp2_with fail
     ((try simp only [Exit.inBlock,Exit.then]);refine bodyPost_ret (v:= .tuple #[.agg #[.slice vA cs.length vc,.slice rA rs.length rc],.slice A os.length cap,.int .i64 0]) (by simp only [results,Tryz.results24];go_simp) rfl ?_)
     have hb1:=aL (i:=0) HRB.out (.agg #[.slice vA cs.length vc,.slice rA rs.length rc])
     exact ⟨⟨vA,vc,cs,rA,rc,rs⟩,A,cap,rfl,((HFIN.out.box HRB.out).box (aL HRB.out _)).at,hcs.out,HRS.out,HFIN.out.shp,dp (dp (HIO.out.ext HXQ.out) (fun x=>⟨_,_,rfl⟩) HRB.out (by intros;simp) (by intros;simp) _ _) (fun x=>⟨_,_,rfl⟩) (aL HRB.out _) (by intros;simp) (by intros;simp) _ _,((HX.out.trans HXQ.out).setCell HVV.out _).setCell HVV.out _⟩
    have HUS:=zH (jX s.sl m hml)
    have HWD:=zH (HB.out.b.sb _ (aH (d:=(false,0,0)) hml))
    obtain ⟨sb,soff,rfl,hcc⟩:=(show SlotsAt w1 sA s.sl from by rw [←HSA.out];exact HS.out.s).get oM
    obtain ⟨e0,e1,e2⟩:=de hcc hml
    have c0:=hxn.cell e0
    have c2:=hxn.cell e2
    have ib0:(0:Int)≤(m:Int):=by omega
    have ib1:(m:Int) < (s.sl.length:Int):=by omega
    have hm98:=HB.out.sl
    have HML:=zH hml
    have hm98b:m≤1000:=by omega
    clear e0 e1 e2 hcc hml hm
    generalize s.sl.getD m (false,0,0)=x at*
    obtain ⟨u,g,w⟩:=x
    simp only at c0 c2 HUS HWD
    cases u with
    | false=>
     have HU2:Hid (bS (s.sl.take (m+1))=bS (s.sl.take m)):=zH (by rw [HUS.out];simp)
     clear c2
     go_wp2_with fail
     go_roundw
     case rel=>exact ⟨m+1,rs,rA,rc,by have:=HML.out;omega,by go_num,hR,hwp,by rw [HU2.out];exact hrs⟩
     case measure=>have:=HML.out;simp [intOf];omega
    | true=>
     have HU2:Hid ((bS (s.sl.take (m+1))).map (turnZ os)=rs++ [turnZ os w]):=zH (by rw [HUS.out,List.map_append,←hrs.out];simp)
     have HRT:=zH (fun u:ExtOf wq=>mD A cap os w u.1 HWD.out ((HIO.out.ext hxn).ext u.2) oM)
     have l0:=(aO hR.out.g).cells
     have l1:=(aO (HBS.out.at hxn)).cells
     have l2:=aG c2
     have hs0:Ext wq wq:=zo _
     generalize turnZ os w=tz at*
     clear HUS hrs
     go_wp2_with fail
     (refine ax (W:=wq) [(0,true),(1,true),(2,true),(3,true),(4,true),(5,true),(6,true),(7,true),(8,true),(9,false)] [10] [11,12,13] (by kernel_rfl) (by kernel_rfl) (by intro c a d v w h;cases d <;>first | exact h | (cases h;done) | cases h.1.1 | cases h.1) aS ?_;simp only [aI,List.map_cons,List.map_nil,List.getD_cons_zero,List.getD_cons_succ];(repeat (go_big_quiet_step (first | (go_at_call 69;with_reducible exact zq (HRT.out _)))));refine wpQuiet_nil ?_;intro w1 hx;(repeat (refine cR rM ?_;intro K hK;go_simp;refine hK _ _ zG ?_;clear hK K));refine bz ?_)
     have HR1:=zH (hR.out.grow hx)
     have HZ8:=zH (Nat.le_trans hwp.out hx.size)
     have hsz:=HZ8.out
     clear l0 l1 l2 hs0 ib0 ib1 hxn kS hx HRT hR c0 c2
     go_wp2_with (at_builtin;refine aM rfl (.tmp 113) (.tmp 122) 25 rfl iI aE rfl HR1.out.roots [tz] 1 _ rfl (rs.length+1) 1 sM rfl _ rfl (by first | rfl | simp) oM (by simp [maxLen];omega) hsz ?_;intro A6 c6 w6 ho6 hg6 ht6;have HR6:=zH (LfR.app (HR1.out.grow ((zo _).alloc _)) (Nat.le_trans HZ8.out ((zo _).alloc _).size) ho6 hg6);have HB6:=zH (LfR.blk (HR1.out.grow ((zo _).alloc _)) hg6);have HZ6:Hid (wp.heap.size≤(w6.setCell ⟨Bg,1,none⟩ (.slice A6 (rs.length+1) c6)).heap.size):=zH (by rw [World.size_setCell];exact Nat.le_trans (Nat.le_trans HZ8.out ((zo _).alloc _).size) hg6.size);clear ho6 hg6 ht6;have f1:=(aB HB6.out).1;have f2:=(aB HB6.out).2)
     go_roundw
     case rel=>exact ⟨m+1,rs++ [tz],A6,c6,by have:=HML.out;omega,by go_num,by rw [List.length_append];exact HR6,HZ6,zH HU2.out.symm⟩
     case measure=>have:=HML.out;simp [intOf];omega
  have hxk:=hI.out.ext
  have HF:=zH (show aV (some s.ws) (os.getD k 0)=0∧(0≤os.getD k 0∧os.getD k 0+1+(aJ (some s.ws) (os.getD k 0)).f+(aJ (some s.ws) (os.getD k 0)).r≤s.ws.length)∧((0≤(aJ (some s.ws) (os.getD k 0)).k∧(aJ (some s.ws) (os.getD k 0)).k≤31)∧(0≤(aJ (some s.ws) (os.getD k 0)).f∧(aJ (some s.ws) (os.getD k 0)).f≤4096)∧(0≤(aJ (some s.ws) (os.getD k 0)).r∧(aJ (some s.ws) (os.getD k 0)).r≤4096))from by
   have hm:os.getD k 0∈bR s:=by rw [HOS.out];exact aH hlt
   exact ⟨F.out.head _ hm,F.out.at_ _ hm,F.out.bd _ hm⟩)
  have HNX:Hid ((os.take (k+1)).map (eL s.ws os)=cs.map aX++ [eL s.ws os (os.getD k 0)]):=zH (by
   rw [List.take_add_one,List.getElem?_eq_getElem hlt,Option.toList_some,List.map_append,hcs.out,aU hlt]
   rfl)
  obtain ⟨lb,off,rfl,hc⟩:=HIO.out.get oM
  have c1:=hxk.cell (b5 hc hlt)
  have HS1:=zH (HS.out.ext hxk)
  have HLT:=zH hlt
  have ib0:(0:Int)≤(k:Int):=by omega
  have ib1:(k:Int) < (os.length:Int):=by omega
  have l1:=aG c1
  have l2:=(aO (HBS.out.at hxk)).cells
  have hs0:Ext wr wr:=zo _
  clear hc c1 hxk hlt
  generalize os.getD k 0=at_ at*
  have hf1:=HF.out.2.1
  have hf2:=HF.out.2.2
  have hE:=HF.out.1
  generalize hH:aJ (some s.ws) at_=h at*
  have HH:=zH hH
  have HRH:=zH (fun u:ExtOf wr=>jd s.wA s.wc s.ws at_ u.1 (HS1.out.ext u.2).w HB.out.le.w HB.out.b.wb (by have:=HB.out.ws;omega))
  rw [hH,hE,HWA.out]at HRH
  obtain ⟨hk',hf',hr',hm',hc'⟩:=h
  simp only at hf1 hf2
  obtain ⟨hkb,hfb,hrb⟩:=HF.out.2.2
  simp only at hkb hfb hrb
  obtain ⟨p,rfl⟩:=Int.eq_ofNat_of_zero_le hf1.1
  obtain ⟨F',rfl⟩:=Int.eq_ofNat_of_zero_le hfb.1
  obtain ⟨R',rfl⟩:=Int.eq_ofNat_of_zero_le hrb.1
  have HPB:Hid (p+1+F'+R'≤s.ws.length):=zH oM
  have HFB:Hid (F'≤4096∧R'≤4096):=zH oM
  have HOC:=zH (show wr.cell? ⟨lb,off+k,none⟩=some (.int .i64 (p:Nat))from l1 ⟨wr,zo wr⟩)
  clear hH hE hf1 hf2 hkb hfb hrb
  go_wp2_with fail
  obtain ⟨wo,rfl⟩:∃wo:World,wo=wr:=⟨_,rfl⟩
  have hx1:=hs0
  apply yR
  ·intro hC
   (refine dV (W:=wo) [(0,true),(1,true),(2,true),(3,true),(4,true),(5,true)] 5 [(6,[.qu 7 true,.qu 8 true,.qu 9 true,.one 10,.one 11]),(10,[.one 6,.qu 7 true,.qu 8 true,.qu 9 true,.one 11])] [12] (by kernel_rfl) (by kernel_rfl) (by intro c a d v w h;cases d <;>first | exact h | (cases h;done) | cases h.1.1 | cases h.1) aS ?_;simp only [aI,List.map_cons,List.map_nil,List.getD_cons_zero,List.getD_cons_succ];(repeat (go_big_quiet_step (fail)));refine wpQuiet_nil ?_;refine iF ?_ ?_ <;>(intro w1 hx;unfold RowP;simp only [aI,List.map_cons,List.map_nil,List.getD_cons_zero,List.getD_cons_succ]))
   ·((refine aw gD rM ?_;intro K hK;go_simp))
    refine (HRH.out ⟨_,hx⟩).mono ?_
    rintro e w2 ⟨rfl,hx2⟩
    refine hK (Ext wo) _ _ (fun _ h=>h) (hx.trans hx2) ?_
    clear hK K hx hx2
    (refine bP gD ?_;(repeat (go_big_quiet_step (fail)));refine wpQuiet_nil ?_;intro w1 hx)
    (refine bP gD ?_;(repeat (go_big_quiet_step (fail)));refine wpQuiet_nil ?_;intro w1 hx)
    (refine bP gD ?_;(repeat (go_big_quiet_step (fail)));refine wpQuiet_nil ?_;intro w1 hx)
    ((refine aw gD rM ?_;intro K hK;go_simp))
    refine hK (Ext wo) _ _ (fun _ h=>h) (hx.alloc _) ?_
    clear hK K
    ((refine aw gD rM ?_;intro K hK;go_simp))
    refine hK (Ext wo) _ _ (fun _ h=>h) (hx.alloc _) ?_
    clear hK K
    (refine eW ?_)
    have HBH:=aF w1 #[.int .i64 hk',.int .i64 (F':Nat),.int .i64 (R':Nat),.bool hm',.int .i64 hc'] 85 _ rfl
    have HX5:=zH (hx.alloc (.cells #[.int .i64 hk',.int .i64 (F':Nat),.int .i64 (R':Nat),.bool hm',.int .i64 hc'] 85))
    clear hx
    generalize w1.alloc (.cells #[.int .i64 hk',.int .i64 (F':Nat),.int .i64 (R':Nat),.bool hm',.int .i64 hc'] 85)=W5 at*
    generalize w1.heap.size=Y at*
    revert HX5
    revert HBH
    revert W5
    revert Y
    exact hC.go
   ·((refine aw gD rM ?_;intro K hK;go_simp))
    refine hK (fun w=>Ext wo w∧∃cs,cs.size=5∧w.heap[w1.heap.size]?=some (.cells cs 85 (0,0))) _ _ (fun _ h=>h.1) ⟨hx.alloc _,_,rfl,World.alloc_heap_new _ _⟩ ?_
    clear hK K
    have hb:=aN w1 #[.int .i64 0,.int .i64 0,.int .i64 0,.bool false,.int .i64 0] 85 _ rfl
    have hx1':=hx.alloc (.cells #[.int .i64 0,.int .i64 0,.int .i64 0,.bool false,.int .i64 0] 85)
    have hXs:wo.heap.size≤w1.heap.size:=hx.size
    generalize w1.alloc (.cells #[.int .i64 0,.int .i64 0,.int .i64 0,.bool false,.int .i64 0] 85)=w3 at*
    generalize w1.heap.size=Y at*
    ((refine aw gD rM ?_;intro K hK;go_simp))
    refine (HRH.out ⟨_,hx1'⟩).mono ?_
    rintro e w2 ⟨rfl,hx2⟩
    refine hK (fun w=>Ext wo w∧∃cs,cs.size=5∧w.heap[Y]?=some (.cells cs 85 (0,0))) _ _ (fun _ h=>h) ⟨hx1'.trans hx2,_,rfl,(hx2.block (aA hb)).trans hb⟩ ?_
    have hne:Nonempty (KeptT fun w=>Ext wo w∧∃cs,cs.size=5∧w.heap[Y]?=some (.cells cs 85 (0,0))):=⟨⟨_,hx1'.trans hx2,_,rfl,(hx2.block (aA hb)).trans hb⟩⟩
    clear hK K hx hx2
    (refine bP gD ?_;(repeat (go_big_quiet_step (fail)));refine wpQuiet_nil ?_;intro w1 hx)
    (refine bP gD ?_;(repeat (go_big_quiet_step (fail)));refine wpQuiet_nil ?_;intro w1 hx)
    (refine bP gD ?_;(repeat (go_big_quiet_step (fail)));refine wpQuiet_nil ?_;intro w1 hx)
    obtain ⟨hx,cs2,hcs2,hbY⟩:=hx
    obtain ⟨v0,v1,v2,v3,v4,rfl⟩:=arr5 hcs2
    obtain ⟨g3,g4⟩:=aB hbY
    have hb5:=aL (i:=4) (aL (i:=3) (aL (i:=2) (aL (i:=1) (aL (i:=0) hbY (.int .i64 hk')) (.int .i64 (F':Nat))) (.int .i64 (R':Nat))) (.bool hm')) (.int .i64 hc')
    have hx5:=((((hx.setCell (p:=⟨Y,0,none⟩) hXs (.int .i64 hk')).setCell (p:=⟨Y,1,none⟩) hXs (.int .i64 (F':Nat))).setCell (p:=⟨Y,2,none⟩) hXs (.int .i64 (R':Nat))).setCell (p:=⟨Y,3,none⟩) hXs (.bool hm')).setCell (p:=⟨Y,4,none⟩) hXs (.int .i64 hc')
    simp only [List.setIfInBounds_toArray,List.set_cons_succ,List.set_cons_zero]at hb5
    ((refine aw gD rM ?_;intro K hK;go_simp))
    refine hK _ _ _ (fun _ h=>h) ⟨hx5,_,rfl,hb5⟩ ?_
    have HBH:=aO hb5
    have HX5:=zH hx5
    clear hK K hx hbY g3 g4 hcs2 hb5 hx5 hne hb hx1'
    (refine eW ?_)
    generalize ((((w1.setCell ⟨Y,0,none⟩ (.int .i64 hk')).setCell ⟨Y,1,none⟩ (.int .i64 (F':Nat))).setCell ⟨Y,2,none⟩ (.int .i64 (R':Nat))).setCell ⟨Y,3,none⟩ (.bool hm')).setCell ⟨Y,4,none⟩ (.int .i64 hc')=W5 at*
    exact hC.go Y W5 HBH HX5
  intro Y W5 HBH HX5
  have hx5:=HX5.out
  have HS5:=zH (HS1.out.ext hx5)
  have HI5:=zH (hI.out.grow hx5)
  have HIO5:=zH (HIO.out.ext (hI.out.ext.trans hx5))
  have HBS5:=zH (HBS.out.re (hI.out.ext.trans hx5))
  have HOC5:=zH (hx5.cell HOC.out)
  clear l1 l2 hs0 hx1 hx5 HS1 HRH HOC HX5
  have k1:=(aB HBH.here).1
  go_wp2_with fail
  have HN0:=zH (NdI.start W5 hk')
  generalize hXn:W5.heap.size=X at*
  have HXN:=zH hXn
  clear hXn k1
  generalize W5.alloc (.cells #[.int .i64 hk',.slice none 0 0,.slice none 0 0] 66)=W6 at*
  go_loopw [12] (fun i wr=>∃(j:Nat) (fs:List (Int×Int)) (fA:Option Addr) (fc:Nat),j≤F'∧i= .int .i64 j∧Hid (NdI W5 X hk' (.slice fA fs.length fc) (.slice none 0 0) fs [] wr)∧Hid (fs=(List.range j).map (fun (k:Nat)=>turnZ os (wdZ s.ws ((p:Int)+1+k))))) (fun i _=>F' - (intOf i).toNat)
  case atStart=>exact ⟨0,[],none,0,by omega,rfl,HN0,zH rfl⟩
  case round=>
   obtain ⟨j,fs,fA,fc,hj,rfl,hN,hfs⟩:=hrel
   clear HN0
   obtain ⟨wq,rfl⟩:∃wq:World,wq=wr:=⟨_,rfl⟩
   have hxn:=hN.out.ext
   have k1:=(aB (HBH.at hxn)).1
   have hfl:fs.length≤4096:=by have:=HFB.out;rw [hfs.out,List.length_map,List.length_range];omega
   by_cases hjl:j < F'
   rotate_left
   ·obtain rfl:j=F':=by omega
    clear hjl hj hxn
    go_wp2_with fail
    have HF2:=zH hfs.out
    have HNQ:=hN
    clear hfs hN k1
    go_loopw [13] (fun i wr=>∃(q:Nat) (ys:List Int) (rA:Option Addr) (rc:Nat),q≤R'∧i= .int .i64 q∧Hid (NdI W5 X hk' (.slice fA fs.length fc) (.slice rA ys.length rc) fs ys wr)∧Hid (ys=(List.range q).map (fun (k:Nat)=>wdZ s.ws ((p:Int)+1+j+k)))) (fun i _=>R' - (intOf i).toNat)
    case atStart=>exact ⟨0,[],none,0,by omega,rfl,HNQ,zH rfl⟩
    case round=>
     obtain ⟨l,ys,rA,rc,hl,rfl,hN,hys⟩:=hrel
     clear HNQ
     obtain ⟨wo2,rfl⟩:∃wo:World,wo=wr:=⟨_,rfl⟩
     have hxn:=hN.out.ext
     have k1:=(aB (HBH.at hxn)).1
     have hyl:ys.length≤4096:=by have:=HFB.out;rw [hys.out,List.length_map,List.length_range];omega
     by_cases hll:l < R'
     rotate_left
     ·obtain rfl:l=R':=by omega
      clear hll hl
      have hcl:cs.length≤1000:=by have:=congrArg List.length hcs.out;simp at this;omega
      have HI8:=zH (HI5.out.grow hxn)
      have HOX:Hid (OwnN wo2 w1.heap.size ⟨hk',fA,fc,fs,rA,rc,ys⟩):=zH ⟨hN.out.f.mono HI5.out.ext.size,hN.out.r.mono HI5.out.ext.size⟩
      have HNV:Hid (aX ⟨hk',fA,fc,fs,rA,rc,ys⟩=eL s.ws os p):=zH (by
       simp only [aX,eL,HH.out,Int.toNat_natCast]
       rw [HF2.out,hys.out])
      have g0:=(aB HI8.out.g).1
      have g1:=(aB hN.out.g).1
      have hsz:=HI8.out.ext.size
      clear hxn HF2 hys
      go_wp2_with (at_builtin;refine aM rfl (.tmp 94) (.tmp 96) 24 rfl ks dL rfl HI8.out.own [⟨hk',fA,fc,fs,rA,rc,ys⟩] 1 _ (by simp [dv]) (cs.length+1) 1 sM rfl _ rfl (by first | rfl | simp) oM (by simp [maxLen];omega) hsz ?_;intro A6 c6 w6 ho6 hg6 ht6;have HI9:=zH (LfI.app (x:=⟨hk',fA,fc,fs,rA,rc,ys⟩) (HI8.out.grow ((zo _).alloc _)) (HOX.out.ext ((zo _).alloc _)) ho6 hg6);have HB9:=zH (LfI.blk (HI8.out.grow ((zo _).alloc _)) hg6);clear ho6 hg6 ht6;have f1:=(aB HB9.out).1;have f2:=(aB HB9.out).2)
      go_roundw
      case rel=>exact ⟨k+1,cs++ [⟨hk',fA,fc,fs,rA,rc,ys⟩],A6,c6,by have:=HLT.out;omega,by go_num,by rw [List.length_append];exact HI9,zH (by rw [List.map_append,List.map_singleton,HNV.out];exact HNX.out.symm)⟩
      case measure=>have:=HLT.out;simp [intOf];omega
     have hlw:p+1+j+l < s.ws.length:=by have:=HPB.out;omega
     obtain ⟨wb,woff,rfl,hcw⟩:=(show WordsAt W5 wA s.ws from by rw [←HWA.out];exact HS5.out.w).get oM
     have c1:=hxn.cell (cF hcw hlw)
     have hwz:wdZ s.ws ((p:Int)+1+j+l)=s.ws.getD (p+1+j+l) 0:=by unfold wdZ;congr 1
     have HSN:Hid ((List.range (l+1)).map (fun (k:Nat)=>wdZ s.ws ((p:Int)+1+j+k))=ys++ [s.ws.getD (p+1+j+l) 0]):=zH (by rw [List.range_succ,List.map_append,←hys.out,←hwz];rfl)
     generalize s.ws.getD (p+1+j+l) 0=wd at*
     have l0:=(aO hN.out.g).cells
     have l1:=(aO (HBS5.out.at hxn)).cells
     have l2:=aG (hxn.cell HOC5.out)
     have l3:=aG c1
     have l4:=(aO (HBH.at hxn)).cells
     have hs0:Ext wo2 wo2:=zo _
     have ib0:(0:Int)≤(p:Int)+1+(j:Int)+(l:Int):=by omega
     have ib1:(p:Int)+1+(j:Int)+(l:Int) < (s.ws.length:Int):=by omega
     have ib2:(0:Int)≤(k:Int):=by omega
     have HWLL:=HB.out.ws
     have HJL:=zH hll
     have hb4:l≤4096:=by have:=HFB.out;omega
     clear hcw c1 hwz hlw hll hl hys
     go_wp2_with fail
     (refine ax (W:=wo2) [(0,true),(1,true),(2,true),(3,true),(4,true),(5,true),(6,true),(7,true),(8,true),(9,true),(10,true),(11,true),(12,true),(13,true),(14,true),(15,true)] [16] [17,18,19] (by kernel_rfl) (by kernel_rfl) (by intro c a d v w h;cases d <;>first | exact h | (cases h;done) | cases h.1.1 | cases h.1) aS ?_;simp only [aI,List.map_cons,List.map_nil,List.getD_cons_zero,List.getD_cons_succ];(repeat (go_big_quiet_step (fail)));refine wpQuiet_nil ?_;intro w1 hx;(repeat (refine cR rM ?_;intro K hK;go_simp;refine hK _ _ zG ?_;clear hK K));refine bz ?_)
     have HN1:=zH (hN.out.grow hx)
     have hsz:=HN1.out.ext.size
     clear l0 l1 l2 l3 l4 hs0 ib0 ib1 ib2 HWLL hxn k1 hx hN
     go_wp2_with (at_builtin;refine aM rfl (.tmp 75) (.tmp 90) 30 rfl s9 dA rfl HN1.out.r [wd] 1 _ rfl (ys.length+1) 1 sM rfl _ rfl (by first | rfl | simp) oM (by simp [maxLen];omega) hsz ?_;intro A6 c6 w6 ho6 hg6 ht6;have HN6:=zH (NdI.appR (HN1.out.grow ((zo _).alloc _)) ho6 hg6);have HB6:=zH (NdI.blkR (HN1.out.grow ((zo _).alloc _)) hg6);clear ho6 hg6 ht6;have f1:=(aB HB6.out).1;have f2:=(aB HB6.out).2)
     go_roundw
     case rel=>exact ⟨l+1,ys++ [wd],A6,c6,by have:=HJL.out;omega,by go_num,by rw [List.length_append];exact HN6,zH HSN.out.symm⟩
     case measure=>have:=HJL.out;simp [intOf];omega
   obtain ⟨wb,woff,rfl,hcw⟩:=(show WordsAt W5 wA s.ws from by rw [←HWA.out];exact HS5.out.w).get (by have:=HPB.out;omega)
   have hlw:p+1+j < s.ws.length:=by have:=HPB.out;omega
   have c1:=hxn.cell (cF hcw hlw)
   have hwb:=HB.out.b.wb _ (aH (d:=0) hlw)
   have hwz:wdZ s.ws ((p:Int)+1+j)=s.ws.getD (p+1+j) 0:=by unfold wdZ;congr 1
   have HSN:Hid ((List.range (j+1)).map (fun (k:Nat)=>turnZ os (wdZ s.ws ((p:Int)+1+k)))=fs++ [turnZ os (s.ws.getD (p+1+j) 0)]):=zH (by rw [List.range_succ,List.map_append,←hfs.out,←hwz];rfl)
   generalize s.ws.getD (p+1+j) 0=wd at*
   have HRT:=zH (fun u:ExtOf wq=>mD (some ⟨lb,off,none⟩) cap os wd u.1 hwb ((HIO5.out.ext hxn).ext u.2) oM)
   have l0:=(aO hN.out.g).cells
   have l1:=(aO (HBS5.out.at hxn)).cells
   have l2:=aG (hxn.cell HOC5.out)
   have l3:=aG c1
   have hs0:Ext wq wq:=zo _
   have ib0:(0:Int)≤(p:Int)+1+(j:Int):=by omega
   have ib1:(p:Int)+1+(j:Int) < (s.ws.length:Int):=by omega
   have ib2:(0:Int)≤(k:Int):=by omega
   have HWLL:=HB.out.ws
   have HJL:=zH hjl
   have hb4:j≤4096:=by have:=HFB.out;omega
   generalize turnZ os wd=tz at*
   clear hcw c1 hwb hwz hlw hjl hj hfs
   go_wp2_with fail
   (refine ax (W:=wq) [(0,true),(1,true),(2,true),(3,true),(4,true),(5,true),(6,true),(7,true),(8,true),(9,true),(10,true),(11,true),(12,true),(13,true),(14,false)] [15] [16,17,18] (by kernel_rfl) (by kernel_rfl) (by intro c a d v w h;cases d <;>first | exact h | (cases h;done) | cases h.1.1 | cases h.1) aS ?_;simp only [aI,List.map_cons,List.map_nil,List.getD_cons_zero,List.getD_cons_succ];(repeat (go_big_quiet_step (first | (go_at_call 69;with_reducible exact zq (HRT.out _)))));refine wpQuiet_nil ?_;intro w1 hx;(repeat (refine cR rM ?_;intro K hK;go_simp;refine hK _ _ zG ?_;clear hK K));refine bz ?_)
   have HN1:=zH (hN.out.grow hx)
   have hsz:=HN1.out.ext.size
   clear l0 l1 l2 l3 hs0 ib0 ib1 ib2 HWLL hxn k1 hx HRT hN
   go_wp2_with (at_builtin;refine aM rfl (.tmp 51) (.tmp 65) 25 rfl iI aE rfl HN1.out.f [tz] 1 _ rfl (fs.length+1) 1 sM rfl _ rfl (by first | rfl | simp) oM (by simp [maxLen];omega) hsz ?_;intro A6 c6 w6 ho6 hg6 ht6;have HN6:=zH (NdI.appF (HN1.out.grow ((zo _).alloc _)) ho6 hg6);have HB6:=zH (NdI.blkF (HN1.out.grow ((zo _).alloc _)) hg6);clear ho6 hg6 ht6;have f1:=(aB HB6.out).1;have f2:=(aB HB6.out).2)
   go_roundw
   case rel=>exact ⟨j+1,fs++ [tz],A6,c6,by have:=HJL.out;omega,by go_num,by rw [List.length_append];exact HN6,zH HSN.out.symm⟩
   case measure=>have:=HJL.out;simp [intOf];omega
theorem qv {os:List Int} (h:os.Nodup) {k:Nat} (hk:k < os.length):aY os (os.getD k 0)=k:=
 iJ hk rfl fun i hi e=>by
  rw [aU oM,aU hk]at e
  have:=(List.getElem_inj h).1 e
  omega
theorem yS {os:List Int} {w:Int} (h:decT w=2→decX w∈os):turnZ os w=(decT w,if decT w=2 then (pf os os.length (decX w)).getD 0 else decX w):=by
 unfold turnZ
 by_cases e:decT w=2
 ·rw [if_pos e,if_pos e,sI,e]
  rcases dD os (decX w)with ⟨h3,h4⟩ | ⟨k,hk,h3,h4,h5⟩
  ·exact absurd rfl (h4 _ (h e))
  ·rw [h3,if_neg oM,if_neg oM]
   rfl
 ·rw [if_neg e,if_neg e]
theorem jo (b off n c l m:Nat) (lo hi:Int) (h1:lo=l) (h2:hi=((l+m:Nat):Int)) (hle:l+m≤c):
  ∃o1,(m≠0→o1=off+l)∧∀W,(Instr.sliceAt 30 (.slice (some ⟨b,off,none⟩) n c) (some (.int .i64 lo)) (some (.int .i64 hi)) none).run Tryz.prog W= .ok (.slice (some ⟨b,o1,none⟩) m (c - l)) W:=by
 subst h1
 subst h2
 have a1:(0:Int)≤(l:Int):=by omega
 have a2:(l:Int)≤((l+m:Nat):Int):=by omega
 have a3:((l+m:Nat):Int)≤(c:Int):=by omega
 have a4:l+m - l=m:=by omega
 by_cases h:c=l
 ·obtain rfl:m=0:=by omega
  refine ⟨off,fun h=>absurd rfl h,fun W=> ?_⟩
  subst h
  go_simp
 ·refine ⟨off+l,fun _=>rfl,fun W=> ?_⟩
  have h5:(c=l)=False:=eq_false h
  go_simp
  rw [if_pos ⟨by omega,by omega⟩,if_pos oM,show ((l:Int)+(m:Int)).toNat - l=m by omega]
structure MapS (w:World) (mb n:Nat) (f:Int→Option Int):Prop where
 map:MapOf w mb n f
 box:w.heap[mb+1]?=some (.cells #[.map (some mb)] 100 (0,0))
section
variable {w w' : World} {mb n : Nat} {f : Int → Option Int}
theorem MapS.ext (h:MapS w mb n f) (hx:Ext w w'):MapS w' mb n f:=⟨h.map.ext hx,(hx.block (aA h.box)).trans h.box⟩
theorem MapS.cell (h:MapS w mb n f):w.cell? ⟨mb+1,0,none⟩=some (.map (some mb)):=(aB h.box).1 0
theorem qw (os:List Int) (mb:Nat) (w:Int) (W:World) (hw:0≤w∧w < 18446744073709551616) (h:decT w=2→decX w∈os) (hm:MapS W mb os.length (pf os os.length)):
  Calls Tryz.prog 58 #[.int .u64 w,.pointer (some ⟨mb+1,0,none⟩)] W fun e w'=>e= .returned (.agg #[.int .i64 (turnZ os w).1,.int .i64 (turnZ os w).2])∧Ext W w':=by
 rw [yS h]
 exact uo _ _ mb (mb+1) w W hw hm.map hm.cell
end
structure LfM (s:StD):Prop where
 ws:s.ws.length≤4000
 sl:s.sl.length≤1100
 ol:(bR s).length≤1000
 le:StLe s
 b:StB s
 wl:s.ws.length≤s.wc
theorem LfB.m {s:StD} (h:LfB s) (hc:chkS s=0):LfM s:=⟨by have:=h.ws;omega,by have:=h.sl;omega,Nat.le_trans (iz (LfOk.of hc)) h.ws,h.le,h.b,h.wl⟩
theorem yT (s:StD) (i:Int) (V:World) (h:StAt V s) (hb:LfM s) (hi: -9223372036854775808≤i∧i≤9223372036854775807):
  Calls Tryz.prog 60 #[.agg #[.int .i64 s.c0,.int .i64 s.c1,.int .i64 s.c2,.int .i64 s.c3,.bool s.snd,.slice s.wA s.ws.length s.wc,.int .i64 s.top,.slice s.tA s.tb.length s.tc,.slice s.fA s.fr.length s.fc,.slice s.sA s.sl.length s.sc],.int .i64 i] V fun e w'=>e= .returned (.tuple #[.agg #[.int .i64 (aJ (some s.ws) i).k,.int .i64 (aJ (some s.ws) i).f,.int .i64 (aJ (some s.ws) i).r,.bool (aJ (some s.ws) i).m,.int .i64 (aJ (some s.ws) i).c],.int .i64 (aV (some s.ws) i)])∧Ext V w':=
 ry V i (an h.w) hb.le.w hb.b.wb hi
theorem xB (s:StD) (V:World) (h:StAt V s) (hc:¬chkS s=0) (hle:StLe s) (hsb:StB s):Calls Tryz.prog 18 #[.agg #[.int .i64 s.c0,.int .i64 s.c1,.int .i64 s.c2,.int .i64 s.c3,.bool s.snd,.slice s.wA s.ws.length s.wc,.int .i64 s.top,.slice s.tA s.tb.length s.tc,.slice s.fA s.fr.length s.fc,.slice s.sA s.sl.length s.sc]] V (qo V (dQ s) (dR s) (gi s) (bT s)):=by
 have hx0:=((zo V).alloc (.cells #[.int .i64 s.c0,.int .i64 s.c1,.int .i64 s.c2,.int .i64 s.c3,.bool s.snd,.slice s.wA s.ws.length s.wc,.int .i64 s.top,.slice s.tA s.tb.length s.tc,.slice s.fA s.fr.length s.fc,.slice s.sA s.sl.length s.sc] 34)).alloc (.cells #[.slice none 0 0,.slice none 0 0] 27)
 have HBS:=zH ((aF V #[.int .i64 s.c0,.int .i64 s.c1,.int .i64 s.c2,.int .i64 s.c3,.bool s.snd,.slice s.wA s.ws.length s.wc,.int .i64 s.top,.slice s.tA s.tb.length s.tc,.slice s.fA s.fr.length s.fc,.slice s.sA s.sl.length s.sc] 34 _ rfl).re ((zo _).alloc (.cells #[.slice none 0 0,.slice none 0 0] 27)))
 have HBR:=zH (aF (V.alloc (.cells #[.int .i64 s.c0,.int .i64 s.c1,.int .i64 s.c2,.int .i64 s.c3,.bool s.snd,.slice s.wA s.ws.length s.wc,.int .i64 s.top,.slice s.tA s.tb.length s.tc,.slice s.fA s.fr.length s.fc,.slice s.sA s.sl.length s.sc] 34)) #[.slice none 0 0,.slice none 0 0] 27 (V.heap.size+1) sM)
 have HX:=zH hx0
 have HS:=zH (h.ext hx0)
 have HVV:Hid (V.heap.size≤V.heap.size+1):=zH oM
 have kS:=(aB HBS.out.here).1
 clear hx0 h
 have HC:=zH hc
 have HO:Hid (nT s [] 4):=zH (.inr ⟨hc,rfl,rfl⟩)
 clear hc
 go_enter Tryz.func18,Tryz.ntmps18
 go_wp2_with fail
 refine (tU s [] 0 4 HO.out rfl _ HS.out hle hsb).mono ?_
 rintro e w1 ⟨A,cap,rfl, -,hx⟩
 replace HX:=zH (HX.out.trans hx)
 replace HBR:=zH (HBR.out.re hx)
 have kR:=(aB HBR.out.here).1
 have fR:=(aB HBR.out.here).2
 have lR:=aA HBR.out.here
 clear hx kS
 go_wp2_with fail
 ((try simp only [Exit.inBlock,Exit.then]);refine bodyPost_ret (v:= .tuple #[.agg #[.slice none 0 0,.slice none 0 0],.slice none 0 0,.int .i64 4]) (by simp only [results,Tryz.results18];go_simp) rfl ?_)
 exact mJ HC.out ((HX.out.setCell HVV.out _).setCell HVV.out _)
theorem yU (s:StD) (V:World) (h:StAt V s) (hc:chkS s=0) (hb:LfM s):Calls Tryz.prog 18 #[.agg #[.int .i64 s.c0,.int .i64 s.c1,.int .i64 s.c2,.int .i64 s.c3,.bool s.snd,.slice s.wA s.ws.length s.wc,.int .i64 s.top,.slice s.tA s.tb.length s.tc,.slice s.fA s.fr.length s.fc,.slice s.sA s.sl.length s.sc]] V (qo V (dQ s) (dR s) (gi s) (bT s)):=by
 have hx0:=((zo V).alloc (.cells #[.int .i64 s.c0,.int .i64 s.c1,.int .i64 s.c2,.int .i64 s.c3,.bool s.snd,.slice s.wA s.ws.length s.wc,.int .i64 s.top,.slice s.tA s.tb.length s.tc,.slice s.fA s.fr.length s.fc,.slice s.sA s.sl.length s.sc] 34)).alloc (.cells #[.slice none 0 0,.slice none 0 0] 27)
 have HBS:=zH ((aF V #[.int .i64 s.c0,.int .i64 s.c1,.int .i64 s.c2,.int .i64 s.c3,.bool s.snd,.slice s.wA s.ws.length s.wc,.int .i64 s.top,.slice s.tA s.tb.length s.tc,.slice s.fA s.fr.length s.fc,.slice s.sA s.sl.length s.sc] 34 _ rfl).re ((zo _).alloc (.cells #[.slice none 0 0,.slice none 0 0] 27)))
 have HBR:=zH (aF (V.alloc (.cells #[.int .i64 s.c0,.int .i64 s.c1,.int .i64 s.c2,.int .i64 s.c3,.bool s.snd,.slice s.wA s.ws.length s.wc,.int .i64 s.top,.slice s.tA s.tb.length s.tc,.slice s.fA s.fr.length s.fc,.slice s.sA s.sl.length s.sc] 34)) #[.slice none 0 0,.slice none 0 0] 27 (V.heap.size+1) sM)
 have HX:=zH hx0
 have HS:=zH (h.ext hx0)
 have HB:=zH hb
 have HVV:Hid (V.heap.size≤V.heap.size+1):=zH oM
 have kS:=(aB HBS.out.here).1
 clear hx0 h hb
 have F:=zH (LfOk.of hc)
 have HC:=zH hc
 have HO:Hid (nT s (bR s) 0):=zH (.inl ⟨hc,rfl,rfl⟩)
 have HOL:=zH (iz F.out)
 rw [show gi s=bR s by rw [gi,if_pos hc],show bT s=0 by rw [bT,if_pos hc],show dQ s=(bR s).map (eL s.ws (bR s))by rw [dQ,if_pos hc],show dR s=(bS s.sl).map (turnZ (bR s))by rw [dR,if_pos hc]]
 clear hc
 have hol:(bR s).length≤1000:=HB.out.ol
 generalize hwA:s.wA=wA at*
 generalize hsA:s.sA=sA at*
 have HWA:=zH hwA
 have HSA:=zH hsA
 have hmm:= @run_makeMap Tryz.prog
 clear hwA hsA
 obtain ⟨os,hos⟩:∃os,bR s=os:=⟨_,rfl⟩
 have HOS:=zH hos
 rw [hos]at HO hol⊢
 clear hos
 go_enter Tryz.func18,Tryz.ntmps18
 go_wp2_with fail
 have Z:=tU s os os.length 0 HO.out rfl _ HS.out HB.out.le HB.out.b
 rw [HWA.out,HSA.out]at Z
 refine Z.mono ?_
 clear Z
 rintro e w1 ⟨A,cap,rfl,ho,hx⟩
 replace HX:=zH (HX.out.trans hx)
 replace HS:=zH (HS.out.ext hx)
 replace HBS:=zH (HBS.out.re hx)
 replace HBR:=zH (HBR.out.re hx)
 have HIO:=zH ho
 have HM0:Hid (MapS ((w1.alloc (.map #[] 0)).alloc (.cells #[.map (some w1.heap.size)] 100)) w1.heap.size 0 (pf os 0)):=zH ⟨by
  rw [tH]
  exact (MapOf.made w1).ext ((zo _).alloc _),aN _ _ _ _ sM⟩
 have HX0:=zH (((zo w1).alloc (.map #[] 0)).alloc (.cells #[.map (some w1.heap.size)] 100))
 clear hx kS ho
 go_wp2_with fail
 have HW1:=zH (aA HBR.out.here)
 have HM1:Hid (w1.heap.size+2=((w1.alloc (.map #[] 0)).alloc (.cells #[.map (some w1.heap.size)] 100)).heap.size):=zH sM
 generalize hmb:w1.heap.size=mb at*
 have HMB:=zH hmb
 clear hmb
 generalize (w1.alloc (.map #[] 0)).alloc (.cells #[.map (some mb)] 100)=W0 at*
 go_loopw [34] (fun i wr=>∃k:Nat,k≤os.length∧i= .int .i64 k∧Hid (Ext w1 wr)∧Hid (MapS wr mb k (pf os k))) (fun i _=>os.length - (intOf i).toNat)
 case atStart=>exact ⟨0,by omega,rfl,HX0,HM0⟩
 case round=>
  obtain ⟨k,hk,rfl,hxr,hM⟩:=hrel
  clear HM0 HX0
  have kM:=(aB hM.out.box).1
  by_cases hlt:k < os.length
  rotate_left
  ·obtain rfl:k=os.length:=by omega
   clear hlt hk kM
   obtain ⟨wm,rfl⟩:∃wm:World,wm=wr:=⟨_,rfl⟩
   have hx0:=hxr.out
   replace HX:=zH (HX.out.trans hx0)
   replace HS:=zH (HS.out.ext hx0)
   replace HBS:=zH (HBS.out.re hx0)
   replace HBR:=zH (HBR.out.re hx0)
   replace HIO:=zH (HIO.out.ext hx0)
   clear hx0 hxr HW1 HM1 HMB
   go_wp2_with fail
   have HI0:=zH (show LfI wm wm.heap.size (.slice none 0 0) (.slice none 0 0) [] (wm.alloc (.cells #[.slice none 0 0,.slice none 0 0] 27))from
    ⟨aN _ _ _ _ rfl,AA _ _ _ _ _,by simp,(zo _).alloc _,Nat.le_refl _⟩)
   have HVW:Hid (V.heap.size+1 < wm.heap.size):=zH (aA HBR.out.here)
   generalize hBg:wm.heap.size=Bg at*
   have HBg:=zH hBg
   clear hBg
   generalize wm.alloc (.cells #[.slice none 0 0,.slice none 0 0] 27)=W2 at*
   go_loopw [46] (fun i wr=>∃(k:Nat) (cs:List NodeD) (vA:Option Addr) (vc:Nat),k≤os.length∧i= .int .i64 k∧Hid (LfI wm Bg (.slice none 0 0) (.slice vA cs.length vc) cs wr)∧Hid (cs.map aX=(os.take k).map (eL s.ws os))) (fun i _=>os.length - (intOf i).toNat)
   case atStart=>exact ⟨0,[],none,0,by omega,rfl,HI0,zH rfl⟩
   case round=>
    obtain ⟨k,cs,vA,vc,hk,rfl,hI,hcs⟩:=hrel
    clear HI0
    by_cases hlt:k < os.length
    rotate_left
    ·obtain rfl:k=os.length:=by omega
     rw [List.take_length]at hcs
     have kS:=(aB (HBS.out.at hI.out.ext)).1
     clear hlt hk
     go_wp2_with fail
     clear kS
     have HR0:=zH (LfR.start hI.out)
     have HMP:=zH (hM.out.ext hI.out.ext)
     obtain ⟨wp,rfl⟩:∃wp:World,wp=wr:=⟨_,rfl⟩
     clear hI
     go_loopw [104] (fun i wr=>∃(m:Nat) (rs:List (Int×Int)) (rA:Option Addr) (rc:Nat),m≤s.sl.length∧i= .int .i64 m∧Hid (LfR wm wp Bg (.slice vA cs.length vc) cs (.slice rA rs.length rc) rs wr)∧Hid (wp.heap.size≤wr.heap.size)∧Hid (rs=(bS (s.sl.take m)).map (turnZ os))) (fun i _=>s.sl.length - (intOf i).toNat)
     case atStart=>exact ⟨0,[],none,0,by omega,rfl,HR0,zH (Nat.le_refl _),zH rfl⟩
     case round=>
      obtain ⟨m,rs,rA,rc,hm,rfl,hR,hwp,hrs⟩:=hrel
      clear HR0 HMP
      obtain ⟨wq,rfl⟩:∃wq:World,wq=wr:=⟨_,rfl⟩
      have hxn:=hR.out.ext
      have hrl:rs.length≤1100:=by
       have h1:=mE (s.sl.take m)
       have h2:=HB.out.sl
       rw [hrs.out,List.length_map]
       rw [List.length_take]at h1
       omega
      by_cases hml:m < s.sl.length
      rotate_left
      ·obtain rfl:m=s.sl.length:=by omega
       clear hml hm
       have g0:=(aB hR.out.g).1
       have hbr:=(HBR.out.at hxn)
       have kR:=(aB hbr).1
       have fR:=(aB hbr).2
       have HFIN:=zH (hR.out.fin rfl rfl)
       have HRS:Hid (rs=(bS s.sl).map (turnZ os)):=zH (by have:=hrs.out;rwa [List.take_length]at this)
       have HXQ:=zH hxn
       have HRB:=zH hbr
       clear hxn hbr hrs
       go_wp2_with fail
       ((try simp only [Exit.inBlock,Exit.then]);refine bodyPost_ret (v:= .tuple #[.agg #[.slice vA cs.length vc,.slice rA rs.length rc],.slice A os.length cap,.int .i64 0]) (by simp only [results,Tryz.results18];go_simp) rfl ?_)
       exact ⟨⟨vA,vc,cs,rA,rc,rs⟩,A,cap,rfl,((HFIN.out.box HRB.out).box (aL HRB.out _)).at,hcs.out,HRS.out,HFIN.out.shp,dp (dp (HIO.out.ext HXQ.out) (fun x=>⟨_,_,rfl⟩) HRB.out (by intros;simp) (by intros;simp) _ _) (fun x=>⟨_,_,rfl⟩) (aL HRB.out _) (by intros;simp) (by intros;simp) _ _,((HX.out.trans HXQ.out).setCell HVV.out _).setCell HVV.out _⟩
      have HUS:=zH (jX s.sl m hml)
      have HWD:=zH (HB.out.b.sb _ (aH (d:=(false,0,0)) hml))
      have hsm:=F.out.slt
      rw [HOS.out]at hsm
      have HSM:=zH (fun (h:(s.sl.getD m (false,0,0)).1=true)=>(hsm (s.sl.getD m (false,0,0)).2.2 (List.mem_map.2 ⟨_,List.mem_filter.2 ⟨aH hml,h⟩,rfl⟩)).2)
      obtain ⟨sb,soff,rfl,hcc⟩:=(show SlotsAt wm sA s.sl from by rw [←HSA.out];exact HS.out.s).get oM
      obtain ⟨e0,e1,e2⟩:=de hcc hml
      have c0:=hxn.cell e0
      have c1:=hxn.cell e1
      have c2:=hxn.cell e2
      have ib0:(0:Int)≤(m:Int):=by omega
      have ib1:(m:Int) < (s.sl.length:Int):=by omega
      have hm98:=HB.out.sl
      have HML:=zH hml
      have hm98b:m≤1100:=by omega
      clear e0 e1 e2 hcc hml hm hsm
      generalize s.sl.getD m (false,0,0)=x at*
      obtain ⟨u,g,w⟩:=x
      simp only at c0 c1 c2 HUS HWD HSM
      cases u with
      | false=>
       have HU2:Hid (bS (s.sl.take (m+1))=bS (s.sl.take m)):=zH (by rw [HUS.out];simp)
       have HR2:=zH (hR.out.grow ((zo _).alloc (.cells #[.bool false,.int .i64 g,.int .u64 w] 73)))
       have HW2:=zH (Nat.le_trans hwp.out ((zo wq).alloc (.cells #[.bool false,.int .i64 g,.int .u64 w] 73)).size)
       go_wp2_with fail
       go_roundw
       case rel=>exact ⟨m+1,rs,rA,rc,by have:=HML.out;omega,by go_num,HR2,HW2,by rw [HU2.out];exact hrs⟩
       case measure=>have:=HML.out;simp [intOf];omega
      | true=>
       have HU2:Hid ((bS (s.sl.take (m+1))).map (turnZ os)=rs++ [turnZ os w]):=zH (by rw [HUS.out,List.map_append,←hrs.out];simp)
       have HR2:=zH (hR.out.grow ((zo _).alloc (.cells #[.bool true,.int .i64 g,.int .u64 w] 73)))
       have HW2:=zH (Nat.le_trans hwp.out ((zo wq).alloc (.cells #[.bool true,.int .i64 g,.int .u64 w] 73)).size)
       have hbs:=aN wq #[.bool true,.int .i64 g,.int .u64 w] 73 _ rfl
       go_wp2_with fail
       generalize wq.alloc (.cells #[.bool true,.int .i64 g,.int .u64 w] 73)=ws at*
       generalize wq.heap.size=sB at*
       have HRT:=zH (fun u:ExtOf ws=>qw os mb w u.1 HWD.out (HSM.out (by first | trivial | rfl)) ((hM.out.ext HR2.out.ext).ext u.2))
       have l0:=(aO HR2.out.g).cells
       have l1:=(aO hbs).cells
       have hs0:Ext ws ws:=zo _
       have eg:∀args w,(callFunc 58 args).run Tryz.prog w= .ok (.enter 58 args) w:=enters_of Tryz.func58 (by kernel_rfl) rfl
       generalize turnZ os w=tz at*
       clear HUS hrs
       (refine ax (W:=ws) [(0,true),(1,true),(2,true),(3,true),(4,true),(5,false)] [6] [7,8,9] (by kernel_rfl) (by kernel_rfl) (by intro c a d v w h;cases d <;>first | exact h | (cases h;done) | cases h.1.1 | cases h.1) aS ?_;simp only [aI,List.map_cons,List.map_nil,List.getD_cons_zero,List.getD_cons_succ];(repeat (go_big_quiet_step (first | (go_at_fn 58;with_reducible exact zq (HRT.out _)))));refine wpQuiet_nil ?_;intro w1 hx;(repeat (refine cR rM ?_;intro K hK;go_simp;refine hK _ _ zG ?_;clear hK K));refine bz ?_)
       have HR1:=zH (HR2.out.grow hx)
       have HZ8:=zH (Nat.le_trans HW2.out hx.size)
       have hsz:=HZ8.out
       clear l0 l1 hs0 ib0 ib1 hxn hx HRT hR HR2 HW2 c0 c1 c2 hbs
       go_wp2_with (at_builtin;refine aM rfl (.tmp 111) (.tmp 116) 25 rfl iI aE rfl HR1.out.roots [tz] 1 _ rfl (rs.length+1) 1 sM rfl _ rfl (by first | rfl | simp) oM (by simp [maxLen];omega) hsz ?_;intro A6 c6 w6 ho6 hg6 ht6;have HR6:=zH (LfR.app (HR1.out.grow ((zo _).alloc _)) (Nat.le_trans HZ8.out ((zo _).alloc _).size) ho6 hg6);have HB6:=zH (LfR.blk (HR1.out.grow ((zo _).alloc _)) hg6);have HZ6:Hid (wp.heap.size≤(w6.setCell ⟨Bg,1,none⟩ (.slice A6 (rs.length+1) c6)).heap.size):=zH (by rw [World.size_setCell];exact Nat.le_trans (Nat.le_trans HZ8.out ((zo _).alloc _).size) hg6.size);clear ho6 hg6 ht6;have f1:=(aB HB6.out).1;have f2:=(aB HB6.out).2)
       go_roundw
       case rel=>exact ⟨m+1,rs++ [tz],A6,c6,by have:=HML.out;omega,by go_num,by rw [List.length_append];exact HR6,HZ6,zH HU2.out.symm⟩
       case measure=>have:=HML.out;simp [intOf];omega
    have hxk:=hI.out.ext
    have hm:os.getD k 0∈bR s:=by rw [HOS.out];exact aH hlt
    have HF:=zH (show aV (some s.ws) (os.getD k 0)=0∧(0≤os.getD k 0∧os.getD k 0+1+(aJ (some s.ws) (os.getD k 0)).f+(aJ (some s.ws) (os.getD k 0)).r≤s.ws.length)∧((0≤(aJ (some s.ws) (os.getD k 0)).k∧(aJ (some s.ws) (os.getD k 0)).k≤31)∧(0≤(aJ (some s.ws) (os.getD k 0)).f∧(aJ (some s.ws) (os.getD k 0)).f≤4096)∧(0≤(aJ (some s.ws) (os.getD k 0)).r∧(aJ (some s.ws) (os.getD k 0)).r≤4096))from
     ⟨F.out.head _ hm,F.out.at_ _ hm,F.out.bd _ hm⟩)
    have HFL:=zH (F.out.fld _ hm)
    rw [HOS.out]at HFL
    have HNX:Hid ((os.take (k+1)).map (eL s.ws os)=cs.map aX++ [eL s.ws os (os.getD k 0)]):=zH (by
     rw [List.take_add_one,List.getElem?_eq_getElem hlt,Option.toList_some,List.map_append,hcs.out,aU hlt]
     rfl)
    obtain ⟨lb,off,rfl,hc⟩:=HIO.out.get oM
    have c1:=hxk.cell (b5 hc hlt)
    have HS1:=zH (HS.out.ext hxk)
    have HLT:=zH hlt
    have ib0:(0:Int)≤(k:Int):=by omega
    have ib1:(k:Int) < (os.length:Int):=by omega
    have kS:=(aB (HBS.out.at hxk)).1
    clear hc hxk hlt hm
    generalize os.getD k 0=at_ at*
    have hf1:=HF.out.2.1
    have hE:=HF.out.1
    generalize hH:aJ (some s.ws) at_=h at*
    have HH:=zH hH
    have Z:=yT s at_ wr HS1.out HB.out (by have h1:=HF.out.2.1;have h2:=HF.out.2.2;have:=HB.out.ws;omega)
    rw [hH,hE,HWA.out,HSA.out]at Z
    obtain ⟨hk',hf',hr',hm',hc'⟩:=h
    simp only at hf1
    obtain ⟨hkb,hfb,hrb⟩:=HF.out.2.2
    simp only at hkb hfb hrb HFL
    obtain ⟨p,rfl⟩:=Int.eq_ofNat_of_zero_le hf1.1
    obtain ⟨F',rfl⟩:=Int.eq_ofNat_of_zero_le hfb.1
    obtain ⟨R',rfl⟩:=Int.eq_ofNat_of_zero_le hrb.1
    have hpb:p+1+F'+R'≤s.ws.length:=by omega
    have HPB:=zH hpb
    have HFB:Hid (F'≤4096∧R'≤4096):=zH oM
    have HZ:=zH Z
    obtain ⟨wb,woff,rfl,hcw⟩:=(show WordsAt wm wA s.ws from by rw [←HWA.out];exact HS.out.w).get oM
    have HCW:=zH hcw
    have hwl:=HB.out.wl
    obtain ⟨o1,ho1,hsl1⟩:=jo wb woff s.ws.length s.wc (p+1) F' ((p:Int)+1) ((p:Int)+1+F') oM oM oM
    obtain ⟨o2,ho2,hsl2⟩:=jo wb woff s.ws.length s.wc (p+1+F') R' ((p:Int)+1+F') ((p:Int)+1+F'+R') oM oM oM
    have HO1:=zH ho1
    have HO2:=zH ho2
    clear hH hE hf1 hkb hfb hrb Z hcw hpb hwl ho1 ho2
    go_wp2_with fail
    refine HZ.out.mono ?_
    rintro e w3 ⟨rfl,hx3⟩
    have HI3:=zH (hI.out.grow hx3)
    have kS3:=(aB (HBS.out.at HI3.out.ext)).1
    have lS:=aA (HBS.out.at HI3.out.ext)
    have hp1:(0:Int)≤(p:Int)+1:=by omega
    have hp2:(p:Int)+1≤(p:Int)+1+(F':Int):=by omega
    have hp3:(p:Int)+1+(F':Int)≤(s.wc:Int):=by have:=HPB.out;have:=HB.out.wl;omega
    have hp4:p≤4000:=by have:=HPB.out;have:=HB.out.ws;omega
    have hp5:F'≤4096:=HFB.out.1
    have lX:Bg < w3.heap.size:=aA HI3.out.g
    clear hI c1 kS hx3 HZ
    go_wp2_with fail
    have HBH:=zH (aF w3 #[.int .i64 hk',.int .i64 (F':Nat),.int .i64 (R':Nat),.bool hm',.int .i64 hc'] 85 _ rfl)
    have HN0:=zH (NdI.start (w3.alloc (.cells #[.int .i64 hk',.int .i64 (F':Nat),.int .i64 (R':Nat),.bool hm',.int .i64 hc'] 85)) hk')
    have hx5:Ext w3 (w3.alloc (.cells #[.int .i64 hk',.int .i64 (F':Nat),.int .i64 (R':Nat),.bool hm',.int .i64 hc'] 85)):=(zo _).alloc _
    have HI5:=zH (HI3.out.grow hx5)
    have hXe:(w3.alloc (.cells #[.int .i64 hk',.int .i64 (F':Nat),.int .i64 (R':Nat),.bool hm',.int .i64 hc'] 85)).heap.size=w3.heap.size+1:=by simp
    rw [hXe]at HN0
    have HNE:Hid (Bg≠w3.heap.size+1∧w3.heap.size+1≠Bg):=zH oM
    clear hXe hx5 kS3 lS lX HI3 hp1 hp2 hp3
    generalize w3.heap.size+1=X at*
    generalize w3.heap.size=Y at*
    generalize w3.alloc (.cells #[.int .i64 hk',.int .i64 (F':Nat),.int .i64 (R':Nat),.bool hm',.int .i64 hc'] 85)=W5 at*
    have HBS5:=zH (HBS.out.re HI5.out.ext)
    have HMS5:=zH (hM.out.ext HI5.out.ext)
    generalize W5.alloc (.cells #[.int .i64 hk',.slice none 0 0,.slice none 0 0] 66)=W6 at*
    go_loopw [71] (fun i wr=>∃(j:Nat) (fs:List (Int×Int)) (fA:Option Addr) (fc:Nat),j≤F'∧i= .int .i64 j∧Hid (NdI W5 X hk' (.slice fA fs.length fc) (.slice none 0 0) fs [] wr)∧Hid (fs=(List.range j).map (fun (k:Nat)=>turnZ os (wdZ s.ws ((p:Int)+1+k))))) (fun i _=>F' - (intOf i).toNat)
    case atStart=>exact ⟨0,[],none,0,by omega,rfl,HN0,zH rfl⟩
    case round=>
     obtain ⟨j,fs,fA,fc,hj,rfl,hN,hfs⟩:=hrel
     clear HN0
     obtain ⟨wq,rfl⟩:∃wq:World,wq=wr:=⟨_,rfl⟩
     have hxn:=hN.out.ext
     have hfl:fs.length≤4096:=by rw [hfs.out,List.length_map,List.length_range];omega
     by_cases hjl:j < F'
     rotate_left
     ·obtain rfl:j=F':=by omega
      clear hjl hj
      have k1:=(aB (HBH.out.at hxn)).1
      have kS:=(aB (HBS5.out.at hxn)).1
      have hr1:(0:Int)≤(p:Int)+1+(j:Int):=by omega
      have hr2:(p:Int)+1+(j:Int)≤(p:Int)+1+(j:Int)+(R':Int):=by omega
      have hr3:(p:Int)+1+(j:Int)+(R':Int)≤(s.wc:Int):=by have:=HPB.out;have:=HB.out.wl;omega
      have hr4:R'≤4096:=HFB.out.2
      have HNQ:=hN
      clear hN
      go_wp2_with fail
      have HRW:Hid (RowAt 1 u64C wq (some ⟨wb,o2,none⟩) ((List.range R').map fun (k:Nat)=>wdZ s.ws ((p:Int)+1+j+k))):=zH (by
       by_cases h0:R'=0
       ·subst h0
        exact ⟨wb,o2,fun _=>rfl,by simp⟩
       ·rw [HO2.out h0]
        exact (ur HCW.out (p+1+j) R' (by have:=HPB.out;omega)).ext (HI5.out.ext.trans HNQ.out.ext))
      have hys:((List.range R').map fun (k:Nat)=>wdZ s.ws ((p:Int)+1+j+k)).length=R':=by simp
      have HYS:=zH (show ((List.range R').map fun (k:Nat)=>wdZ s.ws ((p:Int)+1+j+k))=(List.range R').map fun (k:Nat)=>wdZ s.ws ((p:Int)+1+j+k)from rfl)
      generalize hyv:((List.range R').map fun (k:Nat)=>wdZ s.ws ((p:Int)+1+j+k))=ys at HRW hys
      have HYV:=zH hyv
      have Z:=gL (some ⟨wb,o2,none⟩) (s.wc - (p+1+j)) ys wq oM HRW.out
      rw [hys]at Z
      refine Z.mono ?_
      clear Z HYS hyv HRW
      rintro e w4 ⟨A1,cap1,rfl,ho,hx4⟩
      have HN4:=zH (HNQ.out.grow hx4)
      have ho4:Own 61 1 u64C w4 W5.heap.size (.slice A1 R' cap1) ys:=ho.mono HNQ.out.ext.size
      have HN5:=zH (HN4.out.setR ho4)
      have HI4:=zH (HI5.out.grow HN4.out.ext)
      have HI8:=zH (HI5.out.grow HN5.out.ext)
      have hcl2:=HN5.out.ext
      clear hcl2
      have hcl:cs.length≤1000:=by have:=congrArg List.length hcs.out;simp at this;omega
      have HNV:Hid (aX ⟨hk',fA,fc,fs,A1,cap1,ys⟩=eL s.ws os p):=zH (by
       simp only [aX,eL,HH.out,Int.toNat_natCast]
       rw [hfs.out,←HYV.out])
      have n1:=(aB HN4.out.g).1
      have n2:=(aB HN4.out.g).2
      have g0:=(aB HI4.out.g).1
      have hne1:=HNE.out.1
      have hne2:=HNE.out.2
      have hsz:=HI8.out.ext.size
      clear ho hx4 ho4 k1 kS hfs
      have HYL:=zH hys
      have HOX:Hid (OwnN (w4.setCell ⟨X,2,none⟩ (.slice A1 R' cap1)) wm.heap.size ⟨hk',fA,fc,fs,A1,cap1,ys⟩):=zH ⟨HN5.out.f.mono HI5.out.ext.size,by simp only;rw [hys];exact HN5.out.r.mono HI5.out.ext.size⟩
      clear hys hp4 hp5 hr1 hr2 hr3 hr4 hsl1 hsl2
      go_wp2_with (at_builtin;refine aM rfl (.tmp 95) (.tmp 97) 24 rfl ks dL rfl HI8.out.own [⟨hk',fA,fc,fs,A1,cap1,ys⟩] 1 _ (by simp [dv,HYL.out]) (cs.length+1) 1 sM rfl _ rfl (by first | rfl | simp) oM (by simp [maxLen];omega) hsz ?_;intro A6 c6 w6 ho6 hg6 ht6;have HI9:=zH (LfI.app (x:=⟨hk',fA,fc,fs,A1,cap1,ys⟩) (HI8.out.grow ((zo _).alloc _)) (HOX.out.ext ((zo _).alloc _)) ho6 hg6);have HB9:=zH (LfI.blk (HI8.out.grow ((zo _).alloc _)) hg6);clear ho6 hg6 ht6;have f1:=(aB HB9.out).1;have f2:=(aB HB9.out).2)
      go_roundw
      case rel=>exact ⟨k+1,cs++ [⟨hk',fA,fc,fs,A1,cap1,ys⟩],A6,c6,by have:=HLT.out;omega,by go_num,by rw [List.length_append];exact HI9,zH (by rw [List.map_append,List.map_singleton,HNV.out];exact HNX.out.symm)⟩
      case measure=>have:=HLT.out;simp [intOf];omega
     have hlw:p+1+j < s.ws.length:=by have:=HPB.out;omega
     have c1:=(HI5.out.ext.trans hxn).cell (cF HCW.out hlw)
     rw [show woff+(p+1+j)=o1+j by have:=HO1.out oM;omega]at c1
     have hwb:=HB.out.b.wb _ (aH (d:=0) hlw)
     have hwz:wdZ s.ws ((p:Int)+1+j)=s.ws.getD (p+1+j) 0:=by unfold wdZ;congr 1
     have hmo:=(HFL.out j oM).2
     rw [hwz]at hmo
     have HSN:Hid ((List.range (j+1)).map (fun (k:Nat)=>turnZ os (wdZ s.ws ((p:Int)+1+k)))=fs++ [turnZ os (s.ws.getD (p+1+j) 0)]):=zH (by rw [List.range_succ,List.map_append,←hfs.out,←hwz];rfl)
     generalize s.ws.getD (p+1+j) 0=wd at*
     have HRT:=zH (fun u:ExtOf wq=>qw os mb wd u.1 hwb hmo ((HMS5.out.ext hxn).ext u.2))
     have l0:=(aO hN.out.g).cells
     have hs0:Ext wq wq:=zo _
     have ib2:(0:Int)≤(j:Int):=by omega
     have ib3:(j:Int) < (F':Int):=by omega
     have HJL:=zH hjl
     have hb4:j≤4096:=by omega
     have eg:∀args w,(callFunc 58 args).run Tryz.prog w= .ok (.enter 58 args) w:=enters_of Tryz.func58 (by kernel_rfl) rfl
     generalize turnZ os wd=tz at*
     clear hwb hwz hmo hlw hjl hj hfs
     go_wp2_with fail
     (refine ax (W:=wq) [(0,true),(1,true),(2,true),(3,true),(4,false)] [5] [6,7,8] (by kernel_rfl) (by kernel_rfl) (by intro c a d v w h;cases d <;>first | exact h | (cases h;done) | cases h.1.1 | cases h.1) aS ?_;simp only [aI,List.map_cons,List.map_nil,List.getD_cons_zero,List.getD_cons_succ];(repeat (go_big_quiet_step (first | (go_at_fn 58;with_reducible exact zq (HRT.out _)))));refine wpQuiet_nil ?_;intro w1 hx;(repeat (refine cR rM ?_;intro K hK;go_simp;refine hK _ _ zG ?_;clear hK K));refine bz ?_)
     have HN1:=zH (hN.out.grow hx)
     have hsz:=HN1.out.ext.size
     clear l0 hs0 ib2 ib3 hxn hx HRT hN c1
     go_wp2_with (at_builtin;refine aM rfl (.tmp 76) (.tmp 80) 25 rfl iI aE rfl HN1.out.f [tz] 1 _ rfl (fs.length+1) 1 sM rfl _ rfl (by first | rfl | simp) oM (by simp [maxLen];omega) hsz ?_;intro A6 c6 w6 ho6 hg6 ht6;have HN6:=zH (NdI.appF (HN1.out.grow ((zo _).alloc _)) ho6 hg6);have HB6:=zH (NdI.blkF (HN1.out.grow ((zo _).alloc _)) hg6);clear ho6 hg6 ht6;have f1:=(aB HB6.out).1;have f2:=(aB HB6.out).2)
     go_roundw
     case rel=>exact ⟨j+1,fs++ [tz],A6,c6,by have:=HJL.out;omega,by go_num,by rw [List.length_append];exact HN6,zH HSN.out.symm⟩
     case measure=>have:=HJL.out;simp [intOf];omega
  have HND:=zH (show aY os (os.getD k 0)=k from qv (by rw [←HOS.out];exact F.out.nd) hlt)
  have HPF:=zH (tI hlt HND.out)
  have HBD:Hid (0≤os.getD k 0∧os.getD k 0≤4000):=zH (by
   have hm:os.getD k 0∈bR s:=by rw [HOS.out];exact aH hlt
   have h1:=F.out.at_ _ hm
   have h2:=F.out.bd _ hm
   have h3:=HB.out.ws
   omega)
  obtain ⟨lb,off,rfl,hc⟩:=HIO.out.get oM
  have c1:=hxr.out.cell (b5 hc hlt)
  have ib0:(0:Int)≤(k:Int):=by omega
  have ib1:(k:Int) < (os.length:Int):=by omega
  have HLT:=zH hlt
  clear hc hlt hk HND
  generalize os.getD k 0=a at*
  have HWF:Hid ((Lit.int .i64 a).wf=true):=zH (WalkArith.wf_i64 ⟨by have:=HBD.out;omega,by have:=HBD.out;omega⟩)
  have hko:=HLT.out
  go_wp2_with (at_mapUpdate;refine iB rfl (.tmp 39) (.tmp 40) (.tmp 41) rfl hM.out.map rfl (by unfold maxLen;omega) a k rfl rfl HWF.out (WalkArith.wf_i64 ⟨by omega,by omega⟩) ?_;intro w6 hm6 hg6;have HM6:Hid (MapS w6 mb (k+1) (pf os (k+1))):=zH ⟨by rw [←HPF.out];exact hm6,(hg6.block _ (aA hM.out.box) sM).trans hM.out.box⟩;have HX6:Hid (Ext w1 w6):=zH (Below.grown hxr.out hg6 hxr.out.size (fun j hj=>by injection hj with hj;have:=HMB.out;omega));clear hm6 hg6)
  go_roundw
  case rel=>exact ⟨k+1,by have:=HLT.out;omega,by go_num,HX6,HM6⟩
  case measure=>have:=HLT.out;simp [intOf];omega
theorem gF (s:StD) (V:World) (h:StAt V s) (hb:LfB s):Calls Tryz.prog 18 #[.agg #[.int .i64 s.c0,.int .i64 s.c1,.int .i64 s.c2,.int .i64 s.c3,.bool s.snd,.slice s.wA s.ws.length s.wc,.int .i64 s.top,.slice s.tA s.tb.length s.tc,.slice s.fA s.fr.length s.fc,.slice s.sA s.sl.length s.sc]] V (qo V (dQ s) (dR s) (gi s) (bT s)):=by
 by_cases hc:chkS s=0
 ·exact yU s V h hc (hb.m hc)
 ·exact xB s V h hc hb.le hb.b
def dvZ (w:Int):Int×Int:=(decT w,decX w)
noncomputable def mK (s:StD):List (Int×Int):=if chkS s=0 then (bS s.sl).map dvZ else []
def yf (V:World) (vs:List (Int×Int)) (c:Int) (e:Ending) (w':World):Prop:=∃A cap,e= .returned (.tuple #[.slice A vs.length cap,.int .i64 c])∧SpansAt w' A vs∧Ext V w'
theorem sS {V w:World} {s:StD} (h:chkS s≠0) (hx:Ext V w):yf V (mK s) (bT s) (.returned (.tuple #[.slice none 0 0,.int .i64 4])) w:=by
 unfold mK bT
 rw [if_neg h,if_neg h]
 exact ⟨none,0,rfl,AI _ _ _,hx⟩
theorem qx (s:StD) (V:World) (h:StAt V s) (hb:LfB s):Calls Tryz.prog 25 #[.agg #[.int .i64 s.c0,.int .i64 s.c1,.int .i64 s.c2,.int .i64 s.c3,.bool s.snd,.slice s.wA s.ws.length s.wc,.int .i64 s.top,.slice s.tA s.tb.length s.tc,.slice s.fA s.fr.length s.fc,.slice s.sA s.sl.length s.sc]] V (yf V (mK s) (bT s)):=by
 have hx0:=(zo V).alloc (.cells #[.int .i64 s.c0,.int .i64 s.c1,.int .i64 s.c2,.int .i64 s.c3,.bool s.snd,.slice s.wA s.ws.length s.wc,.int .i64 s.top,.slice s.tA s.tb.length s.tc,.slice s.fA s.fr.length s.fc,.slice s.sA s.sl.length s.sc] 34)
 have HBS:=zH (aF V #[.int .i64 s.c0,.int .i64 s.c1,.int .i64 s.c2,.int .i64 s.c3,.bool s.snd,.slice s.wA s.ws.length s.wc,.int .i64 s.top,.slice s.tA s.tb.length s.tc,.slice s.fA s.fr.length s.fc,.slice s.sA s.sl.length s.sc] 34 _ rfl)
 have HX:=zH hx0
 have HS:=zH (h.ext hx0)
 have HB:=zH hb
 have kS:=(aB HBS.out.here).1
 obtain ⟨k,hk⟩:∃k,chkS s=k:=⟨_,rfl⟩
 have HK:=zH (show checkZ s.c0 s.c1 s.c2 s.c3 s.snd s.ws s.top s.tb s.fr s.sl=k from hk)
 clear hx0 h hb
 by_cases hc:k=0
 rotate_left
 ·have HC:Hid (chkS s≠0):=zH (by rw [hk];exact hc)
  have d1:(k==0)=false:=by simpa using hc
  have d2:(k !=0)=true:=by simpa using hc
  clear hc hk
  go_enter Tryz.func25,Tryz.ntmps25
  go_wp2_with fail
  refine (jS s _ HK.out _ HS.out HB.out.le HB.out.b).mono ?_
  rintro e w1 ⟨rfl,hx⟩
  replace HX:=zH (HX.out.trans hx)
  clear hx kS
  go_wp2_with fail
  go_returns
  exact sS HC.out HX.out
 subst hc
 rw [show mK s=(bS s.sl).map dvZ by rw [mK,if_pos hk],show bT s=0 by rw [bT,if_pos hk]]
 clear hk
 generalize hsA:s.sA=sA at*
 have HSA:=zH hsA
 clear hsA
 go_enter Tryz.func25,Tryz.ntmps25
 go_wp2_with fail
 have Z:=jS s _ HK.out _ HS.out HB.out.le HB.out.b
 rw [HSA.out]at Z
 refine Z.mono ?_
 clear Z
 rintro e w1 ⟨rfl,hx⟩
 replace HX:=zH (HX.out.trans hx)
 replace HS:=zH (HS.out.ext hx)
 replace HBS:=zH (HBS.out.re hx)
 have kS2:=(aB HBS.out.here).1
 clear hx kS
 go_wp2_with fail
 clear kS2
 go_loopw [4,15] (fun v i wr=>∃(k:Nat) (A:Option Addr) (cap:Nat),k≤s.sl.length∧i= .int .i64 k∧v= .slice A (bS (s.sl.take k)).length cap∧Hid (Ext w1 wr)∧Hid (Own 71 2 aa wr w1.heap.size (.slice A (bS (s.sl.take k)).length cap) ((bS (s.sl.take k)).map dvZ))) (fun v i _=>s.sl.length - (intOf i).toNat)
 case atStart=>exact ⟨0,none,0,by omega,rfl,rfl,zH (zo _),zH (AA _ _ _ _ _)⟩
 case round=>
  obtain ⟨k,A,cap,hk,rfl,rfl,hxk,hO⟩:=hrel
  have kS:=(aB (HBS.out.at hxk.out)).1
  by_cases hlt:k < s.sl.length
  rotate_left
  ·obtain rfl:k=s.sl.length:=by omega
   rw [List.take_length]at hO
   have e:(bS (s.sl.take s.sl.length)).length=((bS s.sl).map dvZ).length:=by rw [List.take_length,List.length_map]
   have HE:=zH e
   rw [e]
   have HR:Hid (Own 71 2 aa wr w1.heap.size (.slice A ((bS s.sl).map dvZ).length cap) ((bS s.sl).map dvZ)):=zH (by
    have h1:=hO.out
    rw [List.length_map]
    exact h1)
   clear hlt hk e hO
   generalize (bS s.sl).map dvZ=vs at*
   go_wp2_with fail
   go_returns
   exact ⟨A,cap,rfl,(ag HR.out aE dM).1,HX.out.trans hxk.out⟩
  have hul:(bS (s.sl.take k)).length≤1000:=Nat.le_trans (mE _) (by rw [List.length_take];have:=HB.out.sl;omega)
  have HUS:=zH (jX s.sl k hlt)
  have HWD:=zH (HB.out.b.sb _ (aH (d:=(false,0,0)) hlt))
  obtain ⟨lb,off,rfl,hcc⟩:=(show SlotsAt w1 sA s.sl from by rw [←HSA.out];exact HS.out.s).get oM
  obtain ⟨e0,e1,e2⟩:=de hcc hlt
  have c0:=hxk.out.cell e0
  have c1:=hxk.out.cell e1
  have c2:=hxk.out.cell e2
  have ib0:(0:Int)≤(k:Int):=by omega
  have ib1:(k:Int) < (s.sl.length:Int):=by omega
  have hk98:=HB.out.sl
  clear hcc e0 e1 e2
  generalize s.sl.getD k (false,0,0)=x at*
  obtain ⟨u,g,w⟩:=x
  simp only at c0 c1 c2 HUS HWD
  cases u with
  | false=>
   have HU2:Hid (bS (s.sl.take (k+1))=bS (s.sl.take k)):=zH (by rw [HUS.out];simp)
   go_wp2_with fail
   go_roundw
   case rel=>exact ⟨k+1,A,cap,by omega,by go_num,by rw [HU2.out],zH (hxk.out.alloc _),zH (by rw [HU2.out];exact hO.out.ext ((zo _).alloc _))⟩
   case measure=>simp [intOf];omega
  | true=>
   have HU2:Hid (bS (s.sl.take (k+1))=bS (s.sl.take k)++ [w]):=zH (by rw [HUS.out];simp)
   clear HUS
   go_wp2_with fail
   refine (ny w _ HWD.out.1 HWD.out.2).mono ?_
   rintro e w5 ⟨rfl,hx⟩
   have HX5:=zH ((hxk.out.alloc _).trans hx)
   have HO5:=zH (((hO.out.ext ((zo _).alloc _)).ext hx).ext ((zo _).alloc (.cells #[.int .i64 (decT w),.int .i64 (decX w)] 71)))
   have hsz:=(HX5.out.alloc (.cells #[.int .i64 (decT w),.int .i64 (decX w)] 71)).size
   have HSZ:=zH hsz
   clear hx kS c0 c1 c2 hO hsz
   go_wp2_with (at_builtin;refine aM rfl (.tmp 27) (.tmp 29) 25 rfl iI aE rfl HO5.out [(decT w,decX w)] 1 _ rfl ((bS (s.sl.take k)).length+1) 1 (by rw [List.length_map];rfl) rfl _ rfl (by first | rfl | simp) oM (by simp [maxLen];omega) HSZ.out ?_;intro A6 c6 w6 ho6 hg6 ht6;have HX6:Hid (Ext w1 w6):=zH ((HO5.out.ext ((zo _).alloc _)).grown hg6 (Nat.le_refl _) ((HX5.out.alloc _).alloc _));have HO6:=zH ho6;clear ho6 hg6 ht6)
   go_roundw
   case rel=>exact ⟨k+1,A6,c6,by omega,by go_num,by rw [HU2.out];simp,HX6,zH (by have:=HO6.out;rw [HU2.out];simpa [dvZ]using this)⟩
   case measure=>simp [intOf];omega
end Go.Proofs.YtphpppjfogpohaaGreat
