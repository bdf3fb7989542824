/- Merged by program (merge.py) out of: LfC, LfD, LfE. -/
import Derived.Test.YtphpppjfogpohaaGreatMx42
import Derived.Test.YtphpppjfogpohaaGreatMx47
import Derived.Test.YtphpppjfogpohaaGreatMx7
import Derived.Test.YtphpppjfogpohaaGreatMx30
import Derived.Test.YtphpppjfogpohaaGreatMx35
set_option linter.unusedSimpArgs false
set_option linter.unusedVariables false
set_option maxRecDepth 100000
set_option maxHeartbeats 16000000
namespace Go.Proofs.YtphpppjfogpohaaGreat
open Go.RowKit Go.Shelf
theorem place_nodup {os:List Int} (h:os.Nodup) {k:Nat} (hk:k < os.length):placeZ os (os.getD k 0)=k:=
 place_hit hk rfl fun i hi e=>by
  rw [getD_get (by omega),getD_get hk]at e
  have:=(List.getElem_inj h).1 e
  omega
theorem turn_pf {os:List Int} {w:Int} (h:decT w=2→decX w∈os):turnZ os w=(decT w,if decT w=2 then (pf os os.length (decX w)).getD 0 else decX w):=by
 unfold turnZ
 by_cases e:decT w=2
 ·rw [if_pos e,if_pos e,pf_all,e]
  rcases place_cases os (decX w)with ⟨h3,h4⟩ | ⟨k,hk,h3,h4,h5⟩
  ·exact absurd rfl (h4 _ (h e))
  ·rw [h3,if_neg (by omega),if_neg (by omega)]
   rfl
 ·rw [if_neg e,if_neg e]
theorem slice_words (b off n c l m:Nat) (lo hi:Int) (h1:lo=l) (h2:hi=((l+m:Nat):Int)) (hle:l+m≤c):
  ∃o1,(m≠0→o1=off+l)∧∀W,(Instr.sliceAt 30 (.slice (some ⟨b,off,none⟩) n c) (some (.int .i64 lo)) (some (.int .i64 hi)) none).run Tryz.prog W= .ok (.slice (some ⟨b,o1,none⟩) m (c - l)) W:=by
 subst h1
 subst h2
 have a1:(0:Int)≤(l:Int):=by omega
 have a2:(l:Int)≤((l+m:Nat):Int):=by omega
 have a3:((l+m:Nat):Int)≤(c:Int):=by omega
 have a4:l+m - l=m:=by omega
 by_cases h:c=l
 ·obtain rfl:m=0:=by omega
  refine ⟨off,fun h=>absurd rfl h,fun W=> ?_⟩
  subst h
  go_simp
 ·refine ⟨off+l,fun _=>rfl,fun W=> ?_⟩
  have h5:(c=l)=False:=eq_false h
  go_simp
  rw [if_pos ⟨by omega,by omega⟩,if_pos (by omega),show ((l:Int)+(m:Int)).toNat - l=m by omega]
structure MapS (w:World) (mb n:Nat) (f:Int→Option Int):Prop where
 map:MapOf w mb n f
 box:w.heap[mb+1]?=some (.cells #[.map (some mb)] 100 (0,0))
section
variable {w w' : World} {mb n : Nat} {f : Int → Option Int}
theorem MapS.ext (h:MapS w mb n f) (hx:Ext w w'):MapS w' mb n f:=⟨h.map.ext hx,(hx.block (lt_of_heap h.box)).trans h.box⟩
theorem MapS.cell (h:MapS w mb n f):w.cell? ⟨mb+1,0,none⟩=some (.map (some mb)):=(cells_of h.box).1 0
theorem lturn_is (os:List Int) (mb:Nat) (w:Int) (W:World) (hw:0≤w∧w < 18446744073709551616) (h:decT w=2→decX w∈os) (hm:MapS W mb os.length (pf os os.length)):
  Calls Tryz.prog 58 #[.int .u64 w,.pointer (some ⟨mb+1,0,none⟩)] W fun e w'=>e= .returned (.agg #[.int .i64 (turnZ os w).1,.int .i64 (turnZ os w).2])∧Ext W w':=by
 rw [turn_pf h]
 exact lturn_any _ _ mb (mb+1) w W hw hm.map hm.cell
end
structure LfM (s:StD):Prop where
 ws:s.ws.length≤4000
 sl:s.sl.length≤1100
 ol:(objsL s).length≤1000
 le:StLe s
 b:StB s
 wl:s.ws.length≤s.wc
theorem lhead_s (s:StD) (i:Int) (V:World) (h:StAt V s) (hb:LfM s) (hi: -9223372036854775808≤i∧i≤9223372036854775807):
  Calls Tryz.prog 60 #[.agg #[.int .i64 s.c0,.int .i64 s.c1,.int .i64 s.c2,.int .i64 s.c3,.bool s.snd,.slice s.wA s.ws.length s.wc,.int .i64 s.top,.slice s.tA s.tb.length s.tc,.slice s.fA s.fr.length s.fc,.slice s.sA s.sl.length s.sc],.int .i64 i] V fun e w'=>e= .returned (.tuple #[.agg #[.int .i64 (headH (some s.ws) i).k,.int .i64 (headH (some s.ws) i).f,.int .i64 (headH (some s.ws) i).r,.bool (headH (some s.ws) i).m,.int .i64 (headH (some s.ws) i).c],.int .i64 (headE (some s.ws) i)])∧Ext V w':=
 sthead_any V i (pers_row h.w) hb.le.w hb.b.wb hi
theorem llift_w (s:StD) (V:World) (h:StAt V s) (hc:chkS s=0) (hb:LfM s):Calls Tryz.prog 18 #[.agg #[.int .i64 s.c0,.int .i64 s.c1,.int .i64 s.c2,.int .i64 s.c3,.bool s.snd,.slice s.wA s.ws.length s.wc,.int .i64 s.top,.slice s.tA s.tb.length s.tc,.slice s.fA s.fr.length s.fc,.slice s.sA s.sl.length s.sc]] V (RetLf V (liftV s) (liftQ s) (liftO s) (liftE s)):=by
 have hx0:=((Ext.refl V).alloc (.cells #[.int .i64 s.c0,.int .i64 s.c1,.int .i64 s.c2,.int .i64 s.c3,.bool s.snd,.slice s.wA s.ws.length s.wc,.int .i64 s.top,.slice s.tA s.tb.length s.tc,.slice s.fA s.fr.length s.fc,.slice s.sA s.sl.length s.sc] 34)).alloc (.cells #[.slice none 0 0,.slice none 0 0] 27)
 have HBS:=zH ((pers_new V #[.int .i64 s.c0,.int .i64 s.c1,.int .i64 s.c2,.int .i64 s.c3,.bool s.snd,.slice s.wA s.ws.length s.wc,.int .i64 s.top,.slice s.tA s.tb.length s.tc,.slice s.fA s.fr.length s.fc,.slice s.sA s.sl.length s.sc] 34 _ rfl).re ((Ext.refl _).alloc (.cells #[.slice none 0 0,.slice none 0 0] 27)))
 have HBR:=zH (pers_new (V.alloc (.cells #[.int .i64 s.c0,.int .i64 s.c1,.int .i64 s.c2,.int .i64 s.c3,.bool s.snd,.slice s.wA s.ws.length s.wc,.int .i64 s.top,.slice s.tA s.tb.length s.tc,.slice s.fA s.fr.length s.fc,.slice s.sA s.sl.length s.sc] 34)) #[.slice none 0 0,.slice none 0 0] 27 (V.heap.size+1) (by simp))
 have HX:=zH hx0
 have HS:=zH (h.ext hx0)
 have HB:=zH hb
 have HVV:Hid (V.heap.size≤V.heap.size+1):=zH (by omega)
 have kS:=(cells_of HBS.out.here).1
 clear hx0 h hb
 have F:=zH (LfOk.of hc)
 have HC:=zH hc
 have HO:Hid (ObjOf s (objsL s) 0):=zH (.inl ⟨hc,rfl,rfl⟩)
 have HOL:=zH (objs_len F.out)
 rw [show liftO s=objsL s by rw [liftO,if_pos hc],show liftE s=0 by rw [liftE,if_pos hc],show liftV s=(objsL s).map (nodeL s.ws (objsL s))by rw [liftV,if_pos hc],show liftQ s=(usedL s.sl).map (turnZ (objsL s))by rw [liftQ,if_pos hc]]
 clear hc
 have hol:(objsL s).length≤1000:=HB.out.ol
 generalize hwA:s.wA=wA at*
 generalize hsA:s.sA=sA at*
 have HWA:=zH hwA
 have HSA:=zH hsA
 have hmm:= @run_makeMap Tryz.prog
 clear hwA hsA
 obtain ⟨os,hos⟩:∃os,objsL s=os:=⟨_,rfl⟩
 have HOS:=zH hos
 rw [hos]at HO hol⊢
 clear hos
 go_enter Tryz.func18,Tryz.ntmps18
 go_wp2_with fail
 have Z:=stobj_u s os os.length 0 HO.out rfl _ HS.out HB.out.le HB.out.b
 rw [HWA.out,HSA.out]at Z
 refine Z.mono ?_
 clear Z
 rintro e w1 ⟨A,cap,rfl,ho,hx⟩
 replace HX:=zH (HX.out.trans hx)
 replace HS:=zH (HS.out.ext hx)
 replace HBS:=zH (HBS.out.re hx)
 replace HBR:=zH (HBR.out.re hx)
 have HIO:=zH ho
 have HM0:Hid (MapS ((w1.alloc (.map #[] 0)).alloc (.cells #[.map (some w1.heap.size)] 100)) w1.heap.size 0 (pf os 0)):=zH ⟨by
  rw [pf_zero]
  exact (MapOf.made w1).ext ((Ext.refl _).alloc _),blk_new _ _ _ _ (by simp)⟩
 have HX0:=zH (((Ext.refl w1).alloc (.map #[] 0)).alloc (.cells #[.map (some w1.heap.size)] 100))
 clear hx kS ho
 go_wp2_with fail
 have HW1:=zH (lt_of_heap HBR.out.here)
 have HM1:Hid (w1.heap.size+2=((w1.alloc (.map #[] 0)).alloc (.cells #[.map (some w1.heap.size)] 100)).heap.size):=zH (by simp)
 generalize hmb:w1.heap.size=mb at*
 have HMB:=zH hmb
 clear hmb
 generalize (w1.alloc (.map #[] 0)).alloc (.cells #[.map (some mb)] 100)=W0 at*
 go_loopw [34] (fun i wr=>∃k:Nat,k≤os.length∧i= .int .i64 k∧Hid (Ext w1 wr)∧Hid (MapS wr mb k (pf os k))) (fun i _=>os.length - (intOf i).toNat)
 case atStart=>exact ⟨0,by omega,rfl,HX0,HM0⟩
 case round=>
  obtain ⟨k,hk,rfl,hxr,hM⟩:=hrel
  clear HM0 HX0
  have kM:=(cells_of hM.out.box).1
  by_cases hlt:k < os.length
  rotate_left
  ·obtain rfl:k=os.length:=by omega
   clear hlt hk kM
   obtain ⟨wm,rfl⟩:∃wm:World,wm=wr:=⟨_,rfl⟩
   have hx0:=hxr.out
   replace HX:=zH (HX.out.trans hx0)
   replace HS:=zH (HS.out.ext hx0)
   replace HBS:=zH (HBS.out.re hx0)
   replace HBR:=zH (HBR.out.re hx0)
   replace HIO:=zH (HIO.out.ext hx0)
   clear hx0 hxr HW1 HM1 HMB
   go_wp2_with fail
   have HI0:=zH (show LfI wm wm.heap.size (.slice none 0 0) (.slice none 0 0) [] (wm.alloc (.cells #[.slice none 0 0,.slice none 0 0] 27))from
    ⟨blk_new _ _ _ _ rfl,Own.nil _ _ _ _ _,by simp,(Ext.refl _).alloc _,Nat.le_refl _⟩)
   have HVW:Hid (V.heap.size+1 < wm.heap.size):=zH (lt_of_heap HBR.out.here)
   generalize hBg:wm.heap.size=Bg at*
   have HBg:=zH hBg
   clear hBg
   generalize wm.alloc (.cells #[.slice none 0 0,.slice none 0 0] 27)=W2 at*
   go_loopw [46] (fun i wr=>∃(k:Nat) (cs:List NodeD) (vA:Option Addr) (vc:Nat),k≤os.length∧i= .int .i64 k∧Hid (LfI wm Bg (.slice none 0 0) (.slice vA cs.length vc) cs wr)∧Hid (cs.map nodeV=(os.take k).map (nodeL s.ws os))) (fun i _=>os.length - (intOf i).toNat)
   case atStart=>exact ⟨0,[],none,0,by omega,rfl,HI0,zH rfl⟩
   case round=>
    obtain ⟨k,cs,vA,vc,hk,rfl,hI,hcs⟩:=hrel
    clear HI0
    by_cases hlt:k < os.length
    rotate_left
    ·obtain rfl:k=os.length:=by omega
     rw [List.take_length]at hcs
     have kS:=(cells_of (HBS.out.at hI.out.ext)).1
     clear hlt hk
     go_wp2_with fail
     clear kS
     have HR0:=zH (LfR.start hI.out)
     have HMP:=zH (hM.out.ext hI.out.ext)
     obtain ⟨wp,rfl⟩:∃wp:World,wp=wr:=⟨_,rfl⟩
     clear hI
     go_loopw [104] (fun i wr=>∃(m:Nat) (rs:List (Int×Int)) (rA:Option Addr) (rc:Nat),m≤s.sl.length∧i= .int .i64 m∧Hid (LfR wm wp Bg (.slice vA cs.length vc) cs (.slice rA rs.length rc) rs wr)∧Hid (wp.heap.size≤wr.heap.size)∧Hid (rs=(usedL (s.sl.take m)).map (turnZ os))) (fun i _=>s.sl.length - (intOf i).toNat)
     case atStart=>exact ⟨0,[],none,0,by omega,rfl,HR0,zH (Nat.le_refl _),zH rfl⟩
     case round=>
      obtain ⟨m,rs,rA,rc,hm,rfl,hR,hwp,hrs⟩:=hrel
      clear HR0 HMP
      obtain ⟨wq,rfl⟩:∃wq:World,wq=wr:=⟨_,rfl⟩
      have hxn:=hR.out.ext
      have hrl:rs.length≤1100:=by
       have h1:=used_len (s.sl.take m)
       have h2:=HB.out.sl
       rw [hrs.out,List.length_map]
       rw [List.length_take]at h1
       omega
      by_cases hml:m < s.sl.length
      rotate_left
      ·obtain rfl:m=s.sl.length:=by omega
       clear hml hm
       have g0:=(cells_of hR.out.g).1
       have hbr:=(HBR.out.at hxn)
       have kR:=(cells_of hbr).1
       have fR:=(cells_of hbr).2
       have HFIN:=zH (hR.out.fin rfl rfl)
       have HRS:Hid (rs=(usedL s.sl).map (turnZ os)):=zH (by have:=hrs.out;rwa [List.take_length]at this)
       have HXQ:=zH hxn
       have HRB:=zH hbr
       clear hxn hbr hrs
       go_wp2_with fail
       ((try simp only [Exit.inBlock,Exit.then]);refine bodyPost_ret (v:= .tuple #[.agg #[.slice vA cs.length vc,.slice rA rs.length rc],.slice A os.length cap,.int .i64 0]) (by simp only [results,Tryz.results18];go_simp) rfl ?_)
       exact ⟨⟨vA,vc,cs,rA,rc,rs⟩,A,cap,rfl,((HFIN.out.box HRB.out).box (blk_set HRB.out _)).at,hcs.out,HRS.out,HFIN.out.shp,rowAt_box (rowAt_box (HIO.out.ext HXQ.out) (fun x=>⟨_,_,rfl⟩) HRB.out (by intros;simp) (by intros;simp) _ _) (fun x=>⟨_,_,rfl⟩) (blk_set HRB.out _) (by intros;simp) (by intros;simp) _ _,((HX.out.trans HXQ.out).setCell HVV.out _).setCell HVV.out _⟩
      have HUS:=zH (used_succ s.sl m hml)
      have HWD:=zH (HB.out.b.sb _ (getD_mem (d:=(false,0,0)) hml))
      have hsm:=F.out.slt
      rw [HOS.out]at hsm
      have HSM:=zH (fun (h:(s.sl.getD m (false,0,0)).1=true)=>(hsm (s.sl.getD m (false,0,0)).2.2 (List.mem_map.2 ⟨_,List.mem_filter.2 ⟨getD_mem hml,h⟩,rfl⟩)).2)
      obtain ⟨sb,soff,rfl,hcc⟩:=(show SlotsAt wm sA s.sl from by rw [←HSA.out];exact HS.out.s).get (by omega)
      obtain ⟨e0,e1,e2⟩:=slots_cell hcc hml
      have c0:=hxn.cell e0
      have c1:=hxn.cell e1
      have c2:=hxn.cell e2
      have ib0:(0:Int)≤(m:Int):=by omega
      have ib1:(m:Int) < (s.sl.length:Int):=by omega
      have hm98:=HB.out.sl
      have HML:=zH hml
      have hm98b:m≤1100:=by omega
      clear e0 e1 e2 hcc hml hm hsm
      generalize s.sl.getD m (false,0,0)=x at*
      obtain ⟨u,g,w⟩:=x
      simp only at c0 c1 c2 HUS HWD HSM
      cases u with
      | false=>
       have HU2:Hid (usedL (s.sl.take (m+1))=usedL (s.sl.take m)):=zH (by rw [HUS.out];simp)
       have HR2:=zH (hR.out.grow ((Ext.refl _).alloc (.cells #[.bool false,.int .i64 g,.int .u64 w] 73)))
       have HW2:=zH (Nat.le_trans hwp.out ((Ext.refl wq).alloc (.cells #[.bool false,.int .i64 g,.int .u64 w] 73)).size)
       go_wp2_with fail
       go_roundw
       case rel=>exact ⟨m+1,rs,rA,rc,by have:=HML.out;omega,by go_num,HR2,HW2,by rw [HU2.out];exact hrs⟩
       case measure=>have:=HML.out;simp [intOf];omega
      | true=>
       have HU2:Hid ((usedL (s.sl.take (m+1))).map (turnZ os)=rs++ [turnZ os w]):=zH (by rw [HUS.out,List.map_append,←hrs.out];simp)
       have HR2:=zH (hR.out.grow ((Ext.refl _).alloc (.cells #[.bool true,.int .i64 g,.int .u64 w] 73)))
       have HW2:=zH (Nat.le_trans hwp.out ((Ext.refl wq).alloc (.cells #[.bool true,.int .i64 g,.int .u64 w] 73)).size)
       have hbs:=blk_new wq #[.bool true,.int .i64 g,.int .u64 w] 73 _ rfl
       go_wp2_with fail
       generalize wq.alloc (.cells #[.bool true,.int .i64 g,.int .u64 w] 73)=ws at*
       generalize wq.heap.size=sB at*
       have HRT:=zH (fun u:ExtOf ws=>lturn_is os mb w u.1 HWD.out (HSM.out (by first | trivial | rfl)) ((hM.out.ext HR2.out.ext).ext u.2))
       have l0:=(pers_blk HR2.out.g).cells
       have l1:=(pers_blk hbs).cells
       have hs0:Ext ws ws:=Ext.refl _
       have eg:∀args w,(callFunc 58 args).run Tryz.prog w= .ok (.enter 58 args) w:=enters_of Tryz.func58 (by kernel_rfl) rfl
       generalize turnZ os w=tz at*
       clear HUS hrs
       (refine wp_region_ord (W:=ws) [(0,true),(1,true),(2,true),(3,true),(4,true),(5,false)] [6] [7,8,9] (by kernel_rfl) (by kernel_rfl) (by intro c a d v w h;cases d <;>first | exact h | (cases h;done) | cases h.1.1 | cases h.1) (by with_reducible assumption) ?_;simp only [opsOf,List.map_cons,List.map_nil,List.getD_cons_zero,List.getD_cons_succ];(repeat (go_big_quiet_step (first | (go_at_fn 58;with_reducible exact Calls.ext_of (HRT.out _)))));refine wpQuiet_nil ?_;intro w1 hx;(repeat (refine mid_step (by rfl) ?_;intro K hK;go_simp;refine hK _ _ zG ?_;clear hK K));refine mid_nil ?_)
       have HR1:=zH (HR2.out.grow hx)
       have HZ8:=zH (Nat.le_trans HW2.out hx.size)
       have hsz:=HZ8.out
       clear l0 l1 hs0 ib0 ib1 hxn hx HRT hR HR2 HW2 c0 c1 c2 hbs
       go_wp2_with (at_builtin;refine wpList_app_lit rfl (.tmp 111) (.tmp 116) 25 rfl valInfo spanCells rfl HR1.out.roots [tz] 1 _ rfl (rs.length+1) 1 (by simp) rfl _ rfl (by first | rfl | simp) (by omega) (by simp [maxLen];omega) hsz ?_;intro A6 c6 w6 ho6 hg6 ht6;have HR6:=zH (LfR.app (HR1.out.grow ((Ext.refl _).alloc _)) (Nat.le_trans HZ8.out ((Ext.refl _).alloc _).size) ho6 hg6);have HB6:=zH (LfR.blk (HR1.out.grow ((Ext.refl _).alloc _)) hg6);have HZ6:Hid (wp.heap.size≤(w6.setCell ⟨Bg,1,none⟩ (.slice A6 (rs.length+1) c6)).heap.size):=zH (by rw [World.size_setCell];exact Nat.le_trans (Nat.le_trans HZ8.out ((Ext.refl _).alloc _).size) hg6.size);clear ho6 hg6 ht6;have f1:=(cells_of HB6.out).1;have f2:=(cells_of HB6.out).2)
       go_roundw
       case rel=>exact ⟨m+1,rs++ [tz],A6,c6,by have:=HML.out;omega,by go_num,by rw [List.length_append];exact HR6,HZ6,zH HU2.out.symm⟩
       case measure=>have:=HML.out;simp [intOf];omega
    have hxk:=hI.out.ext
    have hm:os.getD k 0∈objsL s:=by rw [HOS.out];exact getD_mem hlt
    have HF:=zH (show headE (some s.ws) (os.getD k 0)=0∧(0≤os.getD k 0∧os.getD k 0+1+(headH (some s.ws) (os.getD k 0)).f+(headH (some s.ws) (os.getD k 0)).r≤s.ws.length)∧((0≤(headH (some s.ws) (os.getD k 0)).k∧(headH (some s.ws) (os.getD k 0)).k≤31)∧(0≤(headH (some s.ws) (os.getD k 0)).f∧(headH (some s.ws) (os.getD k 0)).f≤4096)∧(0≤(headH (some s.ws) (os.getD k 0)).r∧(headH (some s.ws) (os.getD k 0)).r≤4096))from
     ⟨F.out.head _ hm,F.out.at_ _ hm,F.out.bd _ hm⟩)
    have HFL:=zH (F.out.fld _ hm)
    rw [HOS.out]at HFL
    have HNX:Hid ((os.take (k+1)).map (nodeL s.ws os)=cs.map nodeV++ [nodeL s.ws os (os.getD k 0)]):=zH (by
     rw [List.take_add_one,List.getElem?_eq_getElem hlt,Option.toList_some,List.map_append,hcs.out,getD_get hlt]
     rfl)
    obtain ⟨lb,off,rfl,hc⟩:=HIO.out.get (by omega)
    have c1:=hxk.cell (ints_cell hc hlt)
    have HS1:=zH (HS.out.ext hxk)
    have HLT:=zH hlt
    have ib0:(0:Int)≤(k:Int):=by omega
    have ib1:(k:Int) < (os.length:Int):=by omega
    have kS:=(cells_of (HBS.out.at hxk)).1
    clear hc hxk hlt hm
    generalize os.getD k 0=at_ at*
    have hf1:=HF.out.2.1
    have hE:=HF.out.1
    generalize hH:headH (some s.ws) at_=h at*
    have HH:=zH hH
    have Z:=lhead_s s at_ wr HS1.out HB.out (by have h1:=HF.out.2.1;have h2:=HF.out.2.2;have:=HB.out.ws;omega)
    rw [hH,hE,HWA.out,HSA.out]at Z
    obtain ⟨hk',hf',hr',hm',hc'⟩:=h
    simp only at hf1
    obtain ⟨hkb,hfb,hrb⟩:=HF.out.2.2
    simp only at hkb hfb hrb HFL
    obtain ⟨p,rfl⟩:=Int.eq_ofNat_of_zero_le hf1.1
    obtain ⟨F',rfl⟩:=Int.eq_ofNat_of_zero_le hfb.1
    obtain ⟨R',rfl⟩:=Int.eq_ofNat_of_zero_le hrb.1
    have hpb:p+1+F'+R'≤s.ws.length:=by omega
    have HPB:=zH hpb
    have HFB:Hid (F'≤4096∧R'≤4096):=zH (by omega)
    have HZ:=zH Z
    obtain ⟨wb,woff,rfl,hcw⟩:=(show WordsAt wm wA s.ws from by rw [←HWA.out];exact HS.out.w).get (by omega)
    have HCW:=zH hcw
    have hwl:=HB.out.wl
    obtain ⟨o1,ho1,hsl1⟩:=slice_words wb woff s.ws.length s.wc (p+1) F' ((p:Int)+1) ((p:Int)+1+F') (by omega) (by omega) (by omega)
    obtain ⟨o2,ho2,hsl2⟩:=slice_words wb woff s.ws.length s.wc (p+1+F') R' ((p:Int)+1+F') ((p:Int)+1+F'+R') (by omega) (by omega) (by omega)
    have HO1:=zH ho1
    have HO2:=zH ho2
    clear hH hE hf1 hkb hfb hrb Z hcw hpb hwl ho1 ho2
    go_wp2_with fail
    refine HZ.out.mono ?_
    rintro e w3 ⟨rfl,hx3⟩
    have HI3:=zH (hI.out.grow hx3)
    have kS3:=(cells_of (HBS.out.at HI3.out.ext)).1
    have lS:=lt_of_heap (HBS.out.at HI3.out.ext)
    have hp1:(0:Int)≤(p:Int)+1:=by omega
    have hp2:(p:Int)+1≤(p:Int)+1+(F':Int):=by omega
    have hp3:(p:Int)+1+(F':Int)≤(s.wc:Int):=by have:=HPB.out;have:=HB.out.wl;omega
    have hp4:p≤4000:=by have:=HPB.out;have:=HB.out.ws;omega
    have hp5:F'≤4096:=HFB.out.1
    have lX:Bg < w3.heap.size:=lt_of_heap HI3.out.g
    clear hI c1 kS hx3 HZ
    go_wp2_with fail
    have HBH:=zH (pers_new w3 #[.int .i64 hk',.int .i64 (F':Nat),.int .i64 (R':Nat),.bool hm',.int .i64 hc'] 85 _ rfl)
    have HN0:=zH (NdI.start (w3.alloc (.cells #[.int .i64 hk',.int .i64 (F':Nat),.int .i64 (R':Nat),.bool hm',.int .i64 hc'] 85)) hk')
    have hx5:Ext w3 (w3.alloc (.cells #[.int .i64 hk',.int .i64 (F':Nat),.int .i64 (R':Nat),.bool hm',.int .i64 hc'] 85)):=(Ext.refl _).alloc _
    have HI5:=zH (HI3.out.grow hx5)
    have hXe:(w3.alloc (.cells #[.int .i64 hk',.int .i64 (F':Nat),.int .i64 (R':Nat),.bool hm',.int .i64 hc'] 85)).heap.size=w3.heap.size+1:=by simp
    rw [hXe]at HN0
    have HNE:Hid (Bg≠w3.heap.size+1∧w3.heap.size+1≠Bg):=zH (by omega)
    clear hXe hx5 kS3 lS lX HI3 hp1 hp2 hp3
    generalize w3.heap.size+1=X at*
    generalize w3.heap.size=Y at*
    generalize w3.alloc (.cells #[.int .i64 hk',.int .i64 (F':Nat),.int .i64 (R':Nat),.bool hm',.int .i64 hc'] 85)=W5 at*
    have HBS5:=zH (HBS.out.re HI5.out.ext)
    have HMS5:=zH (hM.out.ext HI5.out.ext)
    generalize W5.alloc (.cells #[.int .i64 hk',.slice none 0 0,.slice none 0 0] 66)=W6 at*
    go_loopw [71] (fun i wr=>∃(j:Nat) (fs:List (Int×Int)) (fA:Option Addr) (fc:Nat),j≤F'∧i= .int .i64 j∧Hid (NdI W5 X hk' (.slice fA fs.length fc) (.slice none 0 0) fs [] wr)∧Hid (fs=(List.range j).map (fun (k:Nat)=>turnZ os (wdZ s.ws ((p:Int)+1+k))))) (fun i _=>F' - (intOf i).toNat)
    case atStart=>exact ⟨0,[],none,0,by omega,rfl,HN0,zH rfl⟩
    case round=>
     obtain ⟨j,fs,fA,fc,hj,rfl,hN,hfs⟩:=hrel
     clear HN0
     obtain ⟨wq,rfl⟩:∃wq:World,wq=wr:=⟨_,rfl⟩
     have hxn:=hN.out.ext
     have hfl:fs.length≤4096:=by rw [hfs.out,List.length_map,List.length_range];omega
     by_cases hjl:j < F'
     rotate_left
     ·obtain rfl:j=F':=by omega
      clear hjl hj
      have k1:=(cells_of (HBH.out.at hxn)).1
      have kS:=(cells_of (HBS5.out.at hxn)).1
      have hr1:(0:Int)≤(p:Int)+1+(j:Int):=by omega
      have hr2:(p:Int)+1+(j:Int)≤(p:Int)+1+(j:Int)+(R':Int):=by omega
      have hr3:(p:Int)+1+(j:Int)+(R':Int)≤(s.wc:Int):=by have:=HPB.out;have:=HB.out.wl;omega
      have hr4:R'≤4096:=HFB.out.2
      have HNQ:=hN
      clear hN
      go_wp2_with fail
      have HRW:Hid (RowAt 1 u64C wq (some ⟨wb,o2,none⟩) ((List.range R').map fun (k:Nat)=>wdZ s.ws ((p:Int)+1+j+k))):=zH (by
       by_cases h0:R'=0
       ·subst h0
        exact ⟨wb,o2,fun _=>rfl,by simp⟩
       ·rw [HO2.out h0]
        exact (words_sub HCW.out (p+1+j) R' (by have:=HPB.out;omega)).ext (HI5.out.ext.trans HNQ.out.ext))
      have hys:((List.range R').map fun (k:Nat)=>wdZ s.ws ((p:Int)+1+j+k)).length=R':=by simp
      have HYS:=zH (show ((List.range R').map fun (k:Nat)=>wdZ s.ws ((p:Int)+1+j+k))=(List.range R').map fun (k:Nat)=>wdZ s.ws ((p:Int)+1+j+k)from rfl)
      generalize hyv:((List.range R').map fun (k:Nat)=>wdZ s.ws ((p:Int)+1+j+k))=ys at HRW hys
      have HYV:=zH hyv
      have Z:=cloneU_any (some ⟨wb,o2,none⟩) (s.wc - (p+1+j)) ys wq (by omega) HRW.out
      rw [hys]at Z
      refine Z.mono ?_
      clear Z HYS hyv HRW
      rintro e w4 ⟨A1,cap1,rfl,ho,hx4⟩
      have HN4:=zH (HNQ.out.grow hx4)
      have ho4:Own 61 1 u64C w4 W5.heap.size (.slice A1 R' cap1) ys:=ho.mono HNQ.out.ext.size
      have HN5:=zH (HN4.out.setR ho4)
      have HI4:=zH (HI5.out.grow HN4.out.ext)
      have HI8:=zH (HI5.out.grow HN5.out.ext)
      have hcl2:=HN5.out.ext
      clear hcl2
      have hcl:cs.length≤1000:=by have:=congrArg List.length hcs.out;simp at this;omega
      have HNV:Hid (nodeV ⟨hk',fA,fc,fs,A1,cap1,ys⟩=nodeL s.ws os p):=zH (by
       simp only [nodeV,nodeL,HH.out,Int.toNat_natCast]
       rw [hfs.out,←HYV.out])
      have n1:=(cells_of HN4.out.g).1
      have n2:=(cells_of HN4.out.g).2
      have g0:=(cells_of HI4.out.g).1
      have hne1:=HNE.out.1
      have hne2:=HNE.out.2
      have hsz:=HI8.out.ext.size
      clear ho hx4 ho4 k1 kS hfs
      have HYL:=zH hys
      have HOX:Hid (OwnN (w4.setCell ⟨X,2,none⟩ (.slice A1 R' cap1)) wm.heap.size ⟨hk',fA,fc,fs,A1,cap1,ys⟩):=zH ⟨HN5.out.f.mono HI5.out.ext.size,by simp only;rw [hys];exact HN5.out.r.mono HI5.out.ext.size⟩
      clear hys hp4 hp5 hr1 hr2 hr3 hr4 hsl1 hsl2
      go_wp2_with (at_builtin;refine wpList_app_lit rfl (.tmp 95) (.tmp 97) 24 rfl nodeInfo nodeCells rfl HI8.out.own [⟨hk',fA,fc,fs,A1,cap1,ys⟩] 1 _ (by simp [nodeC,HYL.out]) (cs.length+1) 1 (by simp) rfl _ rfl (by first | rfl | simp) (by omega) (by simp [maxLen];omega) hsz ?_;intro A6 c6 w6 ho6 hg6 ht6;have HI9:=zH (LfI.app (x:=⟨hk',fA,fc,fs,A1,cap1,ys⟩) (HI8.out.grow ((Ext.refl _).alloc _)) (HOX.out.ext ((Ext.refl _).alloc _)) ho6 hg6);have HB9:=zH (LfI.blk (HI8.out.grow ((Ext.refl _).alloc _)) hg6);clear ho6 hg6 ht6;have f1:=(cells_of HB9.out).1;have f2:=(cells_of HB9.out).2)
      go_roundw
      case rel=>exact ⟨k+1,cs++ [⟨hk',fA,fc,fs,A1,cap1,ys⟩],A6,c6,by have:=HLT.out;omega,by go_num,by rw [List.length_append];exact HI9,zH (by rw [List.map_append,List.map_singleton,HNV.out];exact HNX.out.symm)⟩
      case measure=>have:=HLT.out;simp [intOf];omega
     have hlw:p+1+j < s.ws.length:=by have:=HPB.out;omega
     have c1:=(HI5.out.ext.trans hxn).cell (words_cell HCW.out hlw)
     rw [show woff+(p+1+j)=o1+j by have:=HO1.out (by omega);omega]at c1
     have hwb:=HB.out.b.wb _ (getD_mem (d:=0) hlw)
     have hwz:wdZ s.ws ((p:Int)+1+j)=s.ws.getD (p+1+j) 0:=by unfold wdZ;congr 1
     have hmo:=(HFL.out j (by omega)).2
     rw [hwz]at hmo
     have HSN:Hid ((List.range (j+1)).map (fun (k:Nat)=>turnZ os (wdZ s.ws ((p:Int)+1+k)))=fs++ [turnZ os (s.ws.getD (p+1+j) 0)]):=zH (by rw [List.range_succ,List.map_append,←hfs.out,←hwz];rfl)
     generalize s.ws.getD (p+1+j) 0=wd at*
     have HRT:=zH (fun u:ExtOf wq=>lturn_is os mb wd u.1 hwb hmo ((HMS5.out.ext hxn).ext u.2))
     have l0:=(pers_blk hN.out.g).cells
     have hs0:Ext wq wq:=Ext.refl _
     have ib2:(0:Int)≤(j:Int):=by omega
     have ib3:(j:Int) < (F':Int):=by omega
     have HJL:=zH hjl
     have hb4:j≤4096:=by omega
     have eg:∀args w,(callFunc 58 args).run Tryz.prog w= .ok (.enter 58 args) w:=enters_of Tryz.func58 (by kernel_rfl) rfl
     generalize turnZ os wd=tz at*
     clear hwb hwz hmo hlw hjl hj hfs
     go_wp2_with fail
     (refine wp_region_ord (W:=wq) [(0,true),(1,true),(2,true),(3,true),(4,false)] [5] [6,7,8] (by kernel_rfl) (by kernel_rfl) (by intro c a d v w h;cases d <;>first | exact h | (cases h;done) | cases h.1.1 | cases h.1) (by with_reducible assumption) ?_;simp only [opsOf,List.map_cons,List.map_nil,List.getD_cons_zero,List.getD_cons_succ];(repeat (go_big_quiet_step (first | (go_at_fn 58;with_reducible exact Calls.ext_of (HRT.out _)))));refine wpQuiet_nil ?_;intro w1 hx;(repeat (refine mid_step (by rfl) ?_;intro K hK;go_simp;refine hK _ _ zG ?_;clear hK K));refine mid_nil ?_)
     have HN1:=zH (hN.out.grow hx)
     have hsz:=HN1.out.ext.size
     clear l0 hs0 ib2 ib3 hxn hx HRT hN c1
     go_wp2_with (at_builtin;refine wpList_app_lit rfl (.tmp 76) (.tmp 80) 25 rfl valInfo spanCells rfl HN1.out.f [tz] 1 _ rfl (fs.length+1) 1 (by simp) rfl _ rfl (by first | rfl | simp) (by omega) (by simp [maxLen];omega) hsz ?_;intro A6 c6 w6 ho6 hg6 ht6;have HN6:=zH (NdI.appF (HN1.out.grow ((Ext.refl _).alloc _)) ho6 hg6);have HB6:=zH (NdI.blkF (HN1.out.grow ((Ext.refl _).alloc _)) hg6);clear ho6 hg6 ht6;have f1:=(cells_of HB6.out).1;have f2:=(cells_of HB6.out).2)
     go_roundw
     case rel=>exact ⟨j+1,fs++ [tz],A6,c6,by have:=HJL.out;omega,by go_num,by rw [List.length_append];exact HN6,zH HSN.out.symm⟩
     case measure=>have:=HJL.out;simp [intOf];omega
  have HND:=zH (show placeZ os (os.getD k 0)=k from place_nodup (by rw [←HOS.out];exact F.out.nd) hlt)
  have HPF:=zH (pf_step hlt HND.out)
  have HBD:Hid (0≤os.getD k 0∧os.getD k 0≤4000):=zH (by
   have hm:os.getD k 0∈objsL s:=by rw [HOS.out];exact getD_mem hlt
   have h1:=F.out.at_ _ hm
   have h2:=F.out.bd _ hm
   have h3:=HB.out.ws
   omega)
  obtain ⟨lb,off,rfl,hc⟩:=HIO.out.get (by omega)
  have c1:=hxr.out.cell (ints_cell hc hlt)
  have ib0:(0:Int)≤(k:Int):=by omega
  have ib1:(k:Int) < (os.length:Int):=by omega
  have HLT:=zH hlt
  clear hc hlt hk HND
  generalize os.getD k 0=a at*
  have HWF:Hid ((Lit.int .i64 a).wf=true):=zH (WalkArith.wf_i64 ⟨by have:=HBD.out;omega,by have:=HBD.out;omega⟩)
  have hko:=HLT.out
  go_wp2_with (at_mapUpdate;refine wpList_map_put rfl (.tmp 39) (.tmp 40) (.tmp 41) rfl hM.out.map rfl (by unfold maxLen;omega) a k rfl rfl HWF.out (WalkArith.wf_i64 ⟨by omega,by omega⟩) ?_;intro w6 hm6 hg6;have HM6:Hid (MapS w6 mb (k+1) (pf os (k+1))):=zH ⟨by rw [←HPF.out];exact hm6,(hg6.block _ (lt_of_heap hM.out.box) (by simp)).trans hM.out.box⟩;have HX6:Hid (Ext w1 w6):=zH (Below.grown hxr.out hg6 hxr.out.size (fun j hj=>by injection hj with hj;have:=HMB.out;omega));clear hm6 hg6)
  go_roundw
  case rel=>exact ⟨k+1,by have:=HLT.out;omega,by go_num,HX6,HM6⟩
  case measure=>have:=HLT.out;simp [intOf];omega
end Go.Proofs.YtphpppjfogpohaaGreat
