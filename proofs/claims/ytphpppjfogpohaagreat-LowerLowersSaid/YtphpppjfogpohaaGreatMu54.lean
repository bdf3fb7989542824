/- Merged by program (merge.py) out of: LfF, LfH, LfJ, LwLa, LowS. -/
import Derived.Test.YtphpppjfogpohaaGreatMu42
import Derived.Test.YtphpppjfogpohaaGreatMu45
import Derived.Test.YtphpppjfogpohaaGreatMu30
import Derived.Test.YtphpppjfogpohaaGreatMu26
import Derived.Test.YtphpppjfogpohaaGreatMu14
import Derived.Test.YtphpppjfogpohaaGreatMu7
import Derived.Test.YtphpppjfogpohaaGreatMu35
import Derived.Laws.CopyOwn
import Derived.Laws.OwnMore
import Derived.Test.YtphpppjfogpohaaGreatMu51
import Derived.Test.YtphpppjfogpohaaGreatMu32
import Derived.Test.YtphpppjfogpohaaGreatMu36
import Derived.Test.YtphpppjfogpohaaGreatMu38
import Derived.Test.YtphpppjfogpohaaGreatMu4
import Derived.Test.YtphpppjfogpohaaGreatMu21
import Derived.Test.YtphpppjfogpohaaGreatMu44
set_option linter.unusedSimpArgs false
set_option linter.unusedVariables false
set_option maxRecDepth 100000
set_option maxHeartbeats 16000000
namespace Go.Proofs.YtphpppjfogpohaaGreat
open Go.RowKit Go.Shelf
theorem GrAt.grown {B X:Nat} {c0 c1 c2 c3:Int} {sn:Bool} {s:LwS} {tA:Option Addr} {tc:Nat} {fA:Option Addr} {fc:Nat} {w w':World} (h:GrAt B X c0 c1 c2 c3 sn s tA tc fA fc w) {B2:Nat} {v:Value} {xs:List Int} (ho:Own 3 1 intC w B2 v xs) (hg:w.grownBy w' v.ownBlock):GrAt B X c0 c1 c2 c3 sn s tA tc fA fc w':=
 ⟨(hg.block X (lt_of_heap h.blk) (ho.ne_block h.blk (by decide))).trans h.blk,h.tb.keep2 ho (by decide) hg,h.fr.keep2 ho (by decide) hg,h.lo⟩
theorem size_right {G:GraphD} (hR:rightG G=true) {x:NodeD} (hx:x∈G.ns):1≤sizeN x∧sizeN x≤8193∧sizeN x=1+x.fields.length+x.raws.length:=by
 have h:=(right_parts hR).1 x hx
 have h2:=h.1
 simp only [okN,decide_eq_true_eq]at h2
 unfold sizeN wrap64
 omega
section
variable {c0 c1 c2 c3 : Int} {sn : Bool} {G : GraphD}
theorem sizes_take {k:Nat} (hk:k < G.ns.length):(G.ns.map sizeN).take (k+1)=(G.ns.map sizeN).take k++ [sizeN (G.ns.getD k default)]:=by
 rw [List.take_add_one,List.getElem?_eq_getElem (by simpa using hk),Option.toList_some,List.getElem_map,getD_get hk]
theorem lwRun_next {k:Nat} {s:LwS} (hk:k < G.ns.length) (h:lwRun c0 c1 c2 c3 sn (lwS0 c0 c1 c2 c3 sn) ((G.ns.map sizeN).take k)=some s):
  lwRun c0 c1 c2 c3 sn (lwS0 c0 c1 c2 c3 sn) ((G.ns.map sizeN).take (k+1))=lwStep c0 c1 c2 c3 sn s (sizeN (G.ns.getD k default)):=by
 rw [sizes_take hk,lwRun_snoc,h]
 rfl
theorem lwAll_none {k:Nat} {s:LwS} (hk:k < G.ns.length) (h:lwRun c0 c1 c2 c3 sn (lwS0 c0 c1 c2 c3 sn) ((G.ns.map sizeN).take k)=some s) (h2:lwStep c0 c1 c2 c3 sn s (sizeN (G.ns.getD k default))=none):lwAll c0 c1 c2 c3 sn G=none:=by
 unfold lwAll
 rw [←List.take_append_drop (k+1) (G.ns.map sizeN)]
 exact lwRun_none _ _ _ (by rw [lwRun_next hk h,h2])
theorem lwAll_some {s:LwS} (h:lwRun c0 c1 c2 c3 sn (lwS0 c0 c1 c2 c3 sn) ((G.ns.map sizeN).take G.ns.length)=some s):lwAll c0 c1 c2 c3 sn G=some s:=by
 unfold lwAll
 rw [←h,List.take_of_length_le (by simp)]
theorem step_tb {s t:LwS} {n:Int} (h:lwStep c0 c1 c2 c3 sn s n=some t):t.tb.length≤s.tb.length+1:=by
 unfold lwStep at h
 split at h <;>split at h <;>first | (injection h with h;subst h;simp;done) | cases h
structure LwK (c0 c1 c2 c3:Int) (sn:Bool) (G:GraphD) (k:Nat) (s:LwS):Prop where
 run:lwRun c0 c1 c2 c3 sn (lwS0 c0 c1 c2 c3 sn) ((G.ns.map sizeN).take k)=some s
 inv:LwI c0 c1 c2 c3 sn s
 tb:s.tb.length≤k
 pl:s.pl.length=k
theorem LwK.start (h:cfgB c0 c1 c2 c3=true):LwK c0 c1 c2 c3 sn G 0 (lwS0 c0 c1 c2 c3 sn):=⟨rfl,LwI.start h,Nat.le_refl _,rfl⟩
theorem LwK.next {k:Nat} {s t:LwS} {p:Int} (h:LwK c0 c1 c2 c3 sn G k s) (hR:rightG G=true) (hk:k < G.ns.length) (hs:lwStep c0 c1 c2 c3 sn s (sizeN (G.ns.getD k default))=some t) (hp:t.pl=s.pl++ [p]):LwK c0 c1 c2 c3 sn G (k+1) t:=
 ⟨by rw [lwRun_next hk h.run,hs],h.inv.step (size_right hR (getD_mem hk)).1 hs,by have:=step_tb hs;have:=h.tb;omega,by rw [hp,List.length_append,h.pl];rfl⟩
theorem layE_none {k:Nat} {s:LwS} (h:LwK c0 c1 c2 c3 sn G k s) (hc:cfgB c0 c1 c2 c3=true) (hR:rightG G=true) (hl:¬c2 < G.rs.length) (hk:k < G.ns.length) (h2:lwStep c0 c1 c2 c3 sn s (sizeN (G.ns.getD k default))=none):layE c0 c1 c2 c3 sn G=9:=by
 unfold layE
 rw [if_neg (by simp [hc]),if_neg (by simp [hR]),if_neg hl,lwAll_none hk h.run h2]
theorem layE_some {s:LwS} (h:LwK c0 c1 c2 c3 sn G G.ns.length s) (hc:cfgB c0 c1 c2 c3=true) (hR:rightG G=true) (hl:¬c2 < G.rs.length):layE c0 c1 c2 c3 sn G=0∧layS c0 c1 c2 c3 sn G=s:=by
 have e:layE c0 c1 c2 c3 sn G=0:=by
  unfold layE
  rw [if_neg (by simp [hc]),if_neg (by simp [hR]),if_neg hl,lwAll_some h.run]
 refine ⟨e,?_⟩
 unfold layS
 rw [if_pos e,lwAll_some h.run]
 rfl
end
theorem lay_ok {c0 c1 c2 c3:Int} {sn:Bool} {G:GraphD} (h:layE c0 c1 c2 c3 sn G=0):cfgB c0 c1 c2 c3=true∧rightG G=true∧(G.rs.length:Int)≤c2∧lwAll c0 c1 c2 c3 sn G=some (layS c0 c1 c2 c3 sn G):=by
 have h0:=h
 unfold layE at h
 split at h
 ·cases h
 ·split at h
  ·cases h
  ·split at h
   ·cases h
   ·rename_i h1 h2 h3
    refine ⟨by simpa using h1,by simpa using h2,by omega,?_⟩
    cases ha:lwAll c0 c1 c2 c3 sn G with
    | none=>rw [ha]at h;cases h
    | some t=>rw [layS,if_pos h0,ha];rfl
theorem lay_inv {c0 c1 c2 c3:Int} {sn:Bool} {G:GraphD} (h:layE c0 c1 c2 c3 sn G=0):LwI c0 c1 c2 c3 sn (layS c0 c1 c2 c3 sn G)∧(layS c0 c1 c2 c3 sn G).pl.length=G.ns.length:=by
 obtain ⟨hc,hR, -,h4⟩:=lay_ok h
 have:=lwRun_inv _ _ _ (LwI.start hc) (fun n hn=>by obtain ⟨x,hx,rfl⟩:=List.mem_map.1 hn;exact (size_right hR hx).1) h4
 exact ⟨this.1,by rw [this.2];simp [lwS0]⟩
theorem lay_len {c0 c1 c2 c3:Int} {sn:Bool} {G:GraphD} (h:layE c0 c1 c2 c3 sn G=0):(layS c0 c1 c2 c3 sn G).pl.length=G.ns.length:=(lay_inv h).2
def RetLay (V:World) (c0 c1 c2 c3:Int) (sn:Bool) (G:GraphD) (e:Ending) (w':World):Prop:=
 (layE c0 c1 c2 c3 sn G≠0∧e= .returned (.tuple #[.pointer none,.slice none 0 0,.int .i64 (layE c0 c1 c2 c3 sn G)])∧Ext V w')∨
 (layE c0 c1 c2 c3 sn G=0∧∃X tA tc fA fc A cap,e= .returned (.tuple #[.pointer (some ⟨X,0,none⟩),.slice A G.ns.length cap,.int .i64 0])∧GrAt V.heap.size X c0 c1 c2 c3 sn (layS c0 c1 c2 c3 sn G) tA tc fA fc w'∧Own 3 1 intC w' V.heap.size (.slice A G.ns.length cap) (layS c0 c1 c2 c3 sn G).pl∧Ext V w')
theorem lay_any (c0 c1 c2 c3:Int) (sn:Bool) (G:GraphD) (V:World) (hG:GraphAt V G) (oG:GOk G):Calls Tryz.prog 38 #[.agg #[.int .i64 (c0),.int .i64 (c1),.int .i64 (c2),.int .i64 (c3)],.bool sn,.agg #[.slice G.nA G.ns.length G.ncap,.slice G.rA G.rs.length G.rcap]] V (RetLay V c0 c1 c2 c3 sn G):=by
 obtain ⟨nA,ncap,ns,rA,rcap,rs⟩:=G
 have hx0:=((Ext.refl V).alloc (.cells #[.int .i64 c0,.int .i64 c1,.int .i64 c2,.int .i64 c3] 23)).alloc (.cells #[.slice nA ns.length ncap,.slice rA rs.length rcap] 27)
 have hC:=(pers_new V #[.int .i64 c0,.int .i64 c1,.int .i64 c2,.int .i64 c3] 23 _ rfl).re ((Ext.refl _).alloc (.cells #[.slice nA ns.length ncap,.slice rA rs.length rcap] 27))
 have hB:=pers_new (V.alloc (.cells #[.int .i64 c0,.int .i64 c1,.int .i64 c2,.int .i64 c3] 23)) #[.slice nA ns.length ncap,.slice rA rs.length rcap] 27 (V.heap.size+1) (by simp)
 have HG:Pers _ (fun w=>GraphAt w ⟨nA,ncap,ns,rA,rcap,rs⟩):=fun w k=>hG.ext (hx0.trans k)
 have HX:=zH hx0
 have HOG:=zH oG
 have hnl:ns.length≤1000:=oG.2.1
 have hrl:rs.length≤1000:=oG.2.2
 obtain ⟨b,hb⟩:∃b,cfgB c0 c1 c2 c3=b:=⟨_,rfl⟩
 have HB:=zH hb
 clear hx0 hG oG hb
 go_enter Tryz.func38,Tryz.ntmps38
 go_wp2_with fail
 generalize (V.alloc (.cells #[.int .i64 c0,.int .i64 c1,.int .i64 c2,.int .i64 c3] 23)).alloc (.cells #[.slice nA ns.length ncap,.slice rA rs.length rcap] 27)=W at*
 generalize V.heap.size+1=S2 at*
 generalize V.heap.size=S at*
 refine (check_is HB.out _).mono ?_
 rintro e w1 ⟨rfl,hx⟩
 (replace hC:=hC.re hx;replace hB:=hB.re hx;replace HG:=HG.re hx;replace HX:=zH (HX.out.trans hx))
 clear hx
 cases b with
 | false=>
  have HE:Hid (layE c0 c1 c2 c3 sn ⟨nA,ncap,ns,rA,rcap,rs⟩=1):=zH (by rw [layE,if_pos HB.out])
  go_wp2_with fail
  go_ret3
  exact .inl ⟨by rw [HE.out];decide,by rw [HE.out];rfl,HX.out⟩
 | true=>
  obtain ⟨r,hr⟩:∃r,rightG ⟨nA,ncap,ns,rA,rcap,rs⟩=r:=⟨_,rfl⟩
  have HR:=zH hr
  clear hr
  have k1:=(cells_of hB.here).1
  go_wp2_with fail
  refine (gright_is ⟨nA,ncap,ns,rA,rcap,rs⟩ r HR.out _ HG.here HOG.out).mono ?_
  rintro e w2 ⟨rfl,hx⟩
  (replace hC:=hC.re hx;replace hB:=hB.re hx;replace HG:=HG.re hx;replace HX:=zH (HX.out.trans hx))
  clear hx k1
  cases r with
  | false=>
   have HE:Hid (layE c0 c1 c2 c3 sn ⟨nA,ncap,ns,rA,rcap,rs⟩=4):=zH (by rw [layE,if_neg (by rw [HB.out];decide),if_pos HR.out])
   go_wp2_with fail
   go_ret3
   exact .inl ⟨by rw [HE.out];decide,by rw [HE.out];rfl,HX.out⟩
  | true=>
   have k1:=(cells_of hB.here).1
   have k2:=(cells_of hC.here).1
   by_cases hsl:c2 < (rs.length:Int)
   ·have HE:Hid (layE c0 c1 c2 c3 sn ⟨nA,ncap,ns,rA,rcap,rs⟩=8):=zH (by rw [layE,if_neg (by rw [HB.out];decide),if_neg (by rw [HR.out];decide),if_pos hsl])
    have d1:decide ((rs.length:Int) >c2)=true:=by simpa using hsl
    clear hsl
    go_wp2_with fail
    go_ret3
    exact .inl ⟨by rw [HE.out];decide,by rw [HE.out];rfl,HX.out⟩
   ·have d1:decide ((rs.length:Int) >c2)=false:=by simpa using hsl
    have HSL:=zH hsl
    clear hsl
    go_wp2_with fail
    refine (newground_any c0 c1 c2 c3 sn HB.out w2).mono ?_
    rintro e w3 ⟨X,tA,tc,fA,fc,rfl,hg,hx⟩
    have HBW:=zH (Nat.le_refl w2.heap.size)
    have HG0:=zH hg
    have HX3:=zH hx
    clear k1 k2 hg hx
    have k1:=(cells_of (hB.at HX3.out)).1
    go_wp2_with fail
    clear k1
    go_loopw [10,36] (fun lv i wr=>∃(k:Nat) (s:LwS) (tA:Option Addr) (tc:Nat) (fA:Option Addr) (fc:Nat) (lA:Option Addr) (lc:Nat),k≤ns.length∧i= .int .i64 k∧lv= .slice lA k lc∧Hid (LwK c0 c1 c2 c3 sn ⟨nA,ncap,ns,rA,rcap,rs⟩ k s)∧Hid (GrAt w2.heap.size X c0 c1 c2 c3 sn s tA tc fA fc wr)∧Hid (Own 3 1 intC wr w2.heap.size (.slice lA k lc) s.pl)∧Hid (Ext w2 wr)) (fun _ i _=>ns.length - (intOf i).toNat)
    case atStart=>exact ⟨0,_,tA,tc,fA,fc,none,0,by omega,rfl,rfl,zH (LwK.start HB.out),HG0,zH (Own.nil _ _ _ _ _),HX3⟩
    case round=>
     obtain ⟨k,s,tA,tc,fA,fc,lA,lc,hk,rfl,rfl,hK,hgr,hO,hxr⟩:=hrel
     obtain ⟨wq,rfl⟩:∃wq:World,wq=wr:=⟨_,rfl⟩
     clear HG0 HX3
     by_cases hlt:k < ns.length
     rotate_left
     ·obtain rfl:k=ns.length:=by omega
      obtain ⟨he,hs⟩:=layE_some (G:=⟨nA,ncap,ns,rA,rcap,rs⟩) hK.out HB.out HR.out (by have:=HSL.out;simp only;omega)
      have HE:=zH he
      have HS:=zH hs
      clear he hs hlt hk
      go_wp2_with fail
      go_ret3
      exact .inr ⟨HE.out,X,tA,tc,fA,fc,lA,lc,rfl,by rw [HS.out];exact hgr.out.mono HX.out.size,by rw [HS.out];exact hO.out.mono HX.out.size,HX.out.trans hxr.out⟩
     have HLT:=zH hlt
     have HN:=zH (size_right (G:=⟨nA,ncap,ns,rA,rcap,rs⟩) HR.out (getD_mem (d:=default) hlt))
     have hbk:=LwK.tb hK.out
     obtain ⟨nb,no,rfl,hcn⟩:=(hxr.out:Ext w2 wq) |>fun h=>(HG.at h).nodes.row.get (by simp only;omega)
     obtain ⟨d0,d1',d2⟩:=nodes_cell hcn hlt
     have ib0:(0:Int)≤(k:Int):=by omega
     have ib1:(k:Int) < (ns.length:Int):=by omega
     have HTB:Hid (s.tb.length≤1000):=zH (by omega)
     clear hcn hlt hk hbk
     obtain ⟨x,hx⟩:∃x,ns.getD k default=x:=⟨_,rfl⟩
     have HXN:=zH hx
     simp only [hx]at d0 d1' d2
     have HNX:=zH (show 1≤sizeN x∧sizeN x≤8193 from by rw [←hx];exact ⟨HN.out.1,HN.out.2.1⟩)
     clear hx HN
     obtain ⟨xk,xA,xc,fs,yA,yc,ys⟩:=x
     simp only at d0 d1' d2
     have hy:=(Ext.refl wq).alloc (.cells #[.int .i64 xk,.slice xA fs.length xc,.slice yA ys.length yc] 66)
     go_wp2_with fail
     refine (size_any ⟨xk,xA,xc,fs,yA,yc,ys⟩ _).mono ?_
     rintro e w4 ⟨rfl,hx⟩
     have HX4:=zH (hy.trans hx)
     clear hy hx d0 d1' d2
     go_wp2_with fail
     refine (lwput_any (sizeN ⟨xk,xA,xc,fs,yA,yc,ys⟩) w4 HB.out hK.out.inv (by have:=HNX.out;omega) HTB.out (by have:=hxr.out.size;have:=HX4.out.size;omega) (hgr.out.ext HX4.out)).mono ?_
     rintro e w5 hput
     rcases hput with ⟨hn,rfl,hx⟩ | ⟨t,p,tA2,tc2,fA2,fc2,hs,hp,rfl,hg2,hon⟩
     ·have HE:Hid (layE c0 c1 c2 c3 sn ⟨some ⟨nb,no,none⟩,ncap,ns,rA,rcap,rs⟩=9):=zH (layE_none hK.out HB.out HR.out (by have:=HSL.out;simp only;omega) HLT.out (by simp only;rw [HXN.out];exact hn))
      have HX5:=zH (HX4.out.trans hx)
      clear hn hx
      go_wp2_with fail
      go_ret3
      exact .inl ⟨by rw [HE.out];decide,by rw [HE.out];rfl,HX.out.trans (hxr.out.trans HX5.out)⟩
     ·have HK2:=zH (hK.out.next HR.out HLT.out (by simp only;rw [HXN.out];exact hs) hp)
      have HG5:=zH hg2
      have HO5:=zH (Own.kept (hO.out.ext HX4.out) hon (.inr (fun h=>(hO.out.ext HX4.out).ne_block (hgr.out.ext HX4.out).blk (by decide) h.symm)))
      have HX5:=zH (hon.ext (hxr.out.trans HX4.out) hgr.out.lo)
      have HP:=zH hp
      have hpl:s.pl.length=k:=hK.out.pl
      clear hs hp hg2 hon hO hgr
      go_wp2_with (at_builtin;refine wpList_app_lit rfl (.tmp 50) (.tmp 52) 38 rfl intInfo intCells rfl HO5.out [p] 1 _ rfl (k+1) 1 (by rw [List.length_singleton,hpl]) rfl _ rfl (by first | rfl | simp) (by omega) (by simp [maxLen];omega) (by have:=HX5.out.size;omega) ?_;intro A6 c6 w6 ho6 hg6 ht6;have HO6:=zH ho6;have HG6:=zH ((HG5.out.ext ((Ext.refl _).alloc _)).grown (HO5.out.ext ((Ext.refl _).alloc _)) hg6);have HX6:Hid (Ext w2 w6):=zH (Own.below HO5.out (HX5.out.alloc _) hg6 (by have:=HX5.out.size;simp;omega));clear ho6 hg6 ht6)
      rw [←HP.out]at HO6
      go_roundw
      case rel=>exact ⟨k+1,t,tA2,tc2,fA2,fc2,A6,c6,by have:=HLT.out;omega,by go_num,rfl,HK2,HG6,HO6,HX6⟩
      case measure=>have:=HLT.out;simp [intOf];omega
theorem places_any (c0 c1 c2 c3:Int) (sn:Bool) (G:GraphD) (V:World) (hG:GraphAt V G) (oG:GOk G):Calls Tryz.prog 13 #[.agg #[.int .i64 (c0),.int .i64 (c1),.int .i64 (c2),.int .i64 (c3)],.bool sn,.agg #[.slice G.nA G.ns.length G.ncap,.slice G.rA G.rs.length G.rcap]] V fun e w'=>∃A cap,e= .returned (.tuple #[.slice A (layS c0 c1 c2 c3 sn G).pl.length cap,.int .i64 (layE c0 c1 c2 c3 sn G)])∧IntsAt w' A (layS c0 c1 c2 c3 sn G).pl∧Ext V w':=by
 have hx0:=((Ext.refl V).alloc (.cells #[.int .i64 c0,.int .i64 c1,.int .i64 c2,.int .i64 c3] 23)).alloc (.cells #[.slice G.nA G.ns.length G.ncap,.slice G.rA G.rs.length G.rcap] 27)
 have HX:=zH hx0
 have HG:=zH (hG.ext hx0)
 clear hx0 hG
 go_enter Tryz.func13,Tryz.ntmps13
 go_wp2_with fail
 generalize (V.alloc (.cells #[.int .i64 c0,.int .i64 c1,.int .i64 c2,.int .i64 c3] 23)).alloc (.cells #[.slice G.nA G.ns.length G.ncap,.slice G.rA G.rs.length G.rcap] 27)=W at*
 refine (lay_any c0 c1 c2 c3 sn G W HG.out oG).mono ?_
 rintro e w1 (⟨he,rfl,hx⟩ | ⟨he,X,tA,tc,fA,fc,A,cap,rfl,hg,ho,hx⟩)
 ·have HE:=zH he
  have HX1:=zH (HX.out.trans hx)
  have HS:Hid ((layS c0 c1 c2 c3 sn G).pl= []):=zH (by rw [layS,if_neg he])
  clear he hx
  go_wp2_with fail
  go_ret2
  exact ⟨none,0,by rw [HS.out];rfl,by rw [HS.out];exact RowAt.none _ _ _,HX1.out⟩
 ·have HE:=zH he
  have HX1:=zH (HX.out.trans hx)
  have HS:Hid ((layS c0 c1 c2 c3 sn G).pl.length=G.ns.length):=zH (lay_len he)
  have HO:=zH ho
  clear he hx hg ho
  go_wp2_with fail
  go_ret2
  exact ⟨A,cap,by rw [HS.out,HE.out];rfl,own_ints (show Own 3 1 intC w1 W.heap.size (.slice A (layS c0 c1 c2 c3 sn G).pl.length cap) (layS c0 c1 c2 c3 sn G).pl from by rw [HS.out];exact HO.out),HX1.out⟩
theorem fits_any (c0 c1 c2 c3:Int) (G:GraphD) (V:World) (hG:GraphAt V G) (oG:GOk G):Calls Tryz.prog 17 #[.agg #[.int .i64 (c0),.int .i64 (c1),.int .i64 (c2),.int .i64 (c3)],.agg #[.slice G.nA G.ns.length G.ncap,.slice G.rA G.rs.length G.rcap]] V fun e w'=>e= .returned (.bool (layE c0 c1 c2 c3 false G==0))∧Ext V w':=by
 have hx0:=((Ext.refl V).alloc (.cells #[.int .i64 c0,.int .i64 c1,.int .i64 c2,.int .i64 c3] 23)).alloc (.cells #[.slice G.nA G.ns.length G.ncap,.slice G.rA G.rs.length G.rcap] 27)
 have HX:=zH hx0
 have HG:=zH (hG.ext hx0)
 clear hx0 hG
 go_enter Tryz.func17,Tryz.ntmps17
 go_wp2_with fail
 generalize (V.alloc (.cells #[.int .i64 c0,.int .i64 c1,.int .i64 c2,.int .i64 c3] 23)).alloc (.cells #[.slice G.nA G.ns.length G.ncap,.slice G.rA G.rs.length G.rcap] 27)=W at*
 refine (places_any c0 c1 c2 c3 false G W HG.out oG).mono ?_
 rintro e w1 ⟨A,cap,rfl, -,hx⟩
 have HX1:=zH (HX.out.trans hx)
 clear hx
 go_wp2_with fail
 go_ret
 exact ⟨rfl,HX1.out⟩
end Go.Proofs.YtphpppjfogpohaaGreat
