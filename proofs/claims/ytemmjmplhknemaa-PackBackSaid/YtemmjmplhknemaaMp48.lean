/- Merged by program (merge.py) out of: PkZ. -/
import Derived.ChangeMaps5
import Derived.Test.YtemmjmplhknemaaMp46
import Derived.Test.YtemmjmplhknemaaMp47
import Derived.Test.YtemmjmplhknemaaMp27
set_option linter.unusedSimpArgs false
set_option linter.unusedVariables false
set_option maxRecDepth 100000
set_option maxHeartbeats 16000000
namespace Go.Proofs.Ytemmjmplhknemaa
open Go.RowKit Go.Shelf
theorem plarge_s (s:StD) (b:Bool) (hb:bigB s.ws.length s.tb.length s.fr.length s.sl.length=b) (V:World) (h:StOk s):Calls Try.prog 4 #[.agg #[.int .i64 s.c0,.int .i64 s.c1,.int .i64 s.c2,.int .i64 s.c3,.bool s.snd,.slice s.wA s.ws.length s.wc,.int .i64 s.top,.slice s.tA s.tb.length s.tc,.slice s.fA s.fr.length s.fc,.slice s.sA s.sl.length s.sc]] V fun e w'=>e= .returned (.bool b)∧Ext V w':=by
 subst hb
 exact large15_any V h.lw h.lt h.lf h.ls
theorem enc_len (s:StD):(encS s).length≤26*s.ws.length+18*s.tb.length+18*s.fr.length+18*s.sl.length+100:=by
 have h1:=spB_len s.tb
 have h2:=spB_len s.fr
 have h3:=slF_len s.sl
 have h4:=wdB_len (s.ws.length+1) s.ws
 have p0:=putB_len s.c0
 have p1:=putB_len s.c1
 have p2:=putB_len s.c2
 have p3:=putB_len s.c3
 have p4:=putB_len s.top
 have p5:=putB_len s.sl.length
 have p6:mgB.length=4:=rfl
 have p7:(tfB s.snd).length=1:=rfl
 unfold encS hdS slB
 simp only [List.length_append]
 omega
theorem enc_cmp {s t:StD} (hs:pkC s=0) (bs:StB s) (ht:pkC t=0) (bt:StB t):(encS s==encS t)=eqvS s t:=by
 rw [Bool.eq_iff_iff,beq_iff_eq]
 exact ⟨fun h=>(enc_inj (r:= []) hs bs ht bt (by rw [List.append_nil,h])).1,enc_eqv⟩
theorem dec_own {V:World} {s:StD} (hs:pkC s=0) (bs:StB s) {bl:List UInt8} (hb:encS s=bl) (hl:bl.length≤100000):Calls Try.prog 8 #[.string ⟨bl.toArray⟩] V fun e w'=>∃u:StD,e= .returned (.tuple #[.agg #[.int .i64 u.c0,.int .i64 u.c1,.int .i64 u.c2,.int .i64 u.c3,.bool u.snd,.slice u.wA u.ws.length u.wc,.int .i64 u.top,.slice u.tA u.tb.length u.tc,.slice u.fA u.fr.length u.fc,.slice u.sA u.sl.length u.sc],.int .i64 0])∧StOwn V.heap.size w' u∧StLe u∧eqvS u s=true∧Ext V w':=by
 refine (pdec_any bl hl V).mono ?_
 rintro e w' (⟨u,he,ho,hu,hle,hk,hen,hx⟩ | ⟨-,hno, -⟩)
 ·exact ⟨u,he,ho,hle,(enc_inj (r:= []) hk hu hs bs (by rw [List.append_nil,hen,hb])).1,hx⟩
 ·exact absurd hb (hno s hs bs)
theorem dec_not {V:World} {bl:List UInt8} (hl:bl.length≤100000) (hno:∀s:StD,pkC s=0→StB s→encS s=bl→False):Calls Try.prog 8 #[.string ⟨bl.toArray⟩] V fun e w'=>e= .returned (.tuple #[.agg #[.int .i64 0,.int .i64 0,.int .i64 0,.int .i64 0,.bool false,.slice none 0 0,.int .i64 0,.slice none 0 0,.slice none 0 0,.slice none 0 0],.int .i64 4])∧Ext V w':=by
 refine (pdec_any bl hl V).mono ?_
 rintro e w' (⟨u,he,ho,hu,hle,hk,hen,hx⟩ | ⟨he, -,hx⟩)
 ·exact (hno u hk hu hen).elim
 ·exact ⟨he,hx⟩
theorem enc_yes {s:StD} (hk:pkC s=0) (hb:StB s) (hl:StLe s) (hwc:s.ws.length≤s.wc) {xs:List UInt8} (he:encS s=xs) (V:World) (h:StAt V s):Calls Try.prog 6 #[.agg #[.int .i64 s.c0,.int .i64 s.c1,.int .i64 s.c2,.int .i64 s.c3,.bool s.snd,.slice s.wA s.ws.length s.wc,.int .i64 s.top,.slice s.tA s.tb.length s.tc,.slice s.fA s.fr.length s.fc,.slice s.sA s.sl.length s.sc]] V fun e w'=>e= .returned (.tuple #[.string ⟨xs.toArray⟩,.int .i64 0])∧Ext V w':=by
 have Z:=enc_any s 0 hk hb hl hwc V h
 rw [if_pos rfl,if_pos rfl,he]at Z
 exact Z
theorem enc_nil {s:StD} (hk:pkC s≠0) (hb:StB s) (hl:StLe s) (hwc:s.ws.length≤s.wc) (V:World) (h:StAt V s):Calls Try.prog 6 #[.agg #[.int .i64 s.c0,.int .i64 s.c1,.int .i64 s.c2,.int .i64 s.c3,.bool s.snd,.slice s.wA s.ws.length s.wc,.int .i64 s.top,.slice s.tA s.tb.length s.tc,.slice s.fA s.fr.length s.fc,.slice s.sA s.sl.length s.sc]] V fun e w'=>e= .returned (.tuple #[.string ⟨#[]⟩,.int .i64 4])∧Ext V w':=by
 have Z:=enc_any s _ rfl hb hl hwc V h
 rw [if_neg hk,if_neg hk]at Z
 exact Z
theorem packBack_any (s t:StD) (bl:List UInt8) (cut:Int) (V:World) (hs:StAt V s) (ht:StAt V t) (oks:StOk s) (okt:StOk t) (hws:s.ws.length≤s.wc) (hwt:t.ws.length≤t.wc) (hc: -9223372036854775808≤cut∧cut≤9223372036854775807):
  Calls Try.prog 3 #[.agg #[.int .i64 s.c0,.int .i64 s.c1,.int .i64 s.c2,.int .i64 s.c3,.bool s.snd,.slice s.wA s.ws.length s.wc,.int .i64 s.top,.slice s.tA s.tb.length s.tc,.slice s.fA s.fr.length s.fc,.slice s.sA s.sl.length s.sc],.agg #[.int .i64 t.c0,.int .i64 t.c1,.int .i64 t.c2,.int .i64 t.c3,.bool t.snd,.slice t.wA t.ws.length t.wc,.int .i64 t.top,.slice t.tA t.tb.length t.tc,.slice t.fA t.fr.length t.fc,.slice t.sA t.sl.length t.sc],.string ⟨bl.toArray⟩,.int .i64 cut] V fun e w'=>e= .returned (.bool true)∧Ext V w':=by
 have hx1:=(Ext.refl V).alloc (.cells #[.int .i64 s.c0,.int .i64 s.c1,.int .i64 s.c2,.int .i64 s.c3,.bool s.snd,.slice s.wA s.ws.length s.wc,.int .i64 s.top,.slice s.tA s.tb.length s.tc,.slice s.fA s.fr.length s.fc,.slice s.sA s.sl.length s.sc] 28)
 have hx2:=hx1.alloc (.cells #[.int .i64 t.c0,.int .i64 t.c1,.int .i64 t.c2,.int .i64 t.c3,.bool t.snd,.slice t.wA t.ws.length t.wc,.int .i64 t.top,.slice t.tA t.tb.length t.tc,.slice t.fA t.fr.length t.fc,.slice t.sA t.sl.length t.sc] 28)
 have HB1:=pers_blk (blk_old (o2:= .cells #[.int .i64 t.c0,.int .i64 t.c1,.int .i64 t.c2,.int .i64 t.c3,.bool t.snd,.slice t.wA t.ws.length t.wc,.int .i64 t.top,.slice t.tA t.tb.length t.tc,.slice t.fA t.fr.length t.fc,.slice t.sA t.sl.length t.sc] 28) (blk_new V #[.int .i64 s.c0,.int .i64 s.c1,.int .i64 s.c2,.int .i64 s.c3,.bool s.snd,.slice s.wA s.ws.length s.wc,.int .i64 s.top,.slice s.tA s.tb.length s.tc,.slice s.fA s.fr.length s.fc,.slice s.sA s.sl.length s.sc] 28 V.heap.size rfl))
 have HB2:=pers_blk (blk_new (V.alloc (.cells #[.int .i64 s.c0,.int .i64 s.c1,.int .i64 s.c2,.int .i64 s.c3,.bool s.snd,.slice s.wA s.ws.length s.wc,.int .i64 s.top,.slice s.tA s.tb.length s.tc,.slice s.fA s.fr.length s.fc,.slice s.sA s.sl.length s.sc] 28)) #[.int .i64 t.c0,.int .i64 t.c1,.int .i64 t.c2,.int .i64 t.c3,.bool t.snd,.slice t.wA t.ws.length t.wc,.int .i64 t.top,.slice t.tA t.tb.length t.tc,.slice t.fA t.fr.length t.fc,.slice t.sA t.sl.length t.sc] 28 (V.heap.size+1) (by simp))
 have HV:=zH hx2
 have HAS:=zH (hs.ext hx2)
 have HAT:=zH (ht.ext hx2)
 have HS:=zH oks
 have HT:=zH okt
 have hz1:V.heap.size < ((V.alloc (.cells #[.int .i64 s.c0,.int .i64 s.c1,.int .i64 s.c2,.int .i64 s.c3,.bool s.snd,.slice s.wA s.ws.length s.wc,.int .i64 s.top,.slice s.tA s.tb.length s.tc,.slice s.fA s.fr.length s.fc,.slice s.sA s.sl.length s.sc] 28)).alloc (.cells #[.int .i64 t.c0,.int .i64 t.c1,.int .i64 t.c2,.int .i64 t.c3,.bool t.snd,.slice t.wA t.ws.length t.wc,.int .i64 t.top,.slice t.tA t.tb.length t.tc,.slice t.fA t.fr.length t.fc,.slice t.sA t.sl.length t.sc] 28)).heap.size:=by simp;omega
 have hz2:V.heap.size+1 < ((V.alloc (.cells #[.int .i64 s.c0,.int .i64 s.c1,.int .i64 s.c2,.int .i64 s.c3,.bool s.snd,.slice s.wA s.ws.length s.wc,.int .i64 s.top,.slice s.tA s.tb.length s.tc,.slice s.fA s.fr.length s.fc,.slice s.sA s.sl.length s.sc] 28)).alloc (.cells #[.int .i64 t.c0,.int .i64 t.c1,.int .i64 t.c2,.int .i64 t.c3,.bool t.snd,.slice t.wA t.ws.length t.wc,.int .i64 t.top,.slice t.tA t.tb.length t.tc,.slice t.fA t.fr.length t.fc,.slice t.sA t.sl.length t.sc] 28)).heap.size:=by simp
 clear hs ht oks okt hx1 hx2
 obtain ⟨bs,hbs⟩:∃b,bigB s.ws.length s.tb.length s.fr.length s.sl.length=b:=⟨_,rfl⟩
 obtain ⟨bt,hbt⟩:∃b,bigB t.ws.length t.tb.length t.fr.length t.sl.length=b:=⟨_,rfl⟩
 have HBS:=zH hbs
 have HBT:=zH hbt
 go_enter Try.func3,Try.ntmps3
 go_wp2_with fail
 refine (plarge_s s bs HBS.out _ HS.out).mono ?_
 rintro e w1 ⟨rfl,hx⟩
 have HX1:=zH hx
 clear hx hbs hbt
 have g1:=(cells_of (HB1.at HX1.out)).1
 have g2:=(cells_of (HB2.at HX1.out)).1
 by_cases hB:bs=true∨bt=true∨5000 < bl.length
 ·cases bs with
  | true=>
   go_wp2_with fail
   refine (awake35_any _).mono ?_
   rintro e w2 ⟨rfl,hx⟩
   have HX2:=zH (HX1.out.trans hx)
   clear hx g1 g2
   have g1:=(cells_of (HB1.at HX2.out)).1
   have g2:=(cells_of (HB2.at HX2.out)).1
   go_wp2_with fail
   go_ret
   exact ⟨rfl,HV.out.trans HX2.out⟩
  | false=>
   go_wp2_with fail
   refine (plarge_s t bt HBT.out _ HT.out).mono ?_
   rintro e w2 ⟨rfl,hx⟩
   have HX2:=zH (HX1.out.trans hx)
   clear hx g1 g2
   have g1:=(cells_of (HB1.at HX2.out)).1
   have g2:=(cells_of (HB2.at HX2.out)).1
   cases bt with
   | true=>
    go_wp2_with fail
    refine (awake35_any _).mono ?_
    rintro e w3 ⟨rfl,hx⟩
    have HX3:=zH (HX2.out.trans hx)
    clear hx g1 g2
    have g1:=(cells_of (HB1.at HX3.out)).1
    have g2:=(cells_of (HB2.at HX3.out)).1
    go_wp2_with fail
    go_ret
    exact ⟨rfl,HV.out.trans HX3.out⟩
   | false=>
    have G5:decide ((5000:Int) < (bl.length:Int))=true:=by
     rcases hB with h | h | h
     ·cases h
     ·cases h
     ·rw [decide_eq_true_eq];omega
    go_wp2_with fail
    refine (awake35_any _).mono ?_
    rintro e w3 ⟨rfl,hx⟩
    have HX3:=zH (HX2.out.trans hx)
    clear hx g1 g2
    have g1:=(cells_of (HB1.at HX3.out)).1
    have g2:=(cells_of (HB2.at HX3.out)).1
    go_wp2_with fail
    go_ret
    exact ⟨rfl,HV.out.trans HX3.out⟩
 obtain rfl:bs=false:=by cases bs <;>simp_all
 obtain rfl:bt=false:=by cases bt <;>simp_all
 have hb5:bl.length≤5000:=by
  rcases Nat.lt_or_ge 5000 bl.length with h | h
  ·exact absurd (.inr (.inr h)) hB
  ·exact h
 have G5:decide ((5000:Int) < (bl.length:Int))=false:=by rw [decide_eq_false_iff_not];omega
 clear hB
 have hbs:=HBS.out
 have hbt:=HBT.out
 simp only [bigB,decide_eq_false_iff_not,not_or,Nat.not_lt]at hbs hbt
 have hls:StLe s:=⟨by omega,by omega,by omega,by omega⟩
 have hlt:StLe t:=⟨by omega,by omega,by omega,by omega⟩
 have hds:StB s:=⟨HS.out.wb,fun x hx=>(HS.out.tbb x hx).1,fun x hx=>(HS.out.sb x hx).2⟩
 have hdt:StB t:=⟨HT.out.wb,fun x hx=>(HT.out.tbb x hx).1,fun x hx=>(HT.out.sb x hx).2⟩
 have hel:=enc_len s
 have hxl:(encS s).length≤20000:=by omega
 clear hel hbs hbt
 replace hls:=zH hls
 replace hlt:=zH hlt
 replace hds:=zH hds
 replace hdt:=zH hdt
 go_wp2_with fail
 refine (plarge_s t false HBT.out _ HT.out).mono ?_
 rintro e w2 ⟨rfl,hx⟩
 have HX2:=zH (HX1.out.trans hx)
 clear hx g1 g2
 have g1:=(cells_of (HB1.at HX2.out)).1
 have g2:=(cells_of (HB2.at HX2.out)).1
 go_wp2_with fail
 generalize hWW:(V.alloc (.cells #[.int .i64 s.c0,.int .i64 s.c1,.int .i64 s.c2,.int .i64 s.c3,.bool s.snd,.slice s.wA s.ws.length s.wc,.int .i64 s.top,.slice s.tA s.tb.length s.tc,.slice s.fA s.fr.length s.fc,.slice s.sA s.sl.length s.sc] 28)).alloc (.cells #[.int .i64 t.c0,.int .i64 t.c1,.int .i64 t.c2,.int .i64 t.c3,.bool t.snd,.slice t.wA t.ws.length t.wc,.int .i64 t.top,.slice t.tA t.tb.length t.tc,.slice t.fA t.fr.length t.fc,.slice t.sA t.sl.length t.sc] 28)=W at*
 by_cases hks:pkC s=0
 rotate_left
 ·replace hks:=zH hks
  refine (enc_nil hks.out hds.out hls.out hws _ (HAS.out.ext HX2.out)).mono ?_
  rintro e w3 ⟨rfl,hx⟩
  have HX3:=zH (HX2.out.trans hx)
  clear hx g1 g2
  have g1:=(cells_of (HB1.at HX3.out)).1
  have g2:=(cells_of (HB2.at HX3.out)).1
  go_wp2_with fail
  obtain ⟨ys,er,ZT⟩:∃(ys:List UInt8) (er:Int),Hid (∀w,Ext W w→Calls Try.prog 6 #[.agg #[.int .i64 t.c0,.int .i64 t.c1,.int .i64 t.c2,.int .i64 t.c3,.bool t.snd,.slice t.wA t.ws.length t.wc,.int .i64 t.top,.slice t.tA t.tb.length t.tc,.slice t.fA t.fr.length t.fc,.slice t.sA t.sl.length t.sc]] w fun e w'=>e= .returned (.tuple #[.string ⟨ys.toArray⟩,.int .i64 er])∧Ext w w'):=⟨_,_,zH (fun w hw=>enc_any t _ rfl hdt.out hlt.out hwt w (HAT.out.ext hw))⟩
  refine (ZT.out _ HX3.out).mono ?_
  rintro e w4 ⟨rfl,hx⟩
  have HX4:=zH (HX3.out.trans hx)
  clear hx g1 g2
  have g1:=(cells_of (HB1.at HX4.out)).1
  have g2:=(cells_of (HB2.at HX4.out)).1
  go_wp2_with fail
  refine (pdec_any bl (by omega) _).mono ?_
  rintro e w5 (⟨u,rfl,hou,hub,hul,huk,hue,hx⟩ | ⟨rfl, -,hx⟩)
  ·have hxa:=(Ext.refl w5).alloc (.cells #[.int .i64 u.c0,.int .i64 u.c1,.int .i64 u.c2,.int .i64 u.c3,.bool u.snd,.slice u.wA u.ws.length u.wc,.int .i64 u.top,.slice u.tA u.tb.length u.tc,.slice u.fA u.fr.length u.fc,.slice u.sA u.sl.length u.sc] 28)
   have HP3:=pers_blk (blk_new w5 #[.int .i64 u.c0,.int .i64 u.c1,.int .i64 u.c2,.int .i64 u.c3,.bool u.snd,.slice u.wA u.ws.length u.wc,.int .i64 u.top,.slice u.tA u.tb.length u.tc,.slice u.fA u.fr.length u.fc,.slice u.sA u.sl.length u.sc] 28 w5.heap.size rfl)
   have HX6:=zH ((HX4.out.trans hx).trans hxa)
   have HOU:=zH (hou.ext hxa)
   replace hub:=zH hub
   replace hul:=zH hul
   replace huk:=zH huk
   replace hue:=zH hue
   have HNE:=zH (show W.heap.size≤w5.heap.size from (HX4.out.trans hx).size)
   clear hx hxa g1 g2 hou
   have g1:=(cells_of (HB1.at HX6.out)).1
   have g2:=(cells_of (HB2.at HX6.out)).1
   go_wp2_with fail
   generalize w5.alloc (.cells #[.int .i64 u.c0,.int .i64 u.c1,.int .i64 u.c2,.int .i64 u.c3,.bool u.snd,.slice u.wA u.ws.length u.wc,.int .i64 u.top,.slice u.tA u.tb.length u.tc,.slice u.fA u.fr.length u.fc,.slice u.sA u.sl.length u.sc] 28)=wa at*
   generalize w5.heap.size=H3 at*
   have HA:=zH (Ext.refl wa)
   refine (enc_yes huk.out hub.out hul.out (own_cap0 HOU.out.w) hue.out _ HOU.out.at).mono ?_
   rintro e w7 ⟨rfl,hx⟩
   have HX7:=zH (HX6.out.trans hx)
   replace HA:=zH (HA.out.trans hx)
   clear hx g1 g2
   have g1:=(cells_of (HB1.at HX7.out)).1
   have g2:=(cells_of (HB2.at HX7.out)).1
   clear HOU hub hul huk hue
   go_wp2_with fail
   refine (awake35_any _).mono ?_
   rintro e w8 ⟨rfl,hx⟩
   have HX8:=zH (HX7.out.trans hx)
   clear hx g1 g2
   have g1:=(cells_of (HB1.at HX8.out)).1
   have g2:=(cells_of (HB2.at HX8.out)).1
   go_wp2_with fail
   go_ret
   exact ⟨rfl,HV.out.trans HX8.out⟩
  ·have hxa:=(Ext.refl w5).alloc (.cells #[.int .i64 0,.int .i64 0,.int .i64 0,.int .i64 0,.bool false,.slice none 0 0,.int .i64 0,.slice none 0 0,.slice none 0 0,.slice none 0 0] 28)
   have HP3:=pers_blk (blk_new w5 #[.int .i64 0,.int .i64 0,.int .i64 0,.int .i64 0,.bool false,.slice none 0 0,.int .i64 0,.slice none 0 0,.slice none 0 0,.slice none 0 0] 28 w5.heap.size rfl)
   have HX6:=zH ((HX4.out.trans hx).trans hxa)
   have HNE:=zH (show W.heap.size≤w5.heap.size from (HX4.out.trans hx).size)
   clear hx hxa g1 g2
   have g1:=(cells_of (HB1.at HX6.out)).1
   have g2:=(cells_of (HB2.at HX6.out)).1
   go_wp2_with fail
   generalize w5.alloc (.cells #[.int .i64 0,.int .i64 0,.int .i64 0,.int .i64 0,.bool false,.slice none 0 0,.int .i64 0,.slice none 0 0,.slice none 0 0,.slice none 0 0] 28)=wa at*
   generalize w5.heap.size=H3 at*
   have HA:=zH (Ext.refl wa)
   refine (awake35_any _).mono ?_
   rintro e w7 ⟨rfl,hx⟩
   have HX7:=zH (HX6.out.trans hx)
   clear hx g1 g2
   have g1:=(cells_of (HB1.at HX7.out)).1
   have g2:=(cells_of (HB2.at HX7.out)).1
   go_wp2_with fail
   go_ret
   exact ⟨rfl,HV.out.trans HX7.out⟩
 obtain ⟨xs,hxs⟩:∃xs,encS s=xs:=⟨_,rfl⟩
 rw [hxs]at hxl
 replace hks:=zH hks
 replace hxs:=zH hxs
 refine (enc_yes hks.out hds.out hls.out hws hxs.out _ (HAS.out.ext HX2.out)).mono ?_
 rintro e w3 ⟨rfl,hx⟩
 have HX3:=zH (HX2.out.trans hx)
 clear hx g1 g2
 have g1:=(cells_of (HB1.at HX3.out)).1
 have g2:=(cells_of (HB2.at HX3.out)).1
 go_wp2_with fail
 by_cases hkt:pkC t=0
 rotate_left
 ·replace hkt:=zH hkt
  refine (enc_nil hkt.out hdt.out hlt.out hwt _ (HAT.out.ext HX3.out)).mono ?_
  rintro e w4 ⟨rfl,hx⟩
  have HX4:=zH (HX3.out.trans hx)
  clear hx g1 g2
  have g1:=(cells_of (HB1.at HX4.out)).1
  have g2:=(cells_of (HB2.at HX4.out)).1
  go_wp2_with fail
  refine (pdec_any bl (by omega) _).mono ?_
  rintro e w5 (⟨u,rfl,hou,hub,hul,huk,hue,hx⟩ | ⟨rfl, -,hx⟩)
  ·have hxa:=(Ext.refl w5).alloc (.cells #[.int .i64 u.c0,.int .i64 u.c1,.int .i64 u.c2,.int .i64 u.c3,.bool u.snd,.slice u.wA u.ws.length u.wc,.int .i64 u.top,.slice u.tA u.tb.length u.tc,.slice u.fA u.fr.length u.fc,.slice u.sA u.sl.length u.sc] 28)
   have HP3:=pers_blk (blk_new w5 #[.int .i64 u.c0,.int .i64 u.c1,.int .i64 u.c2,.int .i64 u.c3,.bool u.snd,.slice u.wA u.ws.length u.wc,.int .i64 u.top,.slice u.tA u.tb.length u.tc,.slice u.fA u.fr.length u.fc,.slice u.sA u.sl.length u.sc] 28 w5.heap.size rfl)
   have HX6:=zH ((HX4.out.trans hx).trans hxa)
   have HOU:=zH (hou.ext hxa)
   replace hub:=zH hub
   replace hul:=zH hul
   replace huk:=zH huk
   replace hue:=zH hue
   have HNE:=zH (show W.heap.size≤w5.heap.size from (HX4.out.trans hx).size)
   clear hx hxa g1 g2 hou
   have g1:=(cells_of (HB1.at HX6.out)).1
   have g2:=(cells_of (HB2.at HX6.out)).1
   go_wp2_with fail
   generalize w5.alloc (.cells #[.int .i64 u.c0,.int .i64 u.c1,.int .i64 u.c2,.int .i64 u.c3,.bool u.snd,.slice u.wA u.ws.length u.wc,.int .i64 u.top,.slice u.tA u.tb.length u.tc,.slice u.fA u.fr.length u.fc,.slice u.sA u.sl.length u.sc] 28)=wa at*
   generalize w5.heap.size=H3 at*
   have HA:=zH (Ext.refl wa)
   refine (enc_yes huk.out hub.out hul.out (own_cap0 HOU.out.w) hue.out _ HOU.out.at).mono ?_
   rintro e w7 ⟨rfl,hx⟩
   have HX7:=zH (HX6.out.trans hx)
   replace HA:=zH (HA.out.trans hx)
   clear hx g1 g2
   have g1:=(cells_of (HB1.at HX7.out)).1
   have g2:=(cells_of (HB2.at HX7.out)).1
   clear HOU hub hul huk hue
   go_wp2_with fail
   refine (dec_own hks.out hds.out hxs.out (by omega)).mono ?_
   rintro e w8 ⟨v,rfl,hov,hvl,hve,hx⟩
   have HX8:=zH (HX7.out.trans hx)
   replace HA:=zH (HA.out.trans hx)
   clear hx g1 g2
   have g1:=(cells_of (HB1.at HX8.out)).1
   have g2:=(cells_of (HB2.at HX8.out)).1
   replace hvl:=zH hvl
   replace hve:=zH hve
   replace hov:=zH hov
   go_wp2_with (with_reducible refine at_stores (t:=28) ?_;refine wpList_storeStR rfl (.tmp 13) (.tmp 87) rfl H3 (.int .i64 v.c0) (.int .i64 v.c1) (.int .i64 v.c2) (.int .i64 v.c3) (.bool v.snd) (.slice v.wA v.ws.length v.wc) (.int .i64 v.top) (.slice v.tA v.tb.length v.tc) (.slice v.fA v.fr.length v.fc) (.slice v.sA v.sl.length v.sc) (.int .i64 u.c0) (.int .i64 u.c1) (.int .i64 u.c2) (.int .i64 u.c3) (.bool u.snd) (.slice u.wA u.ws.length u.wc) (.int .i64 u.top) (.slice u.tA u.tb.length u.tc) (.slice u.fA u.fr.length u.fc) (.slice u.sA u.sl.length u.sc) rfl rfl (HP3.at HA.out) rfl ?_;intro w9 hb9 hown9 hext9;have HX9:=zH (hext9 W HX8.out HNE.out);have HOV:=zH (StOwn.mk (hown9 (by decide) hov.out.w) (hown9 (by decide) hov.out.t) (hown9 (by decide) hov.out.f) (hown9 (by decide) hov.out.s));clear g1 g2;have g1:=(cells_of (HB1.at HX9.out)).1;have g3:=(cells_of hb9).1;clear hb9 hown9 hext9)
   refine (refssame_any v s _ HOV.out.at (HAS.out.ext HX9.out) hvl.out hls.out).mono ?_
   rintro e w10 ⟨rfl,hx⟩
   have HX10:=zH (HX9.out.trans hx)
   clear hx g1 g3 HOV hov hvl
   have hve2:=hve.out
   by_cases hcut:0≤cut∧cut < (xs.length:Int)
   rotate_left
   ·by_cases hc0:0≤cut
    ·have G7:decide ((0:Int)≤cut)=true:=by rw [decide_eq_true_eq];exact hc0
     have G8:decide (cut < (xs.length:Int))=false:=by rw [decide_eq_false_iff_not];omega
     go_wp2_with fail
     refine (awake35_any _).mono ?_
     rintro e wz ⟨rfl,hx⟩
     have HXZ:=zH (HX10.out.trans hx)
     clear hx
     go_wp2_with fail
     go_ret
     exact ⟨rfl,HV.out.trans HXZ.out⟩
    ·have G7:decide ((0:Int)≤cut)=false:=by rw [decide_eq_false_iff_not];exact hc0
     go_wp2_with fail
     refine (awake35_any _).mono ?_
     rintro e wz ⟨rfl,hx⟩
     have HXZ:=zH (HX10.out.trans hx)
     clear hx
     go_wp2_with fail
     go_ret
     exact ⟨rfl,HV.out.trans HXZ.out⟩
   obtain ⟨hc0,hc1⟩:=hcut
   obtain ⟨c,rfl⟩:=Int.eq_ofNat_of_zero_le hc0
   have hcl:c < xs.length:=by omega
   have G8:decide (c < xs.length)=true:=by rw [decide_eq_true_eq];exact hcl
   have hsz:(⟨xs.toArray⟩:ByteArray).size=xs.length:=by show xs.toArray.size=_;simp
   have hs1:(⟨xs.toArray⟩:ByteArray).extract 0 c=⟨(xs.take c).toArray⟩:=ba_ext0
   have hs2:(⟨xs.toArray⟩:ByteArray).extract c xs.length=⟨(xs.drop c).toArray⟩:=by rw [←hsz];exact ba_ext
   have hs3:=ba_app xs (xs.drop c)
   have HN1:Hid (∀s2:StD,pkC s2=0→StB s2→encS s2=xs.take c→False):=zH (fun s2 h1 h2 h3=>by
    have h4:=(enc_inj (r:=xs.drop c) h1 h2 hks.out hds.out (by rw [h3,List.take_append_drop,hxs.out])).2
    have h5:=congrArg List.length h4
    rw [List.length_drop,List.length_nil]at h5
    omega)
   have HN2:Hid (∀s2:StD,pkC s2=0→StB s2→encS s2=xs++xs.drop c→False):=zH (fun s2 h1 h2 h3=>by
    have h4:=(enc_inj (r:=xs.drop c) hks.out hds.out h1 h2 (by rw [h3,hxs.out])).2
    have h5:=congrArg List.length h4
    rw [List.length_drop,List.length_nil]at h5
    omega)
   go_wp2_with fail
   refine (dec_not (by rw [List.length_take];omega) HN1.out).mono ?_
   rintro e wp ⟨rfl,hx⟩
   have HXP:=zH ((HX10.out.trans hx).alloc (.cells #[.int .i64 0,.int .i64 0,.int .i64 0,.int .i64 0,.bool false,.slice none 0 0,.int .i64 0,.slice none 0 0,.slice none 0 0,.slice none 0 0] 28))
   clear hx
   go_wp2_with fail
   refine (dec_not (by rw [List.length_append,List.length_drop];omega) HN2.out).mono ?_
   rintro e wq ⟨rfl,hx⟩
   have HXQ:=zH ((HXP.out.trans hx).alloc (.cells #[.int .i64 0,.int .i64 0,.int .i64 0,.int .i64 0,.bool false,.slice none 0 0,.int .i64 0,.slice none 0 0,.slice none 0 0,.slice none 0 0] 28))
   clear hx
   go_wp2_with fail
   refine (awake35_any _).mono ?_
   rintro e wz ⟨rfl,hx⟩
   have HXZ:=zH (HXQ.out.trans hx)
   clear hx
   go_wp2_with fail
   go_ret
   exact ⟨rfl,HV.out.trans HXZ.out⟩
  ·have hxa:=(Ext.refl w5).alloc (.cells #[.int .i64 0,.int .i64 0,.int .i64 0,.int .i64 0,.bool false,.slice none 0 0,.int .i64 0,.slice none 0 0,.slice none 0 0,.slice none 0 0] 28)
   have HP3:=pers_blk (blk_new w5 #[.int .i64 0,.int .i64 0,.int .i64 0,.int .i64 0,.bool false,.slice none 0 0,.int .i64 0,.slice none 0 0,.slice none 0 0,.slice none 0 0] 28 w5.heap.size rfl)
   have HX6:=zH ((HX4.out.trans hx).trans hxa)
   have HNE:=zH (show W.heap.size≤w5.heap.size from (HX4.out.trans hx).size)
   clear hx hxa g1 g2
   have g1:=(cells_of (HB1.at HX6.out)).1
   have g2:=(cells_of (HB2.at HX6.out)).1
   go_wp2_with fail
   generalize w5.alloc (.cells #[.int .i64 0,.int .i64 0,.int .i64 0,.int .i64 0,.bool false,.slice none 0 0,.int .i64 0,.slice none 0 0,.slice none 0 0,.slice none 0 0] 28)=wa at*
   generalize w5.heap.size=H3 at*
   have HA:=zH (Ext.refl wa)
   refine (dec_own hks.out hds.out hxs.out (by omega)).mono ?_
   rintro e w7 ⟨v,rfl,hov,hvl,hve,hx⟩
   have HX7:=zH (HX6.out.trans hx)
   replace HA:=zH (HA.out.trans hx)
   clear hx g1 g2
   have g1:=(cells_of (HB1.at HX7.out)).1
   have g2:=(cells_of (HB2.at HX7.out)).1
   replace hvl:=zH hvl
   replace hve:=zH hve
   replace hov:=zH hov
   go_wp2_with (with_reducible refine at_stores (t:=28) ?_;refine wpList_storeStR rfl (.tmp 13) (.tmp 87) rfl H3 (.int .i64 v.c0) (.int .i64 v.c1) (.int .i64 v.c2) (.int .i64 v.c3) (.bool v.snd) (.slice v.wA v.ws.length v.wc) (.int .i64 v.top) (.slice v.tA v.tb.length v.tc) (.slice v.fA v.fr.length v.fc) (.slice v.sA v.sl.length v.sc) (.int .i64 0) (.int .i64 0) (.int .i64 0) (.int .i64 0) (.bool false) (.slice none 0 0) (.int .i64 0) (.slice none 0 0) (.slice none 0 0) (.slice none 0 0) rfl rfl (HP3.at HA.out) rfl ?_;intro w8 hb9 hown9 hext9;have HX8:=zH (hext9 W HX7.out HNE.out);have HOV:=zH (StOwn.mk (hown9 (by decide) hov.out.w) (hown9 (by decide) hov.out.t) (hown9 (by decide) hov.out.f) (hown9 (by decide) hov.out.s));clear g1 g2;have g1:=(cells_of (HB1.at HX8.out)).1;have g3:=(cells_of hb9).1;clear hb9 hown9 hext9)
   refine (refssame_any v s _ HOV.out.at (HAS.out.ext HX8.out) hvl.out hls.out).mono ?_
   rintro e w9 ⟨rfl,hx⟩
   have HX9:=zH (HX8.out.trans hx)
   clear hx g1 g3 HOV hov hvl
   have hve2:=hve.out
   by_cases hcut:0≤cut∧cut < (xs.length:Int)
   rotate_left
   ·by_cases hc0:0≤cut
    ·have G7:decide ((0:Int)≤cut)=true:=by rw [decide_eq_true_eq];exact hc0
     have G8:decide (cut < (xs.length:Int))=false:=by rw [decide_eq_false_iff_not];omega
     go_wp2_with fail
     refine (awake35_any _).mono ?_
     rintro e wz ⟨rfl,hx⟩
     have HXZ:=zH (HX9.out.trans hx)
     clear hx
     go_wp2_with fail
     go_ret
     exact ⟨rfl,HV.out.trans HXZ.out⟩
    ·have G7:decide ((0:Int)≤cut)=false:=by rw [decide_eq_false_iff_not];exact hc0
     go_wp2_with fail
     refine (awake35_any _).mono ?_
     rintro e wz ⟨rfl,hx⟩
     have HXZ:=zH (HX9.out.trans hx)
     clear hx
     go_wp2_with fail
     go_ret
     exact ⟨rfl,HV.out.trans HXZ.out⟩
   obtain ⟨hc0,hc1⟩:=hcut
   obtain ⟨c,rfl⟩:=Int.eq_ofNat_of_zero_le hc0
   have hcl:c < xs.length:=by omega
   have G8:decide (c < xs.length)=true:=by rw [decide_eq_true_eq];exact hcl
   have hsz:(⟨xs.toArray⟩:ByteArray).size=xs.length:=by show xs.toArray.size=_;simp
   have hs1:(⟨xs.toArray⟩:ByteArray).extract 0 c=⟨(xs.take c).toArray⟩:=ba_ext0
   have hs2:(⟨xs.toArray⟩:ByteArray).extract c xs.length=⟨(xs.drop c).toArray⟩:=by rw [←hsz];exact ba_ext
   have hs3:=ba_app xs (xs.drop c)
   have HN1:Hid (∀s2:StD,pkC s2=0→StB s2→encS s2=xs.take c→False):=zH (fun s2 h1 h2 h3=>by
    have h4:=(enc_inj (r:=xs.drop c) h1 h2 hks.out hds.out (by rw [h3,List.take_append_drop,hxs.out])).2
    have h5:=congrArg List.length h4
    rw [List.length_drop,List.length_nil]at h5
    omega)
   have HN2:Hid (∀s2:StD,pkC s2=0→StB s2→encS s2=xs++xs.drop c→False):=zH (fun s2 h1 h2 h3=>by
    have h4:=(enc_inj (r:=xs.drop c) hks.out hds.out h1 h2 (by rw [h3,hxs.out])).2
    have h5:=congrArg List.length h4
    rw [List.length_drop,List.length_nil]at h5
    omega)
   go_wp2_with fail
   refine (dec_not (by rw [List.length_take];omega) HN1.out).mono ?_
   rintro e wp ⟨rfl,hx⟩
   have HXP:=zH ((HX9.out.trans hx).alloc (.cells #[.int .i64 0,.int .i64 0,.int .i64 0,.int .i64 0,.bool false,.slice none 0 0,.int .i64 0,.slice none 0 0,.slice none 0 0,.slice none 0 0] 28))
   clear hx
   go_wp2_with fail
   refine (dec_not (by rw [List.length_append,List.length_drop];omega) HN2.out).mono ?_
   rintro e wq ⟨rfl,hx⟩
   have HXQ:=zH ((HXP.out.trans hx).alloc (.cells #[.int .i64 0,.int .i64 0,.int .i64 0,.int .i64 0,.bool false,.slice none 0 0,.int .i64 0,.slice none 0 0,.slice none 0 0,.slice none 0 0] 28))
   clear hx
   go_wp2_with fail
   refine (awake35_any _).mono ?_
   rintro e wz ⟨rfl,hx⟩
   have HXZ:=zH (HXQ.out.trans hx)
   clear hx
   go_wp2_with fail
   go_ret
   exact ⟨rfl,HV.out.trans HXZ.out⟩
 obtain ⟨ys,hys⟩:∃ys,encS t=ys:=⟨_,rfl⟩
 have HCMP:Hid ((xs==ys)=eqvS s t):=zH (by rw [←hxs.out,←hys];exact enc_cmp hks.out hds.out hkt hdt.out)
 replace hkt:=zH hkt
 replace hys:=zH hys
 refine (enc_yes hkt.out hdt.out hlt.out hwt hys.out _ (HAT.out.ext HX3.out)).mono ?_
 rintro e w4 ⟨rfl,hx⟩
 have HX4:=zH (HX3.out.trans hx)
 clear hx g1 g2
 have g1:=(cells_of (HB1.at HX4.out)).1
 have g2:=(cells_of (HB2.at HX4.out)).1
 go_wp2_with fail
 refine (refssame_any s t _ (HAS.out.ext HX4.out) (HAT.out.ext HX4.out) hls.out hlt.out).mono ?_
 rintro e w5 ⟨rfl,hx⟩
 have HX5:=zH (HX4.out.trans hx)
 clear hx g1 g2
 have g1:=(cells_of (HB1.at HX5.out)).1
 have g2:=(cells_of (HB2.at HX5.out)).1
 have hcmp:=HCMP.out
 generalize eqvS s t=eqb at*
 go_wp2_with fail
 refine (pdec_any bl (by omega) _).mono ?_
 rintro e w6 (⟨u,rfl,hou,hub,hul,huk,hue,hx⟩ | ⟨rfl, -,hx⟩)
 ·have hxa:=(Ext.refl w6).alloc (.cells #[.int .i64 u.c0,.int .i64 u.c1,.int .i64 u.c2,.int .i64 u.c3,.bool u.snd,.slice u.wA u.ws.length u.wc,.int .i64 u.top,.slice u.tA u.tb.length u.tc,.slice u.fA u.fr.length u.fc,.slice u.sA u.sl.length u.sc] 28)
  have HP3:=pers_blk (blk_new w6 #[.int .i64 u.c0,.int .i64 u.c1,.int .i64 u.c2,.int .i64 u.c3,.bool u.snd,.slice u.wA u.ws.length u.wc,.int .i64 u.top,.slice u.tA u.tb.length u.tc,.slice u.fA u.fr.length u.fc,.slice u.sA u.sl.length u.sc] 28 w6.heap.size rfl)
  have HX7:=zH ((HX5.out.trans hx).trans hxa)
  have HOU:=zH (hou.ext hxa)
  replace hub:=zH hub
  replace hul:=zH hul
  replace huk:=zH huk
  replace hue:=zH hue
  have HNE:=zH (show W.heap.size≤w6.heap.size from (HX5.out.trans hx).size)
  clear hx hxa g1 g2 hou
  have g1:=(cells_of (HB1.at HX7.out)).1
  have g2:=(cells_of (HB2.at HX7.out)).1
  go_wp2_with fail
  generalize w6.alloc (.cells #[.int .i64 u.c0,.int .i64 u.c1,.int .i64 u.c2,.int .i64 u.c3,.bool u.snd,.slice u.wA u.ws.length u.wc,.int .i64 u.top,.slice u.tA u.tb.length u.tc,.slice u.fA u.fr.length u.fc,.slice u.sA u.sl.length u.sc] 28)=wa at*
  generalize w6.heap.size=H3 at*
  have HA:=zH (Ext.refl wa)
  refine (enc_yes huk.out hub.out hul.out (own_cap0 HOU.out.w) hue.out _ HOU.out.at).mono ?_
  rintro e w8 ⟨rfl,hx⟩
  have HX8:=zH (HX7.out.trans hx)
  replace HA:=zH (HA.out.trans hx)
  clear hx g1 g2
  have g1:=(cells_of (HB1.at HX8.out)).1
  have g2:=(cells_of (HB2.at HX8.out)).1
  clear HOU hub hul huk hue
  go_wp2_with fail
  refine (dec_own hks.out hds.out hxs.out (by omega)).mono ?_
  rintro e w9 ⟨v,rfl,hov,hvl,hve,hx⟩
  have HX9:=zH (HX8.out.trans hx)
  replace HA:=zH (HA.out.trans hx)
  clear hx g1 g2
  have g1:=(cells_of (HB1.at HX9.out)).1
  have g2:=(cells_of (HB2.at HX9.out)).1
  replace hvl:=zH hvl
  replace hve:=zH hve
  replace hov:=zH hov
  go_wp2_with (with_reducible refine at_stores (t:=28) ?_;refine wpList_storeStR rfl (.tmp 13) (.tmp 87) rfl H3 (.int .i64 v.c0) (.int .i64 v.c1) (.int .i64 v.c2) (.int .i64 v.c3) (.bool v.snd) (.slice v.wA v.ws.length v.wc) (.int .i64 v.top) (.slice v.tA v.tb.length v.tc) (.slice v.fA v.fr.length v.fc) (.slice v.sA v.sl.length v.sc) (.int .i64 u.c0) (.int .i64 u.c1) (.int .i64 u.c2) (.int .i64 u.c3) (.bool u.snd) (.slice u.wA u.ws.length u.wc) (.int .i64 u.top) (.slice u.tA u.tb.length u.tc) (.slice u.fA u.fr.length u.fc) (.slice u.sA u.sl.length u.sc) rfl rfl (HP3.at HA.out) rfl ?_;intro w10 hb9 hown9 hext9;have HX10:=zH (hext9 W HX9.out HNE.out);have HOV:=zH (StOwn.mk (hown9 (by decide) hov.out.w) (hown9 (by decide) hov.out.t) (hown9 (by decide) hov.out.f) (hown9 (by decide) hov.out.s));clear g1 g2;have g1:=(cells_of (HB1.at HX10.out)).1;have g3:=(cells_of hb9).1;clear hb9 hown9 hext9)
  refine (refssame_any v s _ HOV.out.at (HAS.out.ext HX10.out) hvl.out hls.out).mono ?_
  rintro e w11 ⟨rfl,hx⟩
  have HX11:=zH (HX10.out.trans hx)
  clear hx g1 g3 HOV hov hvl
  have hve2:=hve.out
  by_cases hcut:0≤cut∧cut < (xs.length:Int)
  rotate_left
  ·by_cases hc0:0≤cut
   ·have G7:decide ((0:Int)≤cut)=true:=by rw [decide_eq_true_eq];exact hc0
    have G8:decide (cut < (xs.length:Int))=false:=by rw [decide_eq_false_iff_not];omega
    go_wp2_with fail
    refine (awake35_any _).mono ?_
    rintro e wz ⟨rfl,hx⟩
    have HXZ:=zH (HX11.out.trans hx)
    clear hx
    go_wp2_with fail
    go_ret
    exact ⟨rfl,HV.out.trans HXZ.out⟩
   ·have G7:decide ((0:Int)≤cut)=false:=by rw [decide_eq_false_iff_not];exact hc0
    go_wp2_with fail
    refine (awake35_any _).mono ?_
    rintro e wz ⟨rfl,hx⟩
    have HXZ:=zH (HX11.out.trans hx)
    clear hx
    go_wp2_with fail
    go_ret
    exact ⟨rfl,HV.out.trans HXZ.out⟩
  obtain ⟨hc0,hc1⟩:=hcut
  obtain ⟨c,rfl⟩:=Int.eq_ofNat_of_zero_le hc0
  have hcl:c < xs.length:=by omega
  have G8:decide (c < xs.length)=true:=by rw [decide_eq_true_eq];exact hcl
  have hsz:(⟨xs.toArray⟩:ByteArray).size=xs.length:=by show xs.toArray.size=_;simp
  have hs1:(⟨xs.toArray⟩:ByteArray).extract 0 c=⟨(xs.take c).toArray⟩:=ba_ext0
  have hs2:(⟨xs.toArray⟩:ByteArray).extract c xs.length=⟨(xs.drop c).toArray⟩:=by rw [←hsz];exact ba_ext
  have hs3:=ba_app xs (xs.drop c)
  have HN1:Hid (∀s2:StD,pkC s2=0→StB s2→encS s2=xs.take c→False):=zH (fun s2 h1 h2 h3=>by
   have h4:=(enc_inj (r:=xs.drop c) h1 h2 hks.out hds.out (by rw [h3,List.take_append_drop,hxs.out])).2
   have h5:=congrArg List.length h4
   rw [List.length_drop,List.length_nil]at h5
   omega)
  have HN2:Hid (∀s2:StD,pkC s2=0→StB s2→encS s2=xs++xs.drop c→False):=zH (fun s2 h1 h2 h3=>by
   have h4:=(enc_inj (r:=xs.drop c) hks.out hds.out h1 h2 (by rw [h3,hxs.out])).2
   have h5:=congrArg List.length h4
   rw [List.length_drop,List.length_nil]at h5
   omega)
  go_wp2_with fail
  refine (dec_not (by rw [List.length_take];omega) HN1.out).mono ?_
  rintro e wp ⟨rfl,hx⟩
  have HXP:=zH ((HX11.out.trans hx).alloc (.cells #[.int .i64 0,.int .i64 0,.int .i64 0,.int .i64 0,.bool false,.slice none 0 0,.int .i64 0,.slice none 0 0,.slice none 0 0,.slice none 0 0] 28))
  clear hx
  go_wp2_with fail
  refine (dec_not (by rw [List.length_append,List.length_drop];omega) HN2.out).mono ?_
  rintro e wq ⟨rfl,hx⟩
  have HXQ:=zH ((HXP.out.trans hx).alloc (.cells #[.int .i64 0,.int .i64 0,.int .i64 0,.int .i64 0,.bool false,.slice none 0 0,.int .i64 0,.slice none 0 0,.slice none 0 0,.slice none 0 0] 28))
  clear hx
  go_wp2_with fail
  refine (awake35_any _).mono ?_
  rintro e wz ⟨rfl,hx⟩
  have HXZ:=zH (HXQ.out.trans hx)
  clear hx
  go_wp2_with fail
  go_ret
  exact ⟨rfl,HV.out.trans HXZ.out⟩
 ·have hxa:=(Ext.refl w6).alloc (.cells #[.int .i64 0,.int .i64 0,.int .i64 0,.int .i64 0,.bool false,.slice none 0 0,.int .i64 0,.slice none 0 0,.slice none 0 0,.slice none 0 0] 28)
  have HP3:=pers_blk (blk_new w6 #[.int .i64 0,.int .i64 0,.int .i64 0,.int .i64 0,.bool false,.slice none 0 0,.int .i64 0,.slice none 0 0,.slice none 0 0,.slice none 0 0] 28 w6.heap.size rfl)
  have HX7:=zH ((HX5.out.trans hx).trans hxa)
  have HNE:=zH (show W.heap.size≤w6.heap.size from (HX5.out.trans hx).size)
  clear hx hxa g1 g2
  have g1:=(cells_of (HB1.at HX7.out)).1
  have g2:=(cells_of (HB2.at HX7.out)).1
  go_wp2_with fail
  generalize w6.alloc (.cells #[.int .i64 0,.int .i64 0,.int .i64 0,.int .i64 0,.bool false,.slice none 0 0,.int .i64 0,.slice none 0 0,.slice none 0 0,.slice none 0 0] 28)=wa at*
  generalize w6.heap.size=H3 at*
  have HA:=zH (Ext.refl wa)
  refine (dec_own hks.out hds.out hxs.out (by omega)).mono ?_
  rintro e w8 ⟨v,rfl,hov,hvl,hve,hx⟩
  have HX8:=zH (HX7.out.trans hx)
  replace HA:=zH (HA.out.trans hx)
  clear hx g1 g2
  have g1:=(cells_of (HB1.at HX8.out)).1
  have g2:=(cells_of (HB2.at HX8.out)).1
  replace hvl:=zH hvl
  replace hve:=zH hve
  replace hov:=zH hov
  go_wp2_with (with_reducible refine at_stores (t:=28) ?_;refine wpList_storeStR rfl (.tmp 13) (.tmp 87) rfl H3 (.int .i64 v.c0) (.int .i64 v.c1) (.int .i64 v.c2) (.int .i64 v.c3) (.bool v.snd) (.slice v.wA v.ws.length v.wc) (.int .i64 v.top) (.slice v.tA v.tb.length v.tc) (.slice v.fA v.fr.length v.fc) (.slice v.sA v.sl.length v.sc) (.int .i64 0) (.int .i64 0) (.int .i64 0) (.int .i64 0) (.bool false) (.slice none 0 0) (.int .i64 0) (.slice none 0 0) (.slice none 0 0) (.slice none 0 0) rfl rfl (HP3.at HA.out) rfl ?_;intro w9 hb9 hown9 hext9;have HX9:=zH (hext9 W HX8.out HNE.out);have HOV:=zH (StOwn.mk (hown9 (by decide) hov.out.w) (hown9 (by decide) hov.out.t) (hown9 (by decide) hov.out.f) (hown9 (by decide) hov.out.s));clear g1 g2;have g1:=(cells_of (HB1.at HX9.out)).1;have g3:=(cells_of hb9).1;clear hb9 hown9 hext9)
  refine (refssame_any v s _ HOV.out.at (HAS.out.ext HX9.out) hvl.out hls.out).mono ?_
  rintro e w10 ⟨rfl,hx⟩
  have HX10:=zH (HX9.out.trans hx)
  clear hx g1 g3 HOV hov hvl
  have hve2:=hve.out
  by_cases hcut:0≤cut∧cut < (xs.length:Int)
  rotate_left
  ·by_cases hc0:0≤cut
   ·have G7:decide ((0:Int)≤cut)=true:=by rw [decide_eq_true_eq];exact hc0
    have G8:decide (cut < (xs.length:Int))=false:=by rw [decide_eq_false_iff_not];omega
    go_wp2_with fail
    refine (awake35_any _).mono ?_
    rintro e wz ⟨rfl,hx⟩
    have HXZ:=zH (HX10.out.trans hx)
    clear hx
    go_wp2_with fail
    go_ret
    exact ⟨rfl,HV.out.trans HXZ.out⟩
   ·have G7:decide ((0:Int)≤cut)=false:=by rw [decide_eq_false_iff_not];exact hc0
    go_wp2_with fail
    refine (awake35_any _).mono ?_
    rintro e wz ⟨rfl,hx⟩
    have HXZ:=zH (HX10.out.trans hx)
    clear hx
    go_wp2_with fail
    go_ret
    exact ⟨rfl,HV.out.trans HXZ.out⟩
  obtain ⟨hc0,hc1⟩:=hcut
  obtain ⟨c,rfl⟩:=Int.eq_ofNat_of_zero_le hc0
  have hcl:c < xs.length:=by omega
  have G8:decide (c < xs.length)=true:=by rw [decide_eq_true_eq];exact hcl
  have hsz:(⟨xs.toArray⟩:ByteArray).size=xs.length:=by show xs.toArray.size=_;simp
  have hs1:(⟨xs.toArray⟩:ByteArray).extract 0 c=⟨(xs.take c).toArray⟩:=ba_ext0
  have hs2:(⟨xs.toArray⟩:ByteArray).extract c xs.length=⟨(xs.drop c).toArray⟩:=by rw [←hsz];exact ba_ext
  have hs3:=ba_app xs (xs.drop c)
  have HN1:Hid (∀s2:StD,pkC s2=0→StB s2→encS s2=xs.take c→False):=zH (fun s2 h1 h2 h3=>by
   have h4:=(enc_inj (r:=xs.drop c) h1 h2 hks.out hds.out (by rw [h3,List.take_append_drop,hxs.out])).2
   have h5:=congrArg List.length h4
   rw [List.length_drop,List.length_nil]at h5
   omega)
  have HN2:Hid (∀s2:StD,pkC s2=0→StB s2→encS s2=xs++xs.drop c→False):=zH (fun s2 h1 h2 h3=>by
   have h4:=(enc_inj (r:=xs.drop c) hks.out hds.out h1 h2 (by rw [h3,hxs.out])).2
   have h5:=congrArg List.length h4
   rw [List.length_drop,List.length_nil]at h5
   omega)
  go_wp2_with fail
  refine (dec_not (by rw [List.length_take];omega) HN1.out).mono ?_
  rintro e wp ⟨rfl,hx⟩
  have HXP:=zH ((HX10.out.trans hx).alloc (.cells #[.int .i64 0,.int .i64 0,.int .i64 0,.int .i64 0,.bool false,.slice none 0 0,.int .i64 0,.slice none 0 0,.slice none 0 0,.slice none 0 0] 28))
  clear hx
  go_wp2_with fail
  refine (dec_not (by rw [List.length_append,List.length_drop];omega) HN2.out).mono ?_
  rintro e wq ⟨rfl,hx⟩
  have HXQ:=zH ((HXP.out.trans hx).alloc (.cells #[.int .i64 0,.int .i64 0,.int .i64 0,.int .i64 0,.bool false,.slice none 0 0,.int .i64 0,.slice none 0 0,.slice none 0 0,.slice none 0 0] 28))
  clear hx
  go_wp2_with fail
  refine (awake35_any _).mono ?_
  rintro e wz ⟨rfl,hx⟩
  have HXZ:=zH (HXQ.out.trans hx)
  clear hx
  go_wp2_with fail
  go_ret
  exact ⟨rfl,HV.out.trans HXZ.out⟩
theorem packBack_fin {v0 v1:Value} {b:ByteArray} {cut:Int} {w:World} (h0:IsState w v0) (h1:IsState w v1) (h3:(Lit.int .i64 cut).wf=true):Calls Try.prog 3 #[v0,v1,.string b,.int .i64 cut] w fun e w'=>e= .returned (.bool true)∧Ext w w':=by
 obtain ⟨s,rfl,hs,oks⟩:=h0
 obtain ⟨t,rfl,ht,okt⟩:=h1
 obtain ⟨bl,rfl⟩:∃l:List UInt8,b=⟨l.toArray⟩:=⟨b.data.toList,by cases b;rfl⟩
 exact packBack_any s t bl cut w hs ht oks okt oks.wl okt.wl (i64_bd h3)
end Go.Proofs.Ytemmjmplhknemaa
