/- Merged by program (merge.py) out of: LfP, LfA, LfB. -/
import Derived.Test.YtphpppjfogpohaaGreatMq0
import Derived.Test.YtphpppjfogpohaaGreatMq30
import Derived.Test.YtphpppjfogpohaaGreatMq37
import Derived.Test.YtphpppjfogpohaaGreatMq41
import Derived.Test.YtphpppjfogpohaaGreatMq35
import Derived.Test.YtphpppjfogpohaaGreatMq2
import Derived.Test.YtphpppjfogpohaaGreatMq4
set_option linter.unusedSimpArgs false
set_option linter.unusedVariables false
set_option maxRecDepth 100000
set_option maxHeartbeats 16000000
namespace Go.Proofs.YtphpppjfogpohaaGreat
open Go.RowKit Go.Shelf
def bV (s:StD):List Int:=smallsL s.c0 s.c1 s.c2 s.c3 s.snd s.ws s.top++s.tb.map (·.1)
noncomputable def chkS (s:StD):Int:=checkZ s.c0 s.c1 s.c2 s.c3 s.snd s.ws s.top s.tb s.fr s.sl
def turnZ (os:List Int) (w:Int):Int×Int:=if decT w=2 then (2,if aj os (decX w) < 0 then decX w else aj os (decX w))else (decT w,decX w)
def wdZ (ws:List Int) (i:Int):Int:=ws.getD i.toNat 0
def eL (ws os:List Int) (at_:Int):NodV:=
 ((aK (some ws) at_).k,(List.range (aK (some ws) at_).f.toNat).map (fun (k:Nat)=>turnZ os (wdZ ws (at_+1+k))),(List.range (aK (some ws) at_).r.toNat).map fun (k:Nat)=>wdZ ws (at_+1+(aK (some ws) at_).f+k))
def aq (sl:List (Bool×Int×Int)):List Int:=(sl.filter fun x=>x.1).map fun x=>x.2.2
noncomputable def dZ (s:StD):List NodV:=if chkS s=0 then (bV s).map (eL s.ws (bV s))else []
noncomputable def d6 (s:StD):List (Int×Int):=if chkS s=0 then (aq s.sl).map (turnZ (bV s))else []
noncomputable def bS (s:StD):Int:=if chkS s=0 then 0 else 4
noncomputable def fH (s:StD):List Int:=if chkS s=0 then bV s else []
structure LfOk (s:StD):Prop where
 ok:AllOk s.c0 s.c1 s.c2 s.c3 s.snd s.ws s.top s.tb s.fr s.sl
 nd:(bV s).Nodup
 head:∀z∈bV s,aU (some s.ws) z=0
 at_:∀z∈bV s,0≤z∧z+1+(aK (some s.ws) z).f+(aK (some s.ws) z).r≤s.ws.length
 bd:∀z∈bV s,(0≤(aK (some s.ws) z).k∧(aK (some s.ws) z).k≤31)∧(0≤(aK (some s.ws) z).f∧(aK (some s.ws) z).f≤4096)∧(0≤(aK (some s.ws) z).r∧(aK (some s.ws) z).r≤4096)
 fld:∀z∈bV s,∀k:Nat,(k:Int) < (aK (some s.ws) z).f→decE (wdZ s.ws (z+1+k))=0∧(decT (wdZ s.ws (z+1+k))=2→decX (wdZ s.ws (z+1+k))∈bV s)
 slt:∀w∈aq s.sl,decE w=0∧(decT w=2→decX w∈bV s)
theorem tV {ws:List Int} {z:Int} (h:aU (some ws) z=0):0≤z∧z+av (aK (some ws) z)≤ws.length∧cw (aK (some ws) z)=true:=by
 have h2:=h
 rw [aK,if_pos h]
 unfold aU at h2
 split at h2
 ·rename_i h0
  split at h2
  ·rename_i h1
   split at h2
   ·cases h2
   ·rename_i h3
    have h4:atA (some ws) z=0:=h0
    simp only [atA]at h4
    split at h4
    ·cases h4
    ·rename_i h5
     have h6:lenA (some ws)=ws.length:=rfl
     have h7:cw (decH (rdA (some ws) z).toNat)=true:=by
      unfold dP at h1
      rw [Bool.and_eq_true]at h1
      exact h1.2
     exact ⟨by omega,by omega,h7⟩
  ·cases h2
 ·rename_i h0
  exact absurd h2 h0
theorem pC {l:Option (List Int)} {top:Int} {i:Int} {zs:List Int} (h:Chain l top i zs):zs.Pairwise (· < ·)∧∀z∈zs,i≤z∧z < top:=by
 induction h with
 | nil=>exact ⟨List.Pairwise.nil,by simp⟩
 | @cons i zs h1 h2 h3 h4 ih=>
  obtain ⟨a,b⟩:=ih
  have hs:=(cX h2).1
  refine ⟨List.pairwise_cons.2 ⟨fun z hz=>by have:=(b z hz).1;omega,a⟩,fun z hz=> ?_⟩
  rcases List.mem_cons.1 hz with rfl | hz
  ·omega
  ·have:=b z hz;omega
theorem uu {a n:Int} {xs fs:List (Int×Int)} (h:ledR a n xs fs=true):(xs.map (·.1)).Pairwise (· < ·)∧∀x∈xs,a≤x.1∧x.1 < a+n:=by
 unfold ledR ledB at h
 rw [Bool.and_eq_true,Bool.and_eq_true]at h
 obtain ⟨⟨h1,h2⟩, -⟩:=h
 obtain ⟨h3,h4⟩:=ut.1 h2
 refine ⟨?_,fun x hx=> ?_⟩
 ·refine List.Pairwise.map _ (fun x y hxy=> ?_) (List.Pairwise.and_mem.1 h4)
  obtain ⟨hx,hy,hle⟩:=hxy
  have:=h3 x hx
  simp only [mayB,decide_eq_true_eq]at this
  omega
 ·have h5:=List.all_eq_true.1 h1 x hx
  simp only [aw,mayB,Bool.and_eq_true,decide_eq_true_eq]at h5
  omega
theorem zY {ws:List Int} {i:Int} (h0:0≤i) (h1:i < ws.length):rdA (some ws) i=wdZ ws i:=by
 unfold rdA wdZ
 have:atA (some ws) i=0:=by
  simp only [atA]
  rw [if_neg oM]
 rw [if_pos this]
 rfl
theorem nY {S:Int→Bool} {z:Int} (h:bq S z=true):decE z=0∧(decT z=2→S (decX z)=true):=by
 simp only [bq,Bool.and_eq_true,decide_eq_true_eq,Bool.or_eq_true,Bool.not_eq_true',beq_eq_false_iff_ne]at h
 exact ⟨h.1,fun e=>h.2.resolve_left fun hn=>hn e⟩
theorem mD {zs:List Int} {tb:List (Int×Int)} {x:Int} (h:bh zs tb x=true):x∈zs++tb.map (·.1):=by
 simp only [bh,Bool.or_eq_true,decide_eq_true_eq]at h
 exact List.mem_append.2 h
theorem LfOk.of {s:StD} (h:chkS s=0):LfOk s:=by
 have H:=wW (show checkZ s.c0 s.c1 s.c2 s.c3 s.snd s.ws s.top s.tb s.fr s.sl=0 from h)
 have hhd:∀z∈bV s,aU (some s.ws) z=0:=fun z hz=>H.head hz
 have hat:∀z∈bV s,0≤z∧z+1+(aK (some s.ws) z).f+(aK (some s.ws) z).r≤s.ws.length:=fun z hz=>by
  obtain ⟨a,b, -⟩:=tV (hhd z hz)
  have:=(ft (hhd z hz)).1
  omega
 refine ⟨H,?_,hhd,hat,fun z hz=> ?_,fun z hz k hk=> ?_,fun w hw=> ?_⟩
 ·obtain ⟨hc, -⟩:=io H.stop
  obtain ⟨c1,c2⟩:=pC hc
  obtain ⟨l1,l2⟩:=uu H.led
  have ht:=H.tp
  simp only [topB,decide_eq_true_eq]at ht
  unfold bV
  rw [List.nodup_append]
  refine ⟨c1.imp fun hab=>by omega,l1.imp fun hab=>by omega,fun a ha b hb e=> ?_⟩
  subst e
  have h1:=c2 a ha
  obtain ⟨x,hx,e2⟩:=List.mem_map.1 hb
  have h2:=l2 x hx
  have hcf:=H.cfg
  have hcf2:=hcf
  simp only [cfgB,decide_eq_true_eq]at hcf2
  simp only [bL,bO,bE,bC,hcf,if_true]at h1 h2 ht
  split at h2 <;>split at ht <;>omega
 ·obtain ⟨-, -,hm⟩:=tV (hhd z hz)
  simp only [cw,decide_eq_true_eq]at hm
  omega
 ·have hf:=List.all_eq_true.1 H.field z hz
  rw [bf,List.all_eq_true]at hf
  have hz2:=hat z hz
  obtain ⟨-,hf0, -,hr0, -⟩:=ft (hhd z hz)
  have h1:=hf k (List.mem_range.2 oM)
  have hpe:placeE (some s.ws) z k false=0:=by
   rw [placeE,if_pos (hhd z hz),if_pos ⟨by omega,by simpa [eS]using hk⟩]
  have hpz:oplZ (some s.ws) z k false=z+1+k:=by
   rw [oplZ,if_pos hpe]
   simp [iA]
  have hfz:fldZ (some s.ws) z k false=wdZ s.ws (z+1+k):=by
   rw [fldZ,if_pos hpe,hpz,zY oM oM]
  rw [hfz]at h1
  obtain ⟨a,b⟩:=nY h1
  exact ⟨a,fun e=>mD (b e)⟩
 ·unfold aq at hw
  obtain ⟨x,hx,rfl⟩:=List.mem_map.1 hw
  obtain ⟨hx1,hx2⟩:=List.mem_filter.1 hx
  have h1:=List.all_eq_true.1 H.handle x hx1
  simp only [be,hx2,Bool.not_true,Bool.false_or]at h1
  obtain ⟨a,b⟩:=nY h1
  exact ⟨a,fun e=>mD (b e)⟩
theorem iJ {s:StD} (h:LfOk s):(bV s).length≤s.ws.length:=by
 have:=fy s.ws.length ((bV s).map Int.toNat) (by
  refine List.Pairwise.map _ (fun a b hab=> ?_) (List.Pairwise.and_mem.1 h.nd)
  obtain ⟨ha,hb,hne⟩:=hab
  have:=(h.at_ a ha).1
  have:=(h.at_ b hb).1
  omega) (fun i hi=>by
  obtain ⟨z,hz,rfl⟩:=List.mem_map.1 hi
  have h1:=h.at_ z hz
  have h2:=h.bd z hz
  omega)
 simpa using this
theorem tW {os:List Int} {w:Int} (hl:os.length≤1000000) (hw:0≤w∧w < 18446744073709551616) (h:decE w=0) (h2:decT w=2→decX w∈os):okV os.length (turnZ os w)=true:=by
 unfold turnZ
 by_cases e:decT w=2
 ·rw [if_pos e]
  have hm:=h2 e
  rcases dh os (decX w)with ⟨h3,h4⟩ | ⟨k,hk,h3,h4,h5⟩
  ·exact absurd rfl (h4 _ hm)
  ·rw [h3,if_neg oM,kL (by simp [cu];omega)]
   simp
   omega
 ·rw [if_neg e]
  refine kK ?_ e
  simp only [cu,decide_eq_true_eq]
  unfold decT at e⊢
  unfold decE at h
  unfold decX
  split at h
  ·rename_i h3
   by_cases c1:w % 4=1
   ·rw [if_pos c1,if_pos c1]
    split <;>omega
   ·rw [if_neg c1]at e⊢
    rw [if_neg c1]
    by_cases c2:w % 4=2∧w/4≤1099511627776
    ·rw [if_pos c2]at e
     exact absurd rfl e
    ·rw [if_neg c2,if_neg c2]
     omega
  ·cases h
theorem xJ {n:Nat} {v:Int×Int} (h:okV n v=true):(-9223372036854775808≤v.1∧v.1≤9223372036854775807)∧(-9223372036854775808≤v.2∧v.2≤9223372036854775807):=by
 simp [okV,cu]at h
 omega
theorem jF {s:StD} {H:GraphD} (h:chkS s=0) (hws:s.ws.length≤1000) (hsl:s.sl.length≤1000) (hwb:∀z∈s.ws,0≤z∧z < 18446744073709551616) (hsb:∀x∈s.sl,0≤x.2.2∧x.2.2 < 18446744073709551616)
  (h1:H.ns.map aY=dZ s) (h2:H.rs=d6 s) (hs:Shp H):GOk H∧aV H=true:=by
 have F:=LfOk.of h
 rw [dZ,if_pos h]at h1
 rw [d6,if_pos h]at h2
 have hol:=iJ F
 have hl:H.ns.length=(bV s).length:=by have:=congrArg List.length h1;simpa using this
 have hrl:H.rs.length≤1000:=by
  rw [h2,List.length_map]
  unfold aq
  rw [List.length_map]
  exact Nat.le_trans (List.length_filter_le _ _) hsl
 have hwd:∀i:Int,0≤i→i < s.ws.length→0≤wdZ s.ws i∧wdZ s.ws i < 18446744073709551616:=fun i a b=>hwb _ (by
  unfold wdZ
  exact aF oM)
 have hev:∀y∈H.ns,∃z∈bV s,aY y=eL s.ws (bV s) z:=fun y hy=>by
  have:aY y∈(bV s).map (eL s.ws (bV s)):=by rw [←h1];exact List.mem_map.2 ⟨y,hy,rfl⟩
  obtain ⟨z,hz,e⟩:=List.mem_map.1 this
  exact ⟨z,hz,e.symm⟩
 have hpt:∀y∈H.ns,okN y=true∧(∀v∈y.fields,okV H.ns.length v=true)∧∀v∈y.raws,0≤v∧v < 18446744073709551616:=fun y hy=>by
  obtain ⟨z,hz,e⟩:=hev y hy
  have hb:=F.bd z hz
  have ha:=F.at_ z hz
  simp only [aY,eL,Prod.mk.injEq]at e
  obtain ⟨e1,e2,e3⟩:=e
  refine ⟨?_,fun v hv=> ?_,fun v hv=> ?_⟩
  ·simp only [okN,e1,e2,e3,List.length_map,List.length_range,decide_eq_true_eq]
   omega
  ·rw [e2]at hv
   obtain ⟨k,hk,rfl⟩:=List.mem_map.1 hv
   have hk2:=List.mem_range.1 hk
   obtain ⟨f1,f2⟩:=F.fld z hz k oM
   rw [hl]
   exact tW oM (hwd _ oM oM) f1 f2
  ·rw [e3]at hv
   obtain ⟨k,hk,rfl⟩:=List.mem_map.1 hv
   have hk2:=List.mem_range.1 hk
   exact hwd _ oM oM
 have hrt:∀v∈H.rs,okV H.ns.length v=true:=fun v hv=>by
  rw [h2]at hv
  obtain ⟨w,hw,rfl⟩:=List.mem_map.1 hv
  obtain ⟨f1,f2⟩:=F.slt w hw
  rw [hl]
  refine tW oM ?_ f1 f2
  unfold aq at hw
  obtain ⟨x,hx,rfl⟩:=List.mem_map.1 hw
  exact hsb x (List.mem_filter.1 hx).1
 refine ⟨⟨⟨by omega,by omega,hs.a,hs.b,hs.c,hs.d,fun y hy=> ?_,fun v hv=>xJ (hrt v hv)⟩,by omega,hrl⟩,?_⟩
 ·obtain ⟨a,b,c⟩:=hpt y hy
  simp only [okN,decide_eq_true_eq]at a
  obtain ⟨p,q,u,v⟩:=hs.each y hy
  exact ⟨by omega,by omega,by omega,p,q,u,v,fun w hw=>xJ (b w hw),c⟩
 ·simp only [aV,Bool.and_eq_true,List.all_eq_true]
  exact ⟨fun y hy=>⟨(hpt y hy).1,(hpt y hy).2.1⟩,hrt⟩
end Go.Proofs.YtphpppjfogpohaaGreat
namespace Go.Proofs.YtphpppjfogpohaaGreat
open Go.RowKit Go.Shelf Go.Maps
theorem MapOf.look0 {w:World} {b n:Nat} {f:Int→Option Int} (h:MapOf w b n f) {x:Int} (hk:(Lit.int .i64 x).wf=true):(Instr.lookup 100 (.map (some b)) (.int .i64 x) false).run Tryz.prog w= .ok (.int .i64 ((f x).getD 0)) w:=by
 obtain ⟨D,h1,h2,h3⟩:=h
 obtain ⟨c,hrun,hat,hwc⟩:=h1.lookup_int eE Tryz.underlying100 Tryz.underlying3 (tN w) (key:= .int .i64 x) (kl:=keyI x) (keyOf_int_mk Tryz.underlying3 hk)
 rw [(h3 x).2]at hat
 injection hat with hat
 injection hat with _ hat
 rw [←hat]at hrun
 exact hrun
theorem y9 {w:Int} (h:0≤w∧w < 18446744073709551616) (h2:decT w=2):0≤decX w∧decX w≤1099511627776:=by
 unfold decT at h2
 unfold decX
 split at h2
 ·cases h2
 ·rename_i h3
  rw [if_neg h3]
  split at h2
  ·rename_i h4
   rw [if_pos h4]
   omega
  ·cases h2
theorem fI {w:World} {b i:Nat} {v:Value} (h:w.cell? ⟨b,i,none⟩=some v):b < w.heap.size:=by
 rcases Nat.lt_or_ge b w.heap.size with h1 | h1
 ·exact h1
 ·have h2:w.heap[b]?=none:=Array.getElem?_eq_none h1
  unfold World.cell? at h
  simp only at h
  rw [h2]at h
  cases h
theorem uv (f:Int→Option Int) (n mb B:Nat) (w:Int) (W:World) (hw:0≤w∧w < 18446744073709551616) (hm:MapOf W mb n f) (hc:W.cell? ⟨B,0,none⟩=some (.map (some mb))):
  Calls Tryz.prog 58 #[.int .u64 w,.pointer (some ⟨B,0,none⟩)] W fun e w'=>e= .returned (.agg #[.int .i64 (decT w),.int .i64 (if decT w=2 then (f (decX w)).getD 0 else decX w)])∧Ext W w':=by
 have HBX:=zH (aG W #[.int .i64 0,.int .i64 0] 71 _ rfl)
 have hx0:=(AD W).alloc (.cells #[.int .i64 0,.int .i64 0] 71)
 have HX:=zH hx0
 have HM:=zH (hm.ext hx0)
 have HC:=zH (hx0.cell hc)
 have HWS:Hid (W.heap.size≤W.heap.size):=zH (Nat.le_refl _)
 have HD:=zH (fun V=>oI w V hw.1 hw.2)
 clear hx0 hm hc
 by_cases h2:decT w=2
 ·have HBD:=zH (y9 hw h2)
  rw [if_pos h2]
  replace HD:=zH (by have h:=HD.out;rw [h2]at h;exact h)
  rw [h2]
  generalize decX w=x at*
  generalize decE w=er at*
  have HWF:Hid ((Lit.int .i64 x).wf=true):=zH (by have:=HBD.out;simp [Lit.wf,IntKind.min,IntKind.max,IntKind.signed,IntKind.bits];omega)
  clear h2
  generalize hz:(f x).getD 0=z at*
  have HZ:=zH hz
  clear hz
  go_enter Tryz.func58,Tryz.ntmps58
  go_wp2_with fail
  refine (HD.out _).mono ?_
  rintro e w1 ⟨rfl,hx⟩
  replace HX:=zH (HX.out.trans hx)
  replace HM:=zH (HM.out.ext hx)
  replace HC:=zH (hx.cell HC.out)
  replace HBX:=zH (HBX.out.re hx)
  have hlt:=aA HBX.out.here
  have kR:=(aB HBX.out.here).1
  have fR:=(aB HBX.out.here).2
  have hy:=(AD w1).alloc (.cells #[.int .i64 2,.int .i64 x] 71)
  have hlk:=(HM.out.ext hy).look0 (x:=x) HWF.out
  rw [HZ.out]at hlk
  have c0:=HC.out
  have c1:=hy.cell HC.out
  have hB:=fI c0
  clear hx hy
  go_wp2_with fail
  ((try simp only [Exit.inBlock,Exit.then]);refine bodyPost_ret (v:= .agg #[.int .i64 2,.int .i64 z]) (by simp only [results,Tryz.results58];go_simp) rfl ?_)
  exact ⟨rfl,((HX.out.setCell HWS.out _).setCell HWS.out _).alloc _⟩
 ·have d2:(decT w==2)=false:=by rw [beq_eq_false_iff_ne];exact h2
  rw [if_neg h2]
  generalize decX w=x at*
  generalize decE w=er at*
  generalize decT w=t at*
  clear h2
  go_enter Tryz.func58,Tryz.ntmps58
  go_wp2_with fail
  refine (HD.out _).mono ?_
  rintro e w1 ⟨rfl,hx⟩
  replace HX:=zH (HX.out.trans hx)
  replace HM:=zH (HM.out.ext hx)
  replace HC:=zH (hx.cell HC.out)
  replace HBX:=zH (HBX.out.re hx)
  have hlt:=aA HBX.out.here
  have kR:=(aB HBX.out.here).1
  have fR:=(aB HBX.out.here).2
  have hy:=(AD w1).alloc (.cells #[.int .i64 t,.int .i64 x] 71)
  have c0:=HC.out
  have c1:=hy.cell HC.out
  have hB:=fI c0
  clear hx hy
  go_wp2_with fail
  ((try simp only [Exit.inBlock,Exit.then]);refine bodyPost_ret (v:= .agg #[.int .i64 t,.int .i64 x]) (by simp only [results,Tryz.results58];go_simp) rfl ?_)
  exact ⟨rfl,((HX.out.setCell HWS.out _).setCell HWS.out _).alloc _⟩
theorem mE (A:Option Addr) (cap:Nat) (os:List Int) (w:Int) (V:World) (hw:0≤w∧w < 18446744073709551616) (hl:IntsAt V A os) (hlen:os.length≤1000000):
  Calls Tryz.prog 69 #[.slice A os.length cap,.int .u64 w] V fun e w'=>e= .returned (.agg #[.int .i64 (turnZ os w).1,.int .i64 (turnZ os w).2])∧Ext V w':=by
 have HBX:=zH (aG V #[.int .i64 0,.int .i64 0] 71 _ rfl)
 have hx0:=(AD V).alloc (.cells #[.int .i64 0,.int .i64 0] 71)
 have HX:=zH hx0
 have HL:=zH (hl.ext hx0)
 have HVS:Hid (V.heap.size≤V.heap.size):=zH (Nat.le_refl _)
 have hTZ:turnZ os w=if decT w=2 then (2,if aj os (decX w) < 0 then decX w else aj os (decX w))else (decT w,decX w):=rfl
 generalize turnZ os w=tz at*
 have HTZ:=zH hTZ
 clear hx0 hl hTZ
 go_enter Tryz.func69,Tryz.ntmps69
 go_wp2_with fail
 refine (ig w _ hw.1 hw.2).mono ?_
 rintro e w1 ⟨rfl,hx⟩
 replace HX:=zH (HX.out.trans hx)
 replace HL:=zH (HL.out.ext hx)
 replace HBX:=zH (HBX.out.re hx)
 clear hx
 go_wp2_with fail
 have HB2:=zH (aG w1 #[.int .i64 (decT w),.int .i64 (decX w)] 71 _ rfl)
 have hy:=(AD w1).alloc (.cells #[.int .i64 (decT w),.int .i64 (decX w)] 71)
 replace HX:=zH (HX.out.trans hy)
 replace HL:=zH (HL.out.ext hy)
 replace HBX:=zH (HBX.out.re hy)
 clear hy
 generalize w1.alloc (.cells #[.int .i64 (decT w),.int .i64 (decX w)] 71)=W2 at*
 generalize w1.heap.size=B2 at*
 generalize decX w=x at*
 generalize decT w=t at*
 go_loopw [7] (fun i wr=>∃k:Nat,k≤os.length∧i= .int .i64 k∧Hid (Ext W2 wr)∧Hid (t=2→∀j,j < k→os.getD j 0≠x)) (fun i _=>os.length - (intOf i).toNat)
 case atStart=>exact ⟨0,by omega,rfl,zH (AD _),zH (fun _ j hj=>by omega)⟩
 case round=>
  obtain ⟨k,hk,rfl,hxk,hq⟩:=hrel
  have kR:=(aB (HBX.out.at hxk.out)).1
  have fR:=(aB (HBX.out.at hxk.out)).2
  have k2:=(aB (HB2.out.at hxk.out)).1
  by_cases hlt:k < os.length
  rotate_left
  ·obtain rfl:k=os.length:=by omega
   have HZ:Hid (tz=(t,x)):=zH (by
    rw [HTZ.out]
    by_cases h2:t=2
    ·rw [if_pos h2]
     rcases dh os x with ⟨e,_⟩ | ⟨j,hj,e,e2,_⟩
     ·rw [e,if_pos oM,h2]
     ·exact absurd e2 (hq.out h2 j hj)
    ·rw [if_neg h2])
   clear hlt hk
   go_wp2_with fail
   ((try simp only [Exit.inBlock,Exit.then]);refine bodyPost_ret (v:= .agg #[.int .i64 t,.int .i64 x]) (by simp only [results,Tryz.results69];go_simp) rfl ?_)
   rw [HZ.out]
   exact ⟨rfl,((HX.out.trans hxk.out).setCell HVS.out _).setCell HVS.out _⟩
  obtain ⟨lb,off,rfl,hc⟩:=HL.out.get oM
  have c1:=hxk.out.cell (bD hc hlt)
  have ib0:(0:Int)≤(k:Int):=by omega
  have ib1:(k:Int) < (os.length:Int):=by omega
  have l1:=(aP (HB2.out.at hxk.out)).cells
  have l2:=aJ c1
  have hs0:Ext wr wr:=AD _
  have HLT:=zH hlt
  have HNX:Hid ((t=2→os.getD k 0≠x)→t=2→∀j,j < k+1→os.getD j 0≠x):=zH (fun h h2 j hj=>by
   rcases Nat.lt_or_ge j k with h' | h'
   ·exact hq.out h2 j h'
   ·obtain rfl:j=k:=by omega
    exact h h2)
  have HIT:Hid (t=2→os.getD k 0=x→tz=(2,(k:Int))):=zH (fun h2 e=>by
   rw [HTZ.out,if_pos h2,jW HLT.out e (fun j hj=>hq.out h2 j hj),if_neg oM])
  clear hc c1 hlt hq
  generalize os.getD k 0=z at*
  obtain ⟨wo,rfl⟩:∃wo:World,wo=wr:=⟨_,rfl⟩
  by_cases h2:t=2
  rotate_left
  ·have d2:(t==2)=false:=by rw [beq_eq_false_iff_ne];exact h2
   have HN:=zH (HNX.out (fun e=>absurd e h2))
   clear h2 HNX HIT
   go_wp2_with fail
   (refine aC (W:=wo) (by kernel_rfl) (by kernel_rfl) aS ?_;(repeat (go_big_quiet_step (fail)));refine wpQuiet_nil ?_;intro w1 hx)
   have HXN:=zH (hxk.out.trans hx)
   clear l1 l2 hs0 hx
   go_wp2_with fail
   go_roundw
   case rel=>exact ⟨k+1,by have:=HLT.out;omega,by go_num,HXN,HN⟩
   case measure=>have:=HLT.out;simp [intOf];omega
  subst h2
  by_cases h3:z=x
  rotate_left
  ·have d3:(x==z)=false:=by rw [beq_eq_false_iff_ne];exact fun e=>h3 e.symm
   have HN:=zH (HNX.out (fun _=>h3))
   clear h3 HNX HIT
   go_wp2_with fail
   (refine aC (W:=wo) (by kernel_rfl) (by kernel_rfl) aS ?_;(repeat (go_big_quiet_step (fail)));refine wpQuiet_nil ?_;intro w1 hx)
   have HXN:=zH (hxk.out.trans hx)
   clear l1 l2 hs0 hx
   go_wp2_with fail
   go_roundw
   case rel=>exact ⟨k+1,by have:=HLT.out;omega,by go_num,HXN,HN⟩
   case measure=>have:=HLT.out;simp [intOf];omega
  subst h3
  have HZ:=zH (HIT.out rfl rfl)
  clear HNX HIT
  go_wp2_with fail
  (refine aC (W:=wo) (by kernel_rfl) (by kernel_rfl) aS ?_;(repeat (go_big_quiet_step (fail)));refine wpQuiet_nil ?_;intro w1 hx)
  have HXN:=zH (hxk.out.trans hx)
  have kR:=(aB (HBX.out.at HXN.out)).1
  have fR:=(aB (HBX.out.at HXN.out)).2
  clear l1 l2 hs0 hx
  go_wp2_with fail
  ((try simp only [Exit.inBlock,Exit.then]);refine bodyPost_ret (v:= .agg #[.int .i64 2,.int .i64 (k:Nat)]) (by simp only [results,Tryz.results69];go_simp) rfl ?_)
  rw [HZ.out]
  exact ⟨rfl,((HX.out.trans HXN.out).setCell HVS.out _).setCell HVS.out _⟩
end Go.Proofs.YtphpppjfogpohaaGreat
namespace Go.Proofs.YtphpppjfogpohaaGreat
open Go.RowKit Go.Shelf
def qp (V:World) (vs:List NodV) (rs:List (Int×Int)) (os:List Int) (c:Int) (e:Ending) (w':World):Prop:=
 ∃(H:GraphD) (A:Option Addr) (cap:Nat),e= .returned (.tuple #[.agg #[.slice H.nA H.ns.length H.ncap,.slice H.rA H.rs.length H.rcap],.slice A os.length cap,.int .i64 c])∧GraphAt w' H∧H.ns.map aY=vs∧H.rs=rs∧Shp H∧IntsAt w' A os∧Ext V w'
structure LfI (W:World) (Bg:Nat) (u:Value) (v:Value) (cs:List NodeD) (wr:World):Prop where
 g:wr.heap[Bg]?=some (.cells #[v,u] 27 (0,0))
 own:Own 66 3 dw wr W.heap.size v cs
 each:∀c∈cs,OwnN wr W.heap.size c
 ext:Ext W wr
 lo:W.heap.size≤Bg
section
variable {W wk wr w' : World} {Bg : Nat} {u v : Value} {cs : List NodeD}
theorem LfI.grow (h:LfI W Bg u v cs wr) (hx:Ext wr w'):LfI W Bg u v cs w':=
 ⟨(hx.block (aA h.g)).trans h.g,h.own.ext hx,fun c hc=>(h.each c hc).ext hx,h.ext.trans hx,h.lo⟩
theorem LfI.blk (h:LfI W Bg u v cs wr) (hg:wr.grownBy w' v.ownBlock):w'.heap[Bg]?=some (.cells #[v,u] 27 (0,0)):=
 (hg.block Bg (aA h.g) (h.own.ne_block h.g dM)).trans h.g
theorem LfI.app (h:LfI W Bg u v cs wr) {x:NodeD} (hx:OwnN wr W.heap.size x) {v':Value} (hown:Own 66 3 dw w' W.heap.size v' (cs++ [x])) (hg:wr.grownBy w' v.ownBlock):
  LfI W Bg u v' (cs++ [x]) (w'.setCell ⟨Bg,0,none⟩ v'):=by
 have hb:w'.heap[Bg]?=_:=(hg.block Bg (aA h.g) (h.own.ne_block h.g dM)).trans h.g
 refine ⟨aL hb _,hown.setOther hb dM,fun c hc=> ?_,(h.own.grown hg (Nat.le_refl _) h.ext).setCell h.lo _,h.lo⟩
 have hk:∀y:NodeD,OwnN wr W.heap.size y→OwnN (w'.setCell ⟨Bg,0,none⟩ v') W.heap.size y:=fun y hy=>
  ⟨((hy.kept h.own hg).f).setOther hb dM,((hy.kept h.own hg).r).setOther hb dM⟩
 rcases List.mem_append.1 hc with hc | hc
 ·exact hk c (h.each c hc)
 ·rw [List.mem_singleton.1 hc]
  exact hk x hx
end
structure NdI (W:World) (X:Nat) (kd:Int) (v r:Value) (fs:List (Int×Int)) (ys:List Int) (wr:World):Prop where
 g:wr.heap[X]?=some (.cells #[.int .i64 kd,v,r] 66 (0,0))
 f:Own 71 2 ac wr W.heap.size v fs
 r:Own 61 1 u64C wr W.heap.size r ys
 ext:Ext W wr
 lo:W.heap.size≤X
section
variable {W wr w' : World} {X : Nat} {kd : Int} {v r : Value} {fs : List (Int × Int)} {ys : List Int}
theorem NdI.start (W:World) (kd:Int):NdI W W.heap.size kd (.slice none 0 0) (.slice none 0 0) [] [] (W.alloc (.cells #[.int .i64 kd,.slice none 0 0,.slice none 0 0] 66)):=
 ⟨aR _ _ _ _ rfl,AM _ _ _ _ _,AM _ _ _ _ _,(AD _).alloc _,Nat.le_refl _⟩
theorem NdI.grow (h:NdI W X kd v r fs ys wr) (hx:Ext wr w'):NdI W X kd v r fs ys w':=
 ⟨(hx.block (aA h.g)).trans h.g,h.f.ext hx,h.r.ext hx,h.ext.trans hx,h.lo⟩
theorem NdI.appF (h:NdI W X kd v r fs ys wr) {v':Value} {fs':List (Int×Int)} (hown:Own 71 2 ac w' W.heap.size v' fs') (hg:wr.grownBy w' v.ownBlock):
  NdI W X kd v' r fs' ys (w'.setCell ⟨X,1,none⟩ v'):=by
 have hb:w'.heap[X]?=_:=(hg.block X (aA h.g) (h.f.ne_block h.g dM)).trans h.g
 exact ⟨aL hb _,hown.setOther hb dM,(h.r.keep2 h.f dM hg).setOther hb dM,(h.f.grown hg (Nat.le_refl _) h.ext).setCell h.lo _,h.lo⟩
theorem NdI.blkF (h:NdI W X kd v r fs ys wr) (hg:wr.grownBy w' v.ownBlock):w'.heap[X]?=some (.cells #[.int .i64 kd,v,r] 66 (0,0)):=
 (hg.block X (aA h.g) (h.f.ne_block h.g dM)).trans h.g
theorem NdI.blkR (h:NdI W X kd v r fs ys wr) (hg:wr.grownBy w' r.ownBlock):w'.heap[X]?=some (.cells #[.int .i64 kd,v,r] 66 (0,0)):=
 (hg.block X (aA h.g) (h.r.ne_block h.g dM)).trans h.g
theorem NdI.setR (h:NdI W X kd v r fs ys wr) {r':Value} {ys':List Int} (hown:Own 61 1 u64C wr W.heap.size r' ys'):
  NdI W X kd v r' fs ys' (wr.setCell ⟨X,2,none⟩ r'):=
 ⟨aL h.g _,h.f.setOther h.g dM,hown.setOther h.g dM,h.ext.setCell h.lo _,h.lo⟩
theorem NdI.appR (h:NdI W X kd v r fs ys wr) {r':Value} {ys':List Int} (hown:Own 61 1 u64C w' W.heap.size r' ys') (hg:wr.grownBy w' r.ownBlock):
  NdI W X kd v r' fs ys' (w'.setCell ⟨X,2,none⟩ r'):=by
 have hb:w'.heap[X]?=_:=(hg.block X (aA h.g) (h.r.ne_block h.g dM)).trans h.g
 exact ⟨aL hb _,(h.f.keep2 h.r dM hg).setOther hb dM,hown.setOther hb dM,(h.r.grown hg (Nat.le_refl _) h.ext).setCell h.lo _,h.lo⟩
end
theorem iU (l:List (Bool×Int×Int)) (k:Nat) (h:k < l.length):aq (l.take (k+1))=aq (l.take k)++(if (l.getD k (false,0,0)).1 then [(l.getD k (false,0,0)).2.2]else []):=by
 rw [List.take_add_one,List.getElem?_eq_getElem h,aW h]
 unfold aq
 rw [Option.toList_some,List.filter_append,List.map_append]
 congr 1
 cases hb:(l[k]).1
 ·simp [List.filter_cons,hb]
 ·simp [List.filter_cons,hb]
theorem iK (l:List (Bool×Int×Int)):(aq l).length≤l.length:=by
 unfold aq
 rw [List.length_map]
 exact List.length_filter_le _ _
theorem OwnG.shp {w:World} {B:Nat} {G:GraphD} (h:OwnG w B G):Shp G:=by
 refine ⟨fun x hx=> ?_,?_,?_,?_,?_⟩
 ·have a:=(ag (h.each x hx).f aE dM).2
  have b:=(ag (h.each x hx).r dB dM).2
  exact ⟨a.1,b.1,a.2,b.2⟩
 ·exact (ag h.nodes dL dM).2.1
 ·exact (ag h.roots aE dM).2.1
 ·exact (ag h.nodes dL dM).2.2
 ·exact (ag h.roots aE dM).2.2
theorem uw {w:World} {b off:Nat} {ws:List Int} (hc:∀i x,ws[i]?=some x→∀j v,(u64C x)[j]?=some v→w.cell? ⟨b,off+i*1+j,none⟩=some v) (n m:Nat) (h:n+m≤ws.length):
  RowAt 1 u64C w (some ⟨b,off+n,none⟩) ((List.range m).map fun (k:Nat)=>wdZ ws ((n:Int)+k)):=
 ⟨b,off+n,fun _=>rfl,fun i x hx j v hv=>by
  rw [List.getElem?_map]at hx
  by_cases hi:i < m
  ·rw [List.getElem?_range hi]at hx
   simp only [Option.map_some,Option.some.injEq]at hx
   have h1:=hc (n+i) x (by
    rw [←hx,List.getElem?_eq_getElem oM]
    unfold wdZ
    rw [show ((n:Int)+(i:Int)).toNat=n+i by omega,aW oM]) j v hv
   rw [show off+n+i*1+j=off+(n+i)*1+j by omega]
   exact h1
  ·rw [List.getElem?_eq_none (by simp;omega)]at hx
   cases hx⟩
structure Way (C:Prop):Prop where
 go:C
theorem ya {C G:Prop} (h:Way C→G) (hc:C):G:=h ⟨hc⟩
structure LfR (W W2:World) (Bg:Nat) (v:Value) (cs:List NodeD) (r:Value) (rs:List (Int×Int)) (wr:World):Prop where
 g:wr.heap[Bg]?=some (.cells #[v,r] 27 (0,0))
 own:Own 66 3 dw wr W.heap.size v cs
 each:∀c∈cs,OwnN wr W.heap.size c
 roots:Own 71 2 ac wr W2.heap.size r rs
 sep:∀c∈cs,∀b,(Value.slice c.fA c.fields.length c.fcap).ownBlock=some b→b < W2.heap.size
 ext:Ext W wr
 lo:W.heap.size≤Bg
 le:W.heap.size≤W2.heap.size
section
variable {W W2 wr w' : World} {Bg : Nat} {v r : Value} {cs : List NodeD} {rs : List (Int × Int)}
theorem LfR.start (h:LfI W Bg (.slice none 0 0) v cs wr):LfR W wr Bg v cs (.slice none 0 0) [] wr:=
 ⟨h.g,h.own,h.each,AM _ _ _ _ _,fun c hc b hb=>(bJ (h.each c hc).f hb).2,h.ext,h.lo,h.ext.size⟩
theorem LfR.grow (h:LfR W W2 Bg v cs r rs wr) (hx:Ext wr w'):LfR W W2 Bg v cs r rs w':=
 ⟨(hx.block (aA h.g)).trans h.g,h.own.ext hx,fun c hc=>(h.each c hc).ext hx,h.roots.ext hx,h.sep,h.ext.trans hx,h.lo,h.le⟩
theorem LfR.blk (h:LfR W W2 Bg v cs r rs wr) (hg:wr.grownBy w' r.ownBlock):w'.heap[Bg]?=some (.cells #[v,r] 27 (0,0)):=
 (hg.block Bg (aA h.g) (h.roots.ne_block h.g dM)).trans h.g
theorem LfR.fin (h:LfR W W2 Bg v cs r rs wr) {A A2:Option Addr} {cap cap2:Nat} (hv:v= .slice A cs.length cap) (hr:r= .slice A2 rs.length cap2):OwnG wr W.heap.size ⟨A,cap,cs,A2,cap2,rs⟩:=by
 subst hv
 subst hr
 exact ⟨h.own,h.each,h.roots.mono h.le⟩
theorem LfR.app (h:LfR W W2 Bg v cs r rs wr) (hW2:W2.heap.size≤wr.heap.size) {r':Value} {x:Int×Int} (hown:Own 71 2 ac w' W2.heap.size r' (rs++ [x])) (hg:wr.grownBy w' r.ownBlock):
  LfR W W2 Bg v cs r' (rs++ [x]) (w'.setCell ⟨Bg,1,none⟩ r'):=by
 have hb:w'.heap[Bg]?=_:=(hg.block Bg (aA h.g) (h.roots.ne_block h.g dM)).trans h.g
 refine ⟨aL hb _,(h.own.keep2 h.roots dM hg).setOther hb dM,fun c hc=>⟨?_,((h.each c hc).r.keep2 h.roots dM hg).setOther hb dM⟩,hown.setOther hb dM,h.sep,(h.roots.grown hg h.le h.ext).setCell h.lo _,h.lo,h.le⟩
 refine Own.setOther ((h.each c hc).f.kept hg ?_) hb dM
 cases hA:(Value.slice c.fA c.fields.length c.fcap).ownBlock with
 | none=>exact .inl rfl
 | some b=>
  refine .inr fun e=> ?_
  have h1:=h.sep c hc b hA
  have h2:=(bJ h.roots e.symm).1
  omega
end
end Go.Proofs.YtphpppjfogpohaaGreat
